/- A part of what the row of FnExactPointsOf uses. Conditions: as each theorem states. -/
import Derived.Test.YtcccmceoplcciaaGreatZFnExactPointsOfc
namespace Go.Proofs.YtcccmceoplcciaaGreat.AE
open Go Go.RowKit
set_option linter.unusedVariables false
set_option linter.unusedSimpArgs false
set_option maxRecDepth 20000
set_option maxHeartbeats 2000000
noncomputable section
def gOk (s : ByteArray) (j : Nat) : Prop := bAt s j = 35 ∨ bAt s j = 46
def gridOk (g : D.Grid) : Prop := (2 ≤ g.Rows ∧ g.Rows ≤ 6) ∧ (2 ≤ g.Cols ∧ g.Cols ≤ 6) ∧ ((g.Cells.size : Nat) : Int) = g.Rows * g.Cols ∧ ∀ j, j < g.Cells.size → gOk g.Cells j
instance (g : D.Grid) : Decidable (gridOk g) := Classical.propDecidable _
theorem mulB {a b : Int} (h1 : 2 ≤ a) (h2 : a ≤ 6) (h3 : 2 ≤ b) (h4 : b ≤ 6) : 4 ≤ a * b ∧ a * b ≤ 36 := by
  have e1 : 2 * 2 ≤ a * b := Int.mul_le_mul h1 h3 (by decide) (by omega)
  have e2 : a * b ≤ 6 * 6 := Int.mul_le_mul h2 h4 (by omega) (by decide)
  omega
theorem mulW {a b : Int} (h1 : 2 ≤ a) (h2 : a ≤ 6) (h3 : 2 ≤ b) (h4 : b ≤ 6) : IntKind.i64.wrap (a * b) = a * b := by
  have := mulB h1 h2 h3 h4
  rw [wrap64 (by omega)]
theorem gridOk.size {g : D.Grid} (h : gridOk g) : 4 ≤ g.Cells.size ∧ g.Cells.size ≤ 36 := by
  have := mulB h.1.1 h.1.2 h.2.1.1 h.2.1.2
  have := h.2.2.1
  omega
end
theorem W_spec_IsGrid (n : Nat) (g : D.Grid) (hc : g.Cells.size ≤ maxLen) : Pure (acall Tryz.prog (n + 2)) 105 [(T.agg (eGrid false g))] (tB (decide (gridOk g))) := by
  refine Pure.intro (rs := [ResultVar.tmp 2]) Tryz.func105 rfl rfl rfl (E0 := [(0, (T.agg (eGrid false g)))]) rfl ?_
  obtain ⟨hlim, hmx, hmax⟩ := lims
  refine sr (kO (B.box (ts := (eGrid false g)) (tv (T.agg (eGrid false g)) rfl) nofun rfl) (fO (OF.assign (VEv.bool false)) (nt (sq (sr (lf (tI g.Rows) rfl fa34_0 rfl rfl st3 (cO (cS (vc (tv (tI g.Rows) rfl) (vc (VEv.int .i64 2) (vc (VEv.int .i64 6) vn))) (lps rfl) (W_spec_l1In (n + 0) g.Rows 2 6 ) rfl rfl) (fO (xnot (tv (tB (decide (2 ≤ g.Rows ∧ g.Rows ≤ 6))) rfl)) (mO (tB (!(decide (2 ≤ g.Rows ∧ g.Rows ≤ 6)))) rfl ?_)))))))))
  refine gn (2 ≤ g.Rows ∧ g.Rows ≤ 6) (fun fhg8_1 => ?_) fun fhg8_1 => ?_
  · refine offs 4 4 false 8 (ny fhg8_1) rfl rfl rfl ?_
    refine fO (OF.pickT (VEv.tmpB rfl (ny fhg8_1)) (VEv.bool true)) (mO (tB true) rfl (offs 9 10 false 14 (b := true) rfl rfl rfl rfl (fO (OF.pickT (tv (tB true) rfl) (VEv.bool true)) (nt (ct rfl (sr (fO (OF.assign (VEv.bool false)) (nt (rt (tr (vb (b' := false) rfl ?_)))))))))))
    (symm; rw [decide_eq_false_iff_not]; rintro ⟨g1, g2, g3, g4⟩; omega)
  refine glf (tI g.Cols) (nz fhg8_1) rfl rfl rfl rfl fa34_1 rfl rfl st3 (VRunO.chain (VWant.on rfl rfl (nz fhg8_1)) (cS (vc (tv (tI g.Cols) rfl) (vc (VEv.int .i64 2) (vc (VEv.int .i64 6) vn))) (lps rfl) (W_spec_l1In (n + 0) g.Cols 2 6 ) rfl rfl) (gF (nz fhg8_1) rfl rfl (xnot (tv (tB (decide (2 ≤ g.Cols ∧ g.Cols ≤ 6))) rfl)) (fO (OF.pickF (VEv.tmpB rfl (nz fhg8_1)) (tv (tB (!(decide (2 ≤ g.Cols ∧ g.Cols ≤ 6)))) rfl)) (mO (tB (!(decide (2 ≤ g.Cols ∧ g.Cols ≤ 6)))) rfl ?_))))
  refine gn (2 ≤ g.Cols ∧ g.Cols ≤ 6) (fun fhg14_2 => ?_) fun fhg14_2 => ?_
  · refine offs 9 10 false 14 (ny fhg14_2) rfl rfl rfl ?_
    refine fO (OF.pickT (VEv.tmpB rfl (ny fhg14_2)) (VEv.bool true)) (nt (ct rfl (sr (fO (OF.assign (VEv.bool false)) (nt (rt (tr (vb (b' := false) rfl ?_))))))))
    (symm; rw [decide_eq_false_iff_not]; rintro ⟨g1, g2, g3, g4⟩; omega)
  refine glf (tS g.Cells) (nz fhg14_2) rfl rfl rfl rfl fa34_2 rfl rfl st9 (gL (nz fhg14_2) rfl rfl (B.lenS (tv (tS g.Cells) rfl) U9) (glf (tI g.Rows) (nz fhg14_2) rfl rfl rfl rfl fa34_0 rfl rfl st3 (glf (tI g.Cols) (nz fhg14_2) rfl rfl rfl rfl fa34_1 rfl rfl st3 (gF (nz fhg14_2) rfl rfl (B.mul (n := (g.Rows * g.Cols)) (tv (tI g.Rows) rfl) (tv (tI g.Cols) rfl) (by (refine mulW ?_ ?_ ?_ ?_ <;> omega))) (gF (nz fhg14_2) rfl rfl (xne (tv (tN g.Cells.size) rfl) (tv (tI (g.Rows * g.Cols)) rfl)) (fO (OF.pickF (VEv.tmpB rfl (nz fhg14_2)) (tv (tB (!(decide (((g.Cells.size : Nat) : Int) = (g.Rows * g.Cols))))) rfl)) (nt ?_)))))))
  refine cn (((g.Cells.size : Nat) : Int) = (g.Rows * g.Cols)) rfl (fun fhc0 => ?_) fun fhc0 => ?_
  · refine sr ?_
    refine fO (OF.assign (VEv.bool false)) (nt (rt (tr (vb (b' := false) rfl ?_))))
    (symm; rw [decide_eq_false_iff_not]; rintro ⟨g1, g2, g3, g4⟩; omega)
  refine sk (tn (sq (sr (fO (OF.assign (VEv.int .i64 0)) (nt (VRun.block ?_))))))
  refine VRun.loop (A := Nat) (fun s_ => [(1, (T.op 0 0)), (3, (tN s_))]) (fun s_ => mkO [(0, (Obj.cells (eGrid false g)))]) 1 (fun s_ => s_ ≤ g.Cells.size ∧ ∀ j, j < s_ → gOk g.Cells j) (fun s_ => g.Cells.size - s_) (0 : Nat) ?_ (Wk.mk (fun k => k) ?_ ?_ ?_) ?_
  · exact ⟨Nat.zero_le _, fun j hj => by omega⟩
  · exact (b2 (b2 bn))
  · exact (b3 bn)
  · exact nd rfl
  rintro i (hI' : i ≤ g.Cells.size ∧ ∀ j, j < i → gOk g.Cells j)
  show VRun _ _ _ [(1, (T.op 0 0)), (3, (tN i))] (mkO [(0, (Obj.cells (eGrid false g)))]) 1 _
  have hI1 := hI'.1
  refine sq (sr (mO (tN i) rfl (lf (tS g.Cells) rfl fa34_2 rfl rfl st9 (lO (B.lenS (tv (tS g.Cells) rfl) U9) (fO (xls' (tv (tN i) rfl) (tv (tN g.Cells.size) rfl)) (nt ?_))))))
  refine cd (i < g.Cells.size) rfl (fun fhc1 => ?_) fun fhc1 => ?_
  · refine sk ?_
    refine tn (sq (VRun.block (sr (lf (tS g.Cells) rfl fa34_2 rfl rfl st9 (mO (tN i) rfl ?_)))))
    have hb3 : i < g.Cells.size := (by omega)
    refine fO (xix (tv (tS g.Cells) rfl) (tv (tN i) rfl) hb3 U9) (fO (xne (tv (T.int .u8 (bAt g.Cells i)) rfl) (VEv.int .u8 35)) (mO (tB (!(decide (bAt g.Cells i = 35)))) rfl ?_))
    refine gn (bAt g.Cells i = 35) (fun fhg37_4 => ?_) fun fhg37_4 => ?_
    · refine glf (tS g.Cells) (ny fhg37_4) rfl rfl rfl rfl fa34_2 rfl rfl st9 ?_
      refine gF (ny fhg37_4) rfl rfl (OF.move (tv (tN i) rfl)) ?_
      have hb5 : i < g.Cells.size := (by omega)
      refine gF (ny fhg37_4) rfl rfl (xix (tv (tS g.Cells) rfl) (tv (tN i) rfl) hb5 U9) (gF (ny fhg37_4) rfl rfl (xne (tv (T.int .u8 (bAt g.Cells i)) rfl) (VEv.int .u8 46)) (fO (OF.pickT (VEv.tmpB rfl (ny fhg37_4)) (tv (tB (!(decide (bAt g.Cells i = 46)))) rfl)) (nt ?_)))
      refine cn (bAt g.Cells i = 46) rfl (fun fhc2 => ?_) fun fhc2 => ?_
      · refine sr ?_
        refine fO (OF.assign (VEv.bool false)) (nt (rt (vinB.r (tr (tr (vinB.r (tr (vb (b' := false) rfl ?_))))))))
        (symm; rw [decide_eq_false_iff_not]; rintro ⟨g1, g2, g3, g4⟩; (have := g4 i fhc1; unfold gOk at this; omega))
      refine sk (vinB.n (tn (VRun.region (mO (tN i) rfl (fO (xinc (tv (tN i) rfl) (VEv.int .i64 1) (by omega)) (aO (tN (i + 1)) rfl (VRunO.nil (tn ?_))))))))
      refine ⟨(i + 1 : Nat), ?_, ?_, Wk.mk (fun k => k) ?_ ?_ ?_⟩
      · refine allNext hI' fhc1 ?_; unfold gOk; omega
      · omega
      · exact (b2 (b2 bn))
      · exact (b3 bn)
      · exact nd rfl
    refine offs 5 5 true 37 (nz fhg37_4) rfl rfl rfl (fO (OF.pickF (VEv.tmpB rfl (nz fhg37_4)) (VEv.bool false)) (nt (cf rfl (sk (vinB.n (tn (VRun.region (mO (tN i) rfl (fO (xinc (tv (tN i) rfl) (VEv.int .i64 1) (by omega)) (aO (tN (i + 1)) rfl (VRunO.nil ?_)))))))))))
    refine tn ?_
    refine ⟨(i + 1 : Nat), ?_, ?_, Wk.mk (fun k => k) ?_ ?_ ?_⟩
    · refine allNext hI' fhc1 ?_; unfold gOk; omega
    · omega
    · exact (b2 (b2 bn))
    · exact (b3 bn)
    · exact nd rfl
  refine VRun.exit (vthn.e (vthn.e (vinB.e (tn (sr (fO (OF.assign (VEv.bool true)) (nt (rt (vb (b' := true) rfl ?_)))))))))
  (symm; rw [decide_eq_true_eq]; refine ⟨?_, ?_, ?_, allEnd hI' fhc1⟩ <;> assumption)
theorem W_impl_IsGrid (n : Nat) (g : D.Grid) (hc : g.Cells.size ≤ maxLen) : Pure (acall Tryz.prog (n + 2)) 111 [(T.agg (eGrid false g))] (tB (decide (gridOk g))) := by
  refine Pure.intro (rs := [ResultVar.tmp 2]) Tryz.func111 rfl rfl rfl (E0 := [(0, (T.agg (eGrid false g)))]) rfl ?_
  obtain ⟨hlim, hmx, hmax⟩ := lims
  refine sr (kO (B.box (ts := (eGrid false g)) (tv (T.agg (eGrid false g)) rfl) nofun rfl) (fO (OF.assign (VEv.bool false)) (nt (sq (sr (lf (tI g.Rows) rfl fa34_0 rfl rfl st3 (cO (cS (vc (tv (tI g.Rows) rfl) (vc (VEv.int .i64 2) (vc (VEv.int .i64 6) vn))) (lps rfl) (W_impl_InRange (n + 0) g.Rows 2 6 ) rfl rfl) (fO (xnot (tv (tB (decide (2 ≤ g.Rows ∧ g.Rows ≤ 6))) rfl)) (mO (tB (!(decide (2 ≤ g.Rows ∧ g.Rows ≤ 6)))) rfl ?_)))))))))
  refine gn (2 ≤ g.Rows ∧ g.Rows ≤ 6) (fun fhg8_1 => ?_) fun fhg8_1 => ?_
  · refine offs 4 4 false 8 (ny fhg8_1) rfl rfl rfl ?_
    refine fO (OF.pickT (VEv.tmpB rfl (ny fhg8_1)) (VEv.bool true)) (mO (tB true) rfl (offs 9 10 false 14 (b := true) rfl rfl rfl rfl (fO (OF.pickT (tv (tB true) rfl) (VEv.bool true)) (nt (ct rfl (sr (fO (OF.assign (VEv.bool false)) (nt (rt (tr (vb (b' := false) rfl ?_)))))))))))
    (symm; rw [decide_eq_false_iff_not]; rintro ⟨g1, g2, g3, g4⟩; omega)
  refine glf (tI g.Cols) (nz fhg8_1) rfl rfl rfl rfl fa34_1 rfl rfl st3 (VRunO.chain (VWant.on rfl rfl (nz fhg8_1)) (cS (vc (tv (tI g.Cols) rfl) (vc (VEv.int .i64 2) (vc (VEv.int .i64 6) vn))) (lps rfl) (W_impl_InRange (n + 0) g.Cols 2 6 ) rfl rfl) (gF (nz fhg8_1) rfl rfl (xnot (tv (tB (decide (2 ≤ g.Cols ∧ g.Cols ≤ 6))) rfl)) (fO (OF.pickF (VEv.tmpB rfl (nz fhg8_1)) (tv (tB (!(decide (2 ≤ g.Cols ∧ g.Cols ≤ 6)))) rfl)) (mO (tB (!(decide (2 ≤ g.Cols ∧ g.Cols ≤ 6)))) rfl ?_))))
  refine gn (2 ≤ g.Cols ∧ g.Cols ≤ 6) (fun fhg14_2 => ?_) fun fhg14_2 => ?_
  · refine offs 9 10 false 14 (ny fhg14_2) rfl rfl rfl ?_
    refine fO (OF.pickT (VEv.tmpB rfl (ny fhg14_2)) (VEv.bool true)) (nt (ct rfl (sr (fO (OF.assign (VEv.bool false)) (nt (rt (tr (vb (b' := false) rfl ?_))))))))
    (symm; rw [decide_eq_false_iff_not]; rintro ⟨g1, g2, g3, g4⟩; omega)
  refine glf (tS g.Cells) (nz fhg14_2) rfl rfl rfl rfl fa34_2 rfl rfl st9 (gL (nz fhg14_2) rfl rfl (B.lenS (tv (tS g.Cells) rfl) U9) (glf (tI g.Rows) (nz fhg14_2) rfl rfl rfl rfl fa34_0 rfl rfl st3 (glf (tI g.Cols) (nz fhg14_2) rfl rfl rfl rfl fa34_1 rfl rfl st3 (gF (nz fhg14_2) rfl rfl (B.mul (n := (g.Rows * g.Cols)) (tv (tI g.Rows) rfl) (tv (tI g.Cols) rfl) (by (refine mulW ?_ ?_ ?_ ?_ <;> omega))) (gF (nz fhg14_2) rfl rfl (xne (tv (tN g.Cells.size) rfl) (tv (tI (g.Rows * g.Cols)) rfl)) (fO (OF.pickF (VEv.tmpB rfl (nz fhg14_2)) (tv (tB (!(decide (((g.Cells.size : Nat) : Int) = (g.Rows * g.Cols))))) rfl)) (nt ?_)))))))
  refine cn (((g.Cells.size : Nat) : Int) = (g.Rows * g.Cols)) rfl (fun fhc0 => ?_) fun fhc0 => ?_
  · refine sr ?_
    refine fO (OF.assign (VEv.bool false)) (nt (rt (tr (vb (b' := false) rfl ?_))))
    (symm; rw [decide_eq_false_iff_not]; rintro ⟨g1, g2, g3, g4⟩; omega)
  refine sk (tn (sq (sr (lf (tS g.Cells) rfl fa34_2 rfl rfl st9 (lO (B.lenS (tv (tS g.Cells) rfl) U9) (fO (OF.move (VEv.int .i64 0)) (nt (VRun.block ?_))))))))
  refine VRun.loop (A := Nat) (fun s_ => [(1, (T.op 0 0)), (27, (tN g.Cells.size)), (28, (tN s_))]) (fun s_ => mkO [(0, (Obj.cells (eGrid false g)))]) 1 (fun s_ => s_ ≤ g.Cells.size ∧ ∀ j, j < s_ → gOk g.Cells j) (fun s_ => g.Cells.size - s_) (0 : Nat) ?_ (Wk.mk (fun k => k) ?_ ?_ ?_) ?_
  · exact ⟨Nat.zero_le _, fun j hj => by omega⟩
  · exact (b2 (b2 (b2 bn)))
  · exact (b3 bn)
  · exact nd rfl
  rintro i (hI' : i ≤ g.Cells.size ∧ ∀ j, j < i → gOk g.Cells j)
  show VRun _ _ _ [(1, (T.op 0 0)), (27, (tN g.Cells.size)), (28, (tN i))] (mkO [(0, (Obj.cells (eGrid false g)))]) 1 _
  have hI1 := hI'.1
  refine sr (fO (xls' (tv (tN i) rfl) (tv (tN g.Cells.size) rfl)) (nt (sq ?_)))
  refine cd (i < g.Cells.size) rfl (fun fhc1 => ?_) fun fhc1 => ?_
  · refine sk ?_
    refine tn (sq (VRun.block (sr (mO (tN i) rfl (aO (tN i) rfl (nt (sr (lf (tS g.Cells) rfl fa34_2 rfl rfl st9 (mO (tN i) rfl ?_)))))))))
    have hb3 : i < g.Cells.size := (by omega)
    refine fO (xix (tv (tS g.Cells) rfl) (tv (tN i) rfl) hb3 U9) (fO (xne (tv (T.int .u8 (bAt g.Cells i)) rfl) (VEv.int .u8 35)) (mO (tB (!(decide (bAt g.Cells i = 35)))) rfl ?_))
    refine gn (bAt g.Cells i = 35) (fun fhg36_4 => ?_) fun fhg36_4 => ?_
    · refine glf (tS g.Cells) (ny fhg36_4) rfl rfl rfl rfl fa34_2 rfl rfl st9 ?_
      refine gF (ny fhg36_4) rfl rfl (OF.move (tv (tN i) rfl)) ?_
      have hb5 : i < g.Cells.size := (by omega)
      refine gF (ny fhg36_4) rfl rfl (xix (tv (tS g.Cells) rfl) (tv (tN i) rfl) hb5 U9) (gF (ny fhg36_4) rfl rfl (xne (tv (T.int .u8 (bAt g.Cells i)) rfl) (VEv.int .u8 46)) (fO (OF.pickT (VEv.tmpB rfl (ny fhg36_4)) (tv (tB (!(decide (bAt g.Cells i = 46)))) rfl)) (nt ?_)))
      refine cn (bAt g.Cells i = 46) rfl (fun fhc2 => ?_) fun fhc2 => ?_
      · refine sr ?_
        refine fO (OF.assign (VEv.bool false)) (nt (rt (vinB.r (tr (tr (vinB.r (tr (vb (b' := false) rfl ?_))))))))
        (symm; rw [decide_eq_false_iff_not]; rintro ⟨g1, g2, g3, g4⟩; (have := g4 i fhc1; unfold gOk at this; omega))
      refine sk (vinB.n (tn (VRun.region (fO (xinc (tv (tN i) rfl) (VEv.int .i64 1) (by omega)) (mO (tN (i + 1)) rfl (VRunO.nil (tn ?_)))))))
      refine ⟨(i + 1 : Nat), ?_, ?_, Wk.mk (fun k => k) ?_ ?_ ?_⟩
      · refine allNext hI' fhc1 ?_; unfold gOk; omega
      · omega
      · exact (b2 (b2 (b2 bn)))
      · exact (b3 bn)
      · exact nd rfl
    refine offs 5 5 true 36 (nz fhg36_4) rfl rfl rfl (fO (OF.pickF (VEv.tmpB rfl (nz fhg36_4)) (VEv.bool false)) (nt (cf rfl (sk (vinB.n (tn (VRun.region (fO (xinc (tv (tN i) rfl) (VEv.int .i64 1) (by omega)) (mO (tN (i + 1)) rfl (VRunO.nil (tn ?_)))))))))))
    refine ⟨(i + 1 : Nat), ?_, ?_, Wk.mk (fun k => k) ?_ ?_ ?_⟩
    · refine allNext hI' fhc1 ?_; unfold gOk; omega
    · omega
    · exact (b2 (b2 (b2 bn)))
    · exact (b3 bn)
    · exact nd rfl
  refine VRun.exit (vthn.e (vthn.e (vinB.e (tn (sr (fO (OF.assign (VEv.bool true)) (nt (rt (vb (b' := true) rfl ?_)))))))))
  (symm; rw [decide_eq_true_eq]; refine ⟨?_, ?_, ?_, allEnd hI' fhc1⟩ <;> assumption)
noncomputable section
def backTo (s : ByteArray) : Nat → ByteArray
  | 0 => ⟨#[]⟩
  | i + 1 => s.extract i (i + 1) ++ backTo s i
def back (s : ByteArray) : ByteArray := if s.size ≤ 100 then backTo s s.size else ⟨#[]⟩
theorem backTo_size {s : ByteArray} : ∀ {i : Nat}, i ≤ s.size → (backTo s i).size = i
  | 0, _ => rfl
  | i + 1, h => by
    simp only [backTo, ByteArray.size_append, ByteArray.size_extract, backTo_size (show i ≤ s.size by omega)]
    omega
theorem back_end {s : ByteArray} {i : Nat} (h1 : i ≤ s.size) (h2 : s.size ≤ 100 ∨ i = 0) (h3 : ¬ i < s.size ∨ ¬ s.size ≤ 100) : backTo s i = back s := by
  unfold back
  split
  · rw [show i = s.size by omega]
  · rw [show i = 0 by omega]; rfl
def turnG (g : D.Grid) : D.Grid := if gridOk g then D.Grid.mk g.Rows g.Cols (back g.Cells) else D.Grid.mk 0 0 ByteArray.empty
def symG (g : D.Grid) : Prop := gridOk g ∧ D.Grid.mk g.Rows g.Cols (back g.Cells) = g
instance (g : D.Grid) : Decidable (symG g) := Classical.propDecidable _
theorem turnG_sym {g : D.Grid} (h : gridOk g) : turnG g = g ↔ symG g := by
  unfold turnG symG
  rw [if_pos h]
  exact ⟨fun e => ⟨h, e⟩, fun e => e.2⟩
end
theorem W_spec_Backwards (n : Nat) (s : ByteArray) (hc : s.size ≤ maxLen) : Pure (acall Tryz.prog (n + 1)) 181 [(tS s)] (tS (back s)) := by
  refine Pure.intro (rs := [ResultVar.tmp 2]) Tryz.func181 rfl rfl rfl (E0 := [(0, (tS s))]) rfl ?_
  obtain ⟨hlim, hmx, hmax⟩ := lims
  refine sr (fO (OF.assign (VEv.str (⟨#[]⟩ : ByteArray))) (nt (sr (fO (OF.assign (VEv.str (⟨#[]⟩ : ByteArray))) (nt (sq (sr (fO (OF.assign (VEv.int .i64 0)) (nt (VRun.block ?_))))))))))
  refine VRun.loop (A := Nat) (fun s_ => [(0, (tS s)), (2, (tS (⟨#[]⟩ : ByteArray))), (3, (tS (backTo s s_))), (4, (tN s_))]) (fun s_ => mkO []) 0 (fun s_ => s_ ≤ s.size ∧ (s.size ≤ 100 ∨ s_ = 0)) (fun s_ => s.size - s_) (0 : Nat) ?_ (Wk.mk (fun k => k) ?_ ?_ ?_) ?_
  · exact ⟨Nat.zero_le _, .inr rfl⟩
  · exact (b2 (b2 (bc ⟨(congrArg T.str (show (⟨#[]⟩ : ByteArray) = backTo s 0 from (by rfl))), rfl⟩ (b2 bn))))
  · exact bn
  · exact nd rfl
  rintro i (hI' : i ≤ s.size ∧ (s.size ≤ 100 ∨ i = 0))
  show VRun _ _ _ [(0, (tS s)), (2, (tS (⟨#[]⟩ : ByteArray))), (3, (tS (backTo s i))), (4, (tN i))] (mkO []) 0 _
  have hI1 := hI'.1
  have hbs := backTo_size hI1
  refine sq (sr (mO (tN i) rfl (mO (tS s) rfl (lO (B.lenS (tv (tS s) rfl) U9) (fO (xls' (tv (tN i) rfl) (tv (tN s.size) rfl)) (mO (tB (decide (i < s.size))) rfl ?_))))))
  refine gw (i < s.size) (fun fhg9_1 => ?_) fun fhg9_1 => ?_
  · refine gF (dy fhg9_1) rfl rfl (OF.move (tv (tS s) rfl)) ?_
    refine gL (dy fhg9_1) rfl rfl (B.lenS (tv (tS s) rfl) U9) (gF (dy fhg9_1) rfl rfl (B.leq (c := (decide (s.size ≤ 100))) (tv (tN s.size) rfl) (VEv.int .i64 100) (by exact decN (by omega))) (fO (OF.pickT (VEv.tmpB rfl (dy fhg9_1)) (tv (tB (decide (s.size ≤ 100))) rfl)) (nt ?_)))
    refine cd (s.size ≤ 100) rfl (fun fhc0 => ?_) fun fhc0 => ?_
    · refine sk ?_
      refine tn (sq (VRun.block (VRun.region (mO (tS s) rfl (mO (tN i) rfl (mO (tN i) rfl (fO (xinc (tv (tN i) rfl) (VEv.int .i64 1) (by omega)) (lO (OL.sliceS (i := i) (j := (i + 1)) (tv (tS s) rfl) (tv (tN i) rfl) (tv (tN (i + 1)) rfl) rfl rfl (by omega) (by omega) U9) (mO (tS (backTo s i)) rfl (fO (B.sadd (tv (tS (s.extract i (i + 1))) rfl) (tv (tS (backTo s i)) rfl) (by (simp only [ByteArray.size_extract]; omega))) (aO (tS ((s.extract i (i + 1)) ++ backTo s i)) rfl ?_)))))))))))
      refine VRunO.nil (vinB.n (tn (VRun.region (mO (tN i) rfl (fO (xinc (tv (tN i) rfl) (VEv.int .i64 1) (by omega)) (aO (tN (i + 1)) rfl (VRunO.nil (tn ?_))))))))
      refine ⟨(i + 1 : Nat), ?_, ?_, Wk.mk (fun k => k) ?_ ?_ ?_⟩
      · exact ⟨by omega, .inl (by omega)⟩
      · omega
      · exact (b2 (b2 (bc ⟨(congrArg T.str (show ((s.extract i (i + 1)) ++ backTo s i) = backTo s (i + 1) from (by rfl))), rfl⟩ (b2 bn))))
      · exact bn
      · exact nd rfl
    refine VRun.exit (vthn.e (vthn.e (vinB.e (tn (sr (mO (tS (backTo s i)) rfl (aO (tS (backTo s i)) rfl (nt (rt ?_)))))))))
    refine vfin.eq (r' := (tS (backTo s i))) ?_ (vfin.r (VRes.tmp (t := (tS (backTo s i))) rfl VRes.nil) (Give.str _))
    show (tS (backTo s i)) = (tS (back s))
    refine congrArg T.str ?_
    refine back_end hI1 hI'.2 ?_; omega
  refine offs 3 4 true 9 (dz fhg9_1) rfl rfl rfl (fO (OF.pickF (VEv.tmpB rfl (dz fhg9_1)) (VEv.bool false)) (nt (cf rfl (VRun.exit (vthn.e (vthn.e (vinB.e (tn (sr (mO (tS (backTo s i)) rfl (aO (tS (backTo s i)) rfl ?_)))))))))))
  refine nt (rt ?_)
  refine vfin.eq (r' := (tS (backTo s i))) ?_ (vfin.r (VRes.tmp (t := (tS (backTo s i))) rfl VRes.nil) (Give.str _))
  show (tS (backTo s i)) = (tS (back s))
  refine congrArg T.str ?_
  refine back_end hI1 hI'.2 ?_; omega
theorem W_spec_TurnGrid (n : Nat) (g : D.Grid) (hc : g.Cells.size ≤ maxLen) : Pure (acall Tryz.prog (n + 3)) 156 [(T.agg (eGrid false g))] (T.agg (eGrid true (turnG g))) := by
  refine Pure.intro (rs := [ResultVar.cell 2 34]) Tryz.func156 rfl rfl rfl (E0 := [(0, (T.agg (eGrid false g)))]) rfl ?_
  obtain ⟨hlim, hmx, hmax⟩ := lims
  refine sr (kO (B.box (ts := (eGrid false g)) (tv (T.agg (eGrid false g)) rfl) nofun rfl) (kO (B.alloc (t := (T.agg [(tN 0), (tN 0), (tS ByteArray.empty)])) (ts := [(tN 0), (tN 0), (tS ByteArray.empty)]) zo34 zc34 nofun (fun _ => .agg _ _ rfl (RLof (RL.cons (.int _ _) (RL.cons (.int _ _) (RL.cons (.str _) (RL.nil _)))))) rfl) (nt (sq (sr (lO (OL.loadOn (us := (eGrid false g)) (tv (T.op 0 0) rfl) rfl st34 sz34 (lb rfl) rfl) (cO (cS (vc (tv (T.agg (eGrid false g)) rfl) vn) (LendL.cons (lg okeGrid) ln) (W_spec_IsGrid (n + 0) g (by assumption)) rfl rfl) (fO (xnot (tv (tB (decide (gridOk g))) rfl)) (nt ?_)))))))))
  refine cn (gridOk g) rfl (fun fhc0 => ?_) fun fhc0 => ?_
  · refine sr ?_
    refine fO (OF.build (l := []) (zs := [(tN 0), (tN 0), (tS ByteArray.empty)]) (out := [(tN 0), (tN 0), (tS ByteArray.empty)]) VEvp.nil bn Tryz.underlying34 zo34 (fun _ => RL.cons (.int _ _) (RL.cons (.int _ _) (RL.cons (.str _) (RL.nil _)))) (by kernel_rfl) (by kernel_rfl)) (cO (B.storeO (us := [(tN 0), (tN 0), (tS ByteArray.empty)]) (ws := [(tN 0), (tN 0), (tS ByteArray.empty)]) (tv (T.op 1 0) rfl) (tv (T.agg [(tN 0), (tN 0), (tS ByteArray.empty)]) rfl) nofun rfl rfl (lb rfl) if34 sz34 (bc rfl (bc rfl (bc rfl bn))) rfl) (nt (rt (tr ?_))))
    refine vfin.eq (r' := (T.agg [(tN 0), (tN 0), (tS ByteArray.empty)])) ?_ (vfin.r (VRes.celln (ws := [(tN 0), (tN 0), (tS ByteArray.empty)]) rfl rfl st34 sz34 (lb rfl) rfl VRes.nil) (Give.agg (GiveL.cons (Give.int _ _) (GiveL.cons (Give.int _ _) (GiveL.cons (Give.str _) GiveL.nil (by decide)) (by decide)) (by decide))))
    show (T.agg [(tN 0), (tN 0), (tS ByteArray.empty)]) = (T.agg (eGrid true (turnG g)))
    (rw [turnG, if_neg fhc0]; rfl)
  refine sk (tn (sr (lf (tS g.Cells) rfl fa34_2 rfl rfl st9 (cO (cS (vc (tv (tS g.Cells) rfl) vn) (lps rfl) (W_spec_Backwards (n + 1) g.Cells (by assumption)) rfl rfl) (fO (OF.fieldAddrO (tv (T.op 0 0) rfl) fa34_2) (cO (B.storeO (us := [(tS (back g.Cells))]) (ws := [(tI g.Rows), (tI g.Cols), (tS (back g.Cells))]) (tv (T.op 0 2) rfl) (tv (tS (back g.Cells)) rfl) nofun rfl rfl (lb rfl) if9 sz9 (bc rfl bn) rfl) (nt (sr (lO (OL.loadOn (us := [(tI g.Rows), (tI g.Cols), (tS (back g.Cells))]) (tv (T.op 0 0) rfl) rfl st34 sz34 (lb rfl) rfl) (cO (B.storeO (us := [(tI g.Rows), (tI g.Cols), (tS (back g.Cells))]) (ws := [(tI g.Rows), (tI g.Cols), (tS (back g.Cells))]) (tv (T.op 1 0) rfl) (tv (T.agg [(tI g.Rows), (tI g.Cols), (tS (back g.Cells))]) rfl) nofun rfl rfl (lb rfl) if34 sz34 (bc rfl (bc rfl (bc rfl bn))) rfl) (nt ?_)))))))))))
  refine rt ?_
  refine vfin.eq (r' := (T.agg [(tI g.Rows), (tI g.Cols), (tS (back g.Cells))])) ?_ (vfin.r (VRes.celln (ws := [(tI g.Rows), (tI g.Cols), (tS (back g.Cells))]) rfl rfl st34 sz34 (lb rfl) rfl VRes.nil) (Give.agg (GiveL.cons (Give.int _ _) (GiveL.cons (Give.int _ _) (GiveL.cons (Give.str _) GiveL.nil (by decide)) (by decide)) (by decide))))
  show (T.agg [(tI g.Rows), (tI g.Cols), (tS (back g.Cells))]) = (T.agg (eGrid true (turnG g)))
  (rw [turnG, if_pos fhc0]; rfl)
theorem W_spec_IsSymmetric (n : Nat) (g : D.Grid) (hc : g.Cells.size ≤ maxLen) : Pure (acall Tryz.prog (n + 4)) 132 [(T.agg (eGrid false g))] (tB (decide (symG g))) := by
  refine Pure.intro (rs := [ResultVar.tmp 2]) Tryz.func132 rfl rfl rfl (E0 := [(0, (T.agg (eGrid false g)))]) rfl ?_
  obtain ⟨hlim, hmx, hmax⟩ := lims
  refine sr (kO (B.box (ts := (eGrid false g)) (tv (T.agg (eGrid false g)) rfl) nofun rfl) (fO (OF.assign (VEv.bool false)) (nt (sq (VRun.draw (B := [[], [0], [0, 1], [1, 0, 2], [2, 0, 1, 3], [1, 0, 2], [5, 3, 1, 0, 2, 4], [4, 3, 5, 6, 1, 0, 2], [2, 0, 1, 6, 5, 3, 4, 7]]) (by kernel_rfl) (by kernel_rfl) (lD (OL.loadOn (us := (eGrid false g)) (tv (T.op 0 0) rfl) rfl st34 sz34 (lb rfl) rfl) rfl rfl (VRunD.quiet (bi := [0]) rfl VWant.always rfl rfl rfl bn (cS (vc (tv (T.agg (eGrid false g)) rfl) vn) (LendL.cons (lg okeGrid) ln) (W_spec_IsGrid (n + 1) g (by assumption)) rfl rfl) (mD (tB (decide (gridOk g))) rfl rfl ?_))))))))
  refine gw (gridOk g) (fun fhg5_1 => ?_) fun fhg5_1 => ?_
  · refine VRunD.look rfl (VWant.on rfl rfl (dy fhg5_1)) rfl (OL.loadOn (us := (eGrid false g)) (tv (T.op 0 0) rfl) rfl st34 sz34 (lb rfl) rfl) ?_
    refine VRunD.quiet (bi := [2, 0, 1, 3]) rfl (VWant.on rfl rfl (dy fhg5_1)) rfl rfl rfl bn (cS (vc (tv (T.agg (eGrid false g)) rfl) vn) (LendL.cons (lg okeGrid) ln) (W_spec_TurnGrid (n + 0) g (by assumption)) rfl rfl) (VRunD.look rfl (VWant.on rfl rfl (dy fhg5_1)) rfl (OL.loadOn (us := (eGrid false g)) (tv (T.op 0 0) rfl) rfl st34 sz34 (lb rfl) rfl) (VRunD.free rfl (VWant.on rfl rfl (dy fhg5_1)) rfl (B.eql34 (a := turnG g) (b := g) (m := true) (m' := false) (tv (T.agg (eGrid true (turnG g))) rfl) (tv (T.agg (eGrid false g)) rfl)) (fD (OF.pickT (VEv.tmpB rfl (dy fhg5_1)) (tv (tB (decide (turnG g = g))) rfl)) rfl rfl (fD (OF.assign (tv (tB (decide (turnG g = g))) rfl)) rfl rfl (VRunD.nil (tn (rt (vb (b' := (decide (turnG g = g))) rfl ?_))))))))
    (refine decN ?_; refine turnG_sym ?_; assumption)
  refine oD rfl rfl (dz fhg5_1) rfl (oD rfl rfl (dz fhg5_1) rfl (oD rfl rfl (dz fhg5_1) rfl (oD rfl rfl (dz fhg5_1) rfl (fD (OF.pickF (VEv.tmpB rfl (dz fhg5_1)) (VEv.bool false)) rfl rfl (fD (OF.assign (tv (tB false) rfl)) rfl rfl (VRunD.nil (tn (rt (vb (b' := false) rfl ?_)))))))))
  (symm; rw [decide_eq_false_iff_not]; intro h; have := h.1; contradiction)
noncomputable section
theorem mkStr_toList (l : List Int) : (mkStr l).data.toList = l.map fun n => UInt8.ofNat n.toNat := by
  have h : ∀ (l : List Int) (r : ByteArray), (l.foldl (fun r n => r.push (UInt8.ofNat n.toNat)) r).data.toList = r.data.toList ++ l.map fun n => UInt8.ofNat n.toNat := by
    intro l
    induction l with
    | nil => intro r; simp
    | cons n l ih => intro r; rw [List.foldl_cons, ih]; simp [ByteArray.push]
  simpa [mkStr] using h l ByteArray.empty
theorem bytes_ext {a b : ByteArray} (h : a.data.toList = b.data.toList) : a = b := by
  cases a; cases b
  simp only at h
  congr 1
  exact Array.toList_inj.1 h
theorem bys_back (s : ByteArray) : (bys s).map (fun n => UInt8.ofNat n.toNat) = s.data.toList := by
  simp [bys, Function.comp_def]
theorem backTo_list {s : ByteArray} : ∀ {i : Nat}, i ≤ s.size → (backTo s i).data.toList = (s.data.toList.take i).reverse
  | 0, _ => rfl
  | i + 1, h => by
    have hi : i < s.data.toList.length := by rw [Array.length_toList]; exact h
    rw [backTo, ByteArray.data_append, Array.toList_append, backTo_list (show i ≤ s.size by omega), List.take_add_one, List.getElem?_eq_getElem hi, List.reverse_append]
    congr 1
    rw [ByteArray.data_extract, Array.toList_extract, List.extract_eq_take_drop]
    simp [List.drop_eq_getElem_cons hi]
theorem rev_back {s : ByteArray} (h : s.size ≤ 100) : mkStr (bys s).reverse = back s := by
  unfold back
  rw [if_pos h]
  refine bytes_ext ?_
  rw [mkStr_toList, List.map_reverse, bys_back, backTo_list (Nat.le_refl _), List.take_of_length_le (by rw [Array.length_toList]; exact Nat.le_refl _)]
theorem back_big {s : ByteArray} (h : 100 < s.size) : back s = ⟨#[]⟩ := by
  unfold back
  rw [if_neg (by omega)]
end
theorem W_impl_Backwards (n : Nat) (s : ByteArray) (hc : s.size ≤ maxLen) : Pure (acall Tryz.prog (n + 2)) 184 [(tS s)] (tS (back s)) := by
  refine Pure.intro (rs := [ResultVar.tmp 2]) Tryz.func184 rfl rfl rfl (E0 := [(0, (tS s))]) rfl ?_
  obtain ⟨hlim, hmx, hmax⟩ := lims
  refine sr (fO (OF.assign (VEv.str (⟨#[]⟩ : ByteArray))) (nt (sq (sr (mO (tS s) rfl (lO (B.lenS (tv (tS s) rfl) U9) (fO (B.gtr (c := (decide (100 < s.size))) (tv (tN s.size) rfl) (VEv.int .i64 100) (by exact decN (by omega))) (nt ?_))))))))
  refine cd (100 < s.size) rfl (fun fhc0 => ?_) fun fhc0 => ?_
  · refine sr ?_
    refine fO (OF.assign (VEv.str (⟨#[]⟩ : ByteArray))) (nt (rt (tr ?_)))
    refine vfin.eq (r' := (tS (⟨#[]⟩ : ByteArray))) ?_ (vfin.r (VRes.tmp (t := (tS (⟨#[]⟩ : ByteArray))) rfl VRes.nil) (Give.str _))
    show (tS (⟨#[]⟩ : ByteArray)) = (tS (back s))
    refine congrArg T.str ?_
    exact (back_big fhc0).symm
  refine sk (tn (sr (mO (tS s) rfl (kO (B.convSB (tv (tS s) rfl) U9 U132 U5) (aO (T.os 1 0 0 (((bys s).map (eByte true)).length)) rfl (nt (sr (mO (T.os 1 0 0 (((bys s).map (eByte true)).length)) rfl (cO (OC.callMut (rows := ((bys s).map (eByte true))) (rows' := (((bys s).reverse).map (eByte true))) rfl (vc (tv (T.os 1 0 0 (((bys s).map (eByte true)).length)) rfl) vn) rfl rfl bn (scMap (fun _ => rfl) _) (scMap (fun _ => rfl) _) (W_slices_Reverse_byte_byte_ (n + 0) (bys s) (by (rw [bys_len]; omega)))) (nt (sr ?_)))))))))))
  refine mO (T.os 1 0 0 (((bys s).map (eByte true)).length)) rfl (lO (B.convBS (l := (bys s).reverse) (tv (T.os 1 0 0 (((bys s).map (eByte true)).length)) rfl) rfl (by simp only [List.length_map, List.length_reverse, List.length_set]) U132 U5 U9) (aO (tS (mkStr ((bys s).reverse))) rfl (nt (rt ?_))))
  refine vfin.eq (r' := (tS (mkStr ((bys s).reverse)))) ?_ (vfin.r (VRes.tmp (t := (tS (mkStr ((bys s).reverse)))) rfl VRes.nil) (Give.str _))
  show (tS (mkStr ((bys s).reverse))) = (tS (back s))
  refine congrArg T.str ?_
  refine rev_back ?_; omega
theorem W_impl_TurnGrid (n : Nat) (g : D.Grid) (hc : g.Cells.size ≤ maxLen) : Pure (acall Tryz.prog (n + 3)) 160 [(T.agg (eGrid false g))] (T.agg (eGrid true (turnG g))) := by
  refine Pure.intro (rs := [ResultVar.cell 2 34]) Tryz.func160 rfl rfl rfl (E0 := [(0, (T.agg (eGrid false g)))]) rfl ?_
  obtain ⟨hlim, hmx, hmax⟩ := lims
  refine sr (kO (B.box (ts := (eGrid false g)) (tv (T.agg (eGrid false g)) rfl) nofun rfl) (kO (B.alloc (t := (T.agg [(tN 0), (tN 0), (tS ByteArray.empty)])) (ts := [(tN 0), (tN 0), (tS ByteArray.empty)]) zo34 zc34 nofun (fun _ => .agg _ _ rfl (RLof (RL.cons (.int _ _) (RL.cons (.int _ _) (RL.cons (.str _) (RL.nil _)))))) rfl) (nt (sq (sr (lO (OL.loadOn (us := (eGrid false g)) (tv (T.op 0 0) rfl) rfl st34 sz34 (lb rfl) rfl) (cO (cS (vc (tv (T.agg (eGrid false g)) rfl) vn) (LendL.cons (lg okeGrid) ln) (W_impl_IsGrid (n + 0) g (by assumption)) rfl rfl) (fO (xnot (tv (tB (decide (gridOk g))) rfl)) (nt ?_)))))))))
  refine cn (gridOk g) rfl (fun fhc0 => ?_) fun fhc0 => ?_
  · refine sr ?_
    refine fO (OF.build (l := []) (zs := [(tN 0), (tN 0), (tS ByteArray.empty)]) (out := [(tN 0), (tN 0), (tS ByteArray.empty)]) VEvp.nil bn Tryz.underlying34 zo34 (fun _ => RL.cons (.int _ _) (RL.cons (.int _ _) (RL.cons (.str _) (RL.nil _)))) (by kernel_rfl) (by kernel_rfl)) (cO (B.storeO (us := [(tN 0), (tN 0), (tS ByteArray.empty)]) (ws := [(tN 0), (tN 0), (tS ByteArray.empty)]) (tv (T.op 1 0) rfl) (tv (T.agg [(tN 0), (tN 0), (tS ByteArray.empty)]) rfl) nofun rfl rfl (lb rfl) if34 sz34 (bc rfl (bc rfl (bc rfl bn))) rfl) (nt (rt (tr ?_))))
    refine vfin.eq (r' := (T.agg [(tN 0), (tN 0), (tS ByteArray.empty)])) ?_ (vfin.r (VRes.celln (ws := [(tN 0), (tN 0), (tS ByteArray.empty)]) rfl rfl st34 sz34 (lb rfl) rfl VRes.nil) (Give.agg (GiveL.cons (Give.int _ _) (GiveL.cons (Give.int _ _) (GiveL.cons (Give.str _) GiveL.nil (by decide)) (by decide)) (by decide))))
    show (T.agg [(tN 0), (tN 0), (tS ByteArray.empty)]) = (T.agg (eGrid true (turnG g)))
    (rw [turnG, if_neg fhc0]; rfl)
  refine sk (tn (sr (lf (tS g.Cells) rfl fa34_2 rfl rfl st9 (cO (cS (vc (tv (tS g.Cells) rfl) vn) (lps rfl) (W_impl_Backwards (n + 0) g.Cells (by assumption)) rfl rfl) (fO (OF.fieldAddrO (tv (T.op 0 0) rfl) fa34_2) (cO (B.storeO (us := [(tS (back g.Cells))]) (ws := [(tI g.Rows), (tI g.Cols), (tS (back g.Cells))]) (tv (T.op 0 2) rfl) (tv (tS (back g.Cells)) rfl) nofun rfl rfl (lb rfl) if9 sz9 (bc rfl bn) rfl) (nt (sr (lO (OL.loadOn (us := [(tI g.Rows), (tI g.Cols), (tS (back g.Cells))]) (tv (T.op 0 0) rfl) rfl st34 sz34 (lb rfl) rfl) (cO (B.storeO (us := [(tI g.Rows), (tI g.Cols), (tS (back g.Cells))]) (ws := [(tI g.Rows), (tI g.Cols), (tS (back g.Cells))]) (tv (T.op 1 0) rfl) (tv (T.agg [(tI g.Rows), (tI g.Cols), (tS (back g.Cells))]) rfl) nofun rfl rfl (lb rfl) if34 sz34 (bc rfl (bc rfl (bc rfl bn))) rfl) (nt ?_)))))))))))
  refine rt ?_
  refine vfin.eq (r' := (T.agg [(tI g.Rows), (tI g.Cols), (tS (back g.Cells))])) ?_ (vfin.r (VRes.celln (ws := [(tI g.Rows), (tI g.Cols), (tS (back g.Cells))]) rfl rfl st34 sz34 (lb rfl) rfl VRes.nil) (Give.agg (GiveL.cons (Give.int _ _) (GiveL.cons (Give.int _ _) (GiveL.cons (Give.str _) GiveL.nil (by decide)) (by decide)) (by decide))))
  show (T.agg [(tI g.Rows), (tI g.Cols), (tS (back g.Cells))]) = (T.agg (eGrid true (turnG g)))
  (rw [turnG, if_pos fhc0]; rfl)
theorem W_impl_IsSymmetric (n : Nat) (g : D.Grid) (hc : g.Cells.size ≤ maxLen) : Pure (acall Tryz.prog (n + 4)) 136 [(T.agg (eGrid false g))] (tB (decide (symG g))) := by
  refine Pure.intro (rs := [ResultVar.tmp 2]) Tryz.func136 rfl rfl rfl (E0 := [(0, (T.agg (eGrid false g)))]) rfl ?_
  obtain ⟨hlim, hmx, hmax⟩ := lims
  refine sr (kO (B.box (ts := (eGrid false g)) (tv (T.agg (eGrid false g)) rfl) nofun rfl) (fO (OF.assign (VEv.bool false)) (nt (sq (VRun.draw (B := [[], [0], [0, 1], [1, 0, 2], [1, 0, 2], [2, 0, 1, 4], [4, 5, 2, 0, 1, 3], [3, 5, 4, 6, 1, 0, 2], [2, 0, 1, 6, 4, 5, 3, 7]]) (by kernel_rfl) (by kernel_rfl) (lD (OL.loadOn (us := (eGrid false g)) (tv (T.op 0 0) rfl) rfl st34 sz34 (lb rfl) rfl) rfl rfl (VRunD.quiet (bi := [0]) rfl VWant.always rfl rfl rfl bn (cS (vc (tv (T.agg (eGrid false g)) rfl) vn) (LendL.cons (lg okeGrid) ln) (W_impl_IsGrid (n + 1) g (by assumption)) rfl rfl) (mD (tB (decide (gridOk g))) rfl rfl ?_))))))))
  refine gw (gridOk g) (fun fhg5_1 => ?_) fun fhg5_1 => ?_
  · refine VRunD.look rfl (VWant.on rfl rfl (dy fhg5_1)) rfl (OL.loadOn (us := (eGrid false g)) (tv (T.op 0 0) rfl) rfl st34 sz34 (lb rfl) rfl) ?_
    refine VRunD.look rfl (VWant.on rfl rfl (dy fhg5_1)) rfl (OL.loadOn (us := (eGrid false g)) (tv (T.op 0 0) rfl) rfl st34 sz34 (lb rfl) rfl) (VRunD.quiet (bi := [2, 0, 1, 4]) rfl (VWant.on rfl rfl (dy fhg5_1)) rfl rfl rfl bn (cS (vc (tv (T.agg (eGrid false g)) rfl) vn) (LendL.cons (lg okeGrid) ln) (W_impl_TurnGrid (n + 0) g (by assumption)) rfl rfl) (VRunD.free rfl (VWant.on rfl rfl (dy fhg5_1)) rfl (B.eql34 (a := g) (b := turnG g) (m := false) (m' := true) (tv (T.agg (eGrid false g)) rfl) (tv (T.agg (eGrid true (turnG g))) rfl)) (fD (OF.pickT (VEv.tmpB rfl (dy fhg5_1)) (tv (tB (decide (g = turnG g))) rfl)) rfl rfl (fD (OF.assign (tv (tB (decide (g = turnG g))) rfl)) rfl rfl (VRunD.nil (tn (rt (vb (b' := (decide (g = turnG g))) rfl ?_))))))))
    (refine decN ⟨fun e => ?_, fun e => ?_⟩ <;> first | exact (turnG_sym ‹_›).1 e.symm | exact ((turnG_sym ‹_›).2 e).symm)
  refine oD rfl rfl (dz fhg5_1) rfl (oD rfl rfl (dz fhg5_1) rfl (oD rfl rfl (dz fhg5_1) rfl (oD rfl rfl (dz fhg5_1) rfl (fD (OF.pickF (VEv.tmpB rfl (dz fhg5_1)) (VEv.bool false)) rfl rfl (fD (OF.assign (tv (tB false) rfl)) rfl rfl (VRunD.nil (tn (rt (vb (b' := false) rfl ?_)))))))))
  (symm; rw [decide_eq_false_iff_not]; intro h; have := h.1; contradiction)
end Go.Proofs.YtcccmceoplcciaaGreat.AE
namespace Go.Proofs.YtcccmceoplcciaaGreat.AE
open Go Go.RowKit
set_option linter.unusedVariables false
set_option linter.unusedSimpArgs false
set_option maxRecDepth 20000
set_option maxHeartbeats 2000000
noncomputable section
def fillOk (c f : Int) : Prop := (c = 35 → f = 35) ∧ (c = 46 → f = 63 ∨ (97 ≤ f ∧ f ≤ 122))
def isFill (g : D.Grid) (f : ByteArray) : Prop := gridOk g ∧ f.size = g.Cells.size ∧ ∀ j, j < f.size → fillOk (bAt g.Cells j) (bAt f j)
instance (g : D.Grid) (f : ByteArray) : Decidable (isFill g f) := Classical.propDecidable _
theorem bneE (p q : Prop) [Decidable p] [Decidable q] : (!(decide p == decide q)) = decide (¬ (p ↔ q)) := by
  by_cases hp : p <;> by_cases hq : q <;> simp [hp, hq]
end
theorem W_spec_IsFill (n : Nat) (g : D.Grid) (f : ByteArray) (hc : g.Cells.size ≤ maxLen) (hf : f.size ≤ maxLen) : Pure (acall Tryz.prog (n + 3)) 58 [(T.agg (eGrid false g)), (tS f)] (tB (decide (isFill g f))) := by
  refine Pure.intro (rs := [ResultVar.tmp 4]) Tryz.func58 rfl rfl rfl (E0 := [(0, (T.agg (eGrid false g))), (1, (tS f))]) rfl ?_
  obtain ⟨hlim, hmx, hmax⟩ := lims
  refine sr (kO (B.box (ts := (eGrid false g)) (tv (T.agg (eGrid false g)) rfl) nofun rfl) (fO (OF.assign (VEv.bool false)) (nt (sq (sr (lO (OL.loadOn (us := (eGrid false g)) (tv (T.op 0 0) rfl) rfl st34 sz34 (lb rfl) rfl) (cO (cS (vc (tv (T.agg (eGrid false g)) rfl) vn) (LendL.cons (lg okeGrid) ln) (W_spec_IsGrid (n + 0) g (by assumption)) rfl rfl) (fO (xnot (tv (tB (decide (gridOk g))) rfl)) (mO (tB (!(decide (gridOk g)))) rfl ?_)))))))))
  refine gn (gridOk g) (fun fhg10_1 => ?_) fun fhg10_1 => ?_
  · refine offs 6 3 false 10 (ny fhg10_1) rfl rfl rfl ?_
    refine fO (OF.pickT (VEv.tmpB rfl (ny fhg10_1)) (VEv.bool true)) (nt (ct rfl (sr (fO (OF.assign (VEv.bool false)) (nt (rt (tr (vb (b' := false) rfl ?_))))))))
    (symm; rw [decide_eq_false_iff_not]; rintro ⟨g1, g2, g3⟩; contradiction)
  refine gF (nz fhg10_1) rfl rfl (OF.move (tv (tS f) rfl)) (gL (nz fhg10_1) rfl rfl (B.lenS (tv (tS f) rfl) U9) (glf (tS g.Cells) (nz fhg10_1) rfl rfl rfl rfl fa34_2 rfl rfl st9 (gL (nz fhg10_1) rfl rfl (B.lenS (tv (tS g.Cells) rfl) U9) (gF (nz fhg10_1) rfl rfl (xne' (tv (tN f.size) rfl) (tv (tN g.Cells.size) rfl)) (fO (OF.pickF (VEv.tmpB rfl (nz fhg10_1)) (tv (tB (!(decide (f.size = g.Cells.size)))) rfl)) (nt ?_))))))
  refine cn (f.size = g.Cells.size) rfl (fun fhc0 => ?_) fun fhc0 => ?_
  · refine sr ?_
    refine fO (OF.assign (VEv.bool false)) (nt (rt (tr (vb (b' := false) rfl ?_))))
    (symm; rw [decide_eq_false_iff_not]; rintro ⟨g1, g2, g3⟩; contradiction)
  refine sk (tn (sq (sr (fO (OF.assign (VEv.int .i64 0)) (nt (VRun.block ?_))))))
  refine VRun.loop (A := Nat) (fun s_ => [(1, (tS f)), (2, (T.op 0 0)), (5, (tN s_))]) (fun s_ => mkO [(0, (Obj.cells (eGrid false g)))]) 1 (fun s_ => s_ ≤ f.size ∧ ∀ j, j < s_ → fillOk (bAt g.Cells j) (bAt f j)) (fun s_ => f.size - s_) (0 : Nat) ?_ (Wk.mk (fun k => k) ?_ ?_ ?_) ?_
  · exact ⟨Nat.zero_le _, fun j hj => by omega⟩
  · exact (b2 (b2 (b2 bn)))
  · exact (b3 bn)
  · exact nd rfl
  rintro i (hI' : i ≤ f.size ∧ ∀ j, j < i → fillOk (bAt g.Cells j) (bAt f j))
  show VRun _ _ _ [(1, (tS f)), (2, (T.op 0 0)), (5, (tN i))] (mkO [(0, (Obj.cells (eGrid false g)))]) 1 _
  have hI1 := hI'.1
  have hgo : gridOk g := by assumption
  refine sq (sr (mO (tN i) rfl (mO (tS f) rfl (lO (B.lenS (tv (tS f) rfl) U9) (fO (xls' (tv (tN i) rfl) (tv (tN f.size) rfl)) (nt ?_))))))
  refine cd (i < f.size) rfl (fun fhc1 => ?_) fun fhc1 => ?_
  · have hgi := hgo.2.2.2 i (by omega)
    unfold gOk at hgi
    refine sk (tn (sq (VRun.block (sr (mO (tS f) rfl (mO (tN i) rfl ?_))))))
    have hb2 : i < f.size := (by omega)
    refine fO (xix (tv (tS f) rfl) (tv (tN i) rfl) hb2 U9) (fO (xeq (tv (T.int .u8 (bAt f i)) rfl) (VEv.int .u8 63)) (mO (tB (decide (bAt f i = 63))) rfl ?_))
    refine gw (bAt f i = 63) (fun fhg28_3 => ?_) fun fhg28_3 => ?_
    · refine offs 5 4 false 28 (dy fhg28_3) rfl rfl rfl ?_
      refine offu 4 9 true 33 rfl rfl rfl (oO rfl rfl (dy fhg28_3) (fO (OF.pickT (VEv.tmpB rfl (dy fhg28_3)) (VEv.bool true)) (aO (tB true) rfl (nt (sr (lf (tS g.Cells) rfl fa34_2 rfl rfl st9 (mO (tN i) rfl ?_)))))))
      have hb4 : i < g.Cells.size := (by omega)
      refine fO (xix (tv (tS g.Cells) rfl) (tv (tN i) rfl) hb4 U9) (fO (xeq (tv (T.int .u8 (bAt g.Cells i)) rfl) (VEv.int .u8 35)) (mO (tB (decide (bAt g.Cells i = 35))) rfl ?_))
      refine gw (bAt g.Cells i = 35) (fun fhg45_5 => ?_) fun fhg45_5 => ?_
      · refine gF (dy fhg45_5) rfl rfl (OF.move (tv (tS f) rfl)) ?_
        refine gF (dy fhg45_5) rfl rfl (OF.move (tv (tN i) rfl)) ?_
        have hb6 : i < f.size := (by omega)
        refine gF (dy fhg45_5) rfl rfl (xix (tv (tS f) rfl) (tv (tN i) rfl) hb6 U9) (gF (dy fhg45_5) rfl rfl (xne (tv (T.int .u8 (bAt f i)) rfl) (VEv.int .u8 35)) (fO (OF.pickT (VEv.tmpB rfl (dy fhg45_5)) (tv (tB (!(decide (bAt f i = 35)))) rfl)) (mO (tB (!(decide (bAt f i = 35)))) rfl ?_)))
        refine gn (bAt f i = 35) (fun fhg51_7 => ?_) fun fhg51_7 => ?_
        · refine offs 6 11 false 51 (ny fhg51_7) rfl rfl rfl ?_
          refine offu 2 17 true 57 rfl rfl rfl (oO rfl rfl (ny fhg51_7) (fO (OF.pickT (VEv.tmpB rfl (ny fhg51_7)) (VEv.bool true)) (nt (ct rfl (sr (fO (OF.assign (VEv.bool false)) (nt (rt (vinB.r (tr (tr ?_)))))))))))
          refine vinB.r (tr (vb (b' := false) rfl ?_))
          (symm; rw [decide_eq_false_iff_not]; rintro ⟨g1, g2, g3⟩; (have g4 := g3 i fhc1; unfold fillOk at g4; omega))
        refine glf (tS g.Cells) (nz fhg51_7) rfl rfl rfl rfl fa34_2 rfl rfl st9 (gF (nz fhg51_7) rfl rfl (OF.move (tv (tN i) rfl)) ?_)
        have hb8 : i < g.Cells.size := (by omega)
        refine gF (nz fhg51_7) rfl rfl (xix (tv (tS g.Cells) rfl) (tv (tN i) rfl) hb8 U9) (gF (nz fhg51_7) rfl rfl (xeq (tv (T.int .u8 (bAt g.Cells i)) rfl) (VEv.int .u8 46)) (gF (nz fhg51_7) rfl rfl (OF.move (tv (tB (decide (bAt g.Cells i = 46))) rfl)) ?_))
        refine gw (bAt g.Cells i = 46) (fun fhg57_9 => ?_) fun fhg57_9 => ?_
        · refine gF (dy fhg57_9) rfl rfl (OF.move (tv (tB true) rfl)) ?_
          refine gF (dy fhg57_9) rfl rfl (B.not (c := false) (tv (tB true) rfl) rfl) (gF (nz fhg51_7) rfl rfl (OF.pickT (VEv.tmpB rfl (dy fhg57_9)) (tv (tB false) rfl)) (fO (OF.pickF (VEv.tmpB rfl (nz fhg51_7)) (tv (tB false) rfl)) (nt (cf rfl (sk (vinB.n (tn (VRun.region (mO (tN i) rfl (fO (xinc (tv (tN i) rfl) (VEv.int .i64 1) (by omega)) (aO (tN (i + 1)) rfl ?_)))))))))))
          refine VRunO.nil (tn ?_)
          refine ⟨(i + 1 : Nat), ?_, ?_, Wk.mk (fun k => k) ?_ ?_ ?_⟩
          · refine allNext hI' fhc1 ?_; unfold fillOk; omega
          · omega
          · exact (b2 (b2 (b2 bn)))
          · exact (b3 bn)
          · exact nd rfl
        refine offs 2 17 true 57 (dz fhg57_9) rfl rfl rfl (gF (nz fhg51_7) rfl rfl (OF.pickF (VEv.tmpB rfl (dz fhg57_9)) (VEv.bool false)) (fO (OF.pickF (VEv.tmpB rfl (nz fhg51_7)) (tv (tB false) rfl)) (nt (cf rfl (sk (vinB.n (tn (VRun.region (mO (tN i) rfl (fO (xinc (tv (tN i) rfl) (VEv.int .i64 1) (by omega)) (aO (tN (i + 1)) rfl ?_)))))))))))
        refine VRunO.nil (tn ?_)
        refine ⟨(i + 1 : Nat), ?_, ?_, Wk.mk (fun k => k) ?_ ?_ ?_⟩
        · refine allNext hI' fhc1 ?_; unfold fillOk; omega
        · omega
        · exact (b2 (b2 (b2 bn)))
        · exact (b3 bn)
        · exact nd rfl
      refine offs 4 5 true 45 (dz fhg45_5) rfl rfl rfl (fO (OF.pickF (VEv.tmpB rfl (dz fhg45_5)) (VEv.bool false)) (mO (tB false) rfl (VRunO.free (VWant.on (b := false) rfl rfl rfl) (OF.fieldAddrO (tv (T.op 0 0) rfl) fa34_2) (VRunO.look (VWant.on (b := false) rfl rfl rfl) (OL.loadO1 (t := (tS g.Cells)) (tv (T.op 0 2) rfl) rfl rfl st9) (VRunO.free (VWant.on (b := false) rfl rfl rfl) (OF.move (tv (tN i) rfl)) ?_)))))
      have hb10 : i < g.Cells.size := (by omega)
      refine VRunO.free (VWant.on (b := false) rfl rfl rfl) (xix (tv (tS g.Cells) rfl) (tv (tN i) rfl) hb10 U9) (VRunO.free (VWant.on (b := false) rfl rfl rfl) (xeq (tv (T.int .u8 (bAt g.Cells i)) rfl) (VEv.int .u8 46)) (VRunO.free (VWant.on (b := false) rfl rfl rfl) (OF.move (tv (tB (decide (bAt g.Cells i = 46))) rfl)) ?_))
      refine gw (bAt g.Cells i = 46) (fun fhg57_11 => ?_) fun fhg57_11 => ?_
      · refine gF (dy fhg57_11) rfl rfl (OF.move (tv (tB true) rfl)) ?_
        refine gF (dy fhg57_11) rfl rfl (B.not (c := false) (tv (tB true) rfl) rfl) (VRunO.free (VWant.on (b := false) rfl rfl rfl) (OF.pickT (VEv.tmpB rfl (dy fhg57_11)) (tv (tB false) rfl)) (fO (OF.pickF (tv (tB false) rfl) (tv (tB false) rfl)) (nt (cf rfl (sk (vinB.n (tn (VRun.region (mO (tN i) rfl (fO (xinc (tv (tN i) rfl) (VEv.int .i64 1) (by omega)) (aO (tN (i + 1)) rfl ?_)))))))))))
        refine VRunO.nil (tn ?_)
        refine ⟨(i + 1 : Nat), ?_, ?_, Wk.mk (fun k => k) ?_ ?_ ?_⟩
        · refine allNext hI' fhc1 ?_; unfold fillOk; omega
        · omega
        · exact (b2 (b2 (b2 bn)))
        · exact (b3 bn)
        · exact nd rfl
      refine offs 2 17 true 57 (dz fhg57_11) rfl rfl rfl (VRunO.free (VWant.on (b := false) rfl rfl rfl) (OF.pickF (VEv.tmpB rfl (dz fhg57_11)) (VEv.bool false)) (fO (OF.pickF (tv (tB false) rfl) (tv (tB false) rfl)) (nt (cf rfl (sk (vinB.n (tn (VRun.region (mO (tN i) rfl (fO (xinc (tv (tN i) rfl) (VEv.int .i64 1) (by omega)) (aO (tN (i + 1)) rfl ?_)))))))))))
      refine VRunO.nil (tn ?_)
      refine ⟨(i + 1 : Nat), ?_, ?_, Wk.mk (fun k => k) ?_ ?_ ?_⟩
      · refine allNext hI' fhc1 ?_; unfold fillOk; omega
      · omega
      · exact (b2 (b2 (b2 bn)))
      · exact (b3 bn)
      · exact nd rfl
    refine gF (dz fhg28_3) rfl rfl (OF.move (tv (tS f) rfl)) (gF (dz fhg28_3) rfl rfl (OF.move (tv (tN i) rfl)) ?_)
    have hb12 : i < f.size := (by omega)
    refine gF (dz fhg28_3) rfl rfl (xix (tv (tS f) rfl) (tv (tN i) rfl) hb12 U9) (gF (dz fhg28_3) rfl rfl (xge (tv (T.int .u8 (bAt f i)) rfl) (VEv.int .u8 97)) (gF (dz fhg28_3) rfl rfl (OF.move (tv (tB (decide (97 ≤ bAt f i))) rfl)) ?_))
    refine gw (97 ≤ bAt f i) (fun fhg33_13 => ?_) fun fhg33_13 => ?_
    · refine gF (dy fhg33_13) rfl rfl (OF.move (tv (tS f) rfl)) ?_
      refine gF (dy fhg33_13) rfl rfl (OF.move (tv (tN i) rfl)) ?_
      have hb14 : i < f.size := (by omega)
      refine gF (dy fhg33_13) rfl rfl (xix (tv (tS f) rfl) (tv (tN i) rfl) hb14 U9) (gF (dy fhg33_13) rfl rfl (xle (tv (T.int .u8 (bAt f i)) rfl) (VEv.int .u8 122)) (gF (dz fhg28_3) rfl rfl (OF.pickT (VEv.tmpB rfl (dy fhg33_13)) (tv (tB (decide (bAt f i ≤ 122))) rfl)) (fO (OF.pickF (VEv.tmpB rfl (dz fhg28_3)) (tv (tB (decide (bAt f i ≤ 122))) rfl)) (aO (tB (decide (bAt f i ≤ 122))) rfl (nt (sr (lf (tS g.Cells) rfl fa34_2 rfl rfl st9 (mO (tN i) rfl ?_))))))))
      have hb15 : i < g.Cells.size := (by omega)
      refine fO (xix (tv (tS g.Cells) rfl) (tv (tN i) rfl) hb15 U9) (fO (xeq (tv (T.int .u8 (bAt g.Cells i)) rfl) (VEv.int .u8 35)) (mO (tB (decide (bAt g.Cells i = 35))) rfl ?_))
      refine gw (bAt g.Cells i = 35) (fun fhg45_16 => ?_) fun fhg45_16 => ?_
      · refine gF (dy fhg45_16) rfl rfl (OF.move (tv (tS f) rfl)) ?_
        refine gF (dy fhg45_16) rfl rfl (OF.move (tv (tN i) rfl)) ?_
        have hb17 : i < f.size := (by omega)
        refine gF (dy fhg45_16) rfl rfl (xix (tv (tS f) rfl) (tv (tN i) rfl) hb17 U9) (gF (dy fhg45_16) rfl rfl (xne (tv (T.int .u8 (bAt f i)) rfl) (VEv.int .u8 35)) (fO (OF.pickT (VEv.tmpB rfl (dy fhg45_16)) (tv (tB (!(decide (bAt f i = 35)))) rfl)) (mO (tB (!(decide (bAt f i = 35)))) rfl ?_)))
        refine gn (bAt f i = 35) (fun fhg51_18 => ?_) fun fhg51_18 => ?_
        · refine offs 6 11 false 51 (ny fhg51_18) rfl rfl rfl ?_
          refine offu 2 17 true 57 rfl rfl rfl (oO rfl rfl (ny fhg51_18) (fO (OF.pickT (VEv.tmpB rfl (ny fhg51_18)) (VEv.bool true)) (nt (ct rfl (sr (fO (OF.assign (VEv.bool false)) (nt (rt (vinB.r (tr (tr ?_)))))))))))
          refine vinB.r (tr (vb (b' := false) rfl ?_))
          (symm; rw [decide_eq_false_iff_not]; rintro ⟨g1, g2, g3⟩; (have g4 := g3 i fhc1; unfold fillOk at g4; omega))
        refine glf (tS g.Cells) (nz fhg51_18) rfl rfl rfl rfl fa34_2 rfl rfl st9 (gF (nz fhg51_18) rfl rfl (OF.move (tv (tN i) rfl)) ?_)
        have hb19 : i < g.Cells.size := (by omega)
        refine gF (nz fhg51_18) rfl rfl (xix (tv (tS g.Cells) rfl) (tv (tN i) rfl) hb19 U9) (gF (nz fhg51_18) rfl rfl (xeq (tv (T.int .u8 (bAt g.Cells i)) rfl) (VEv.int .u8 46)) (gF (nz fhg51_18) rfl rfl (OF.move (tv (tB (decide (bAt g.Cells i = 46))) rfl)) ?_))
        refine gw (bAt g.Cells i = 46) (fun fhg57_20 => ?_) fun fhg57_20 => ?_
        · refine gF (dy fhg57_20) rfl rfl (OF.move (tv (tB (decide (bAt f i ≤ 122))) rfl)) ?_
          refine gF (dy fhg57_20) rfl rfl (xnot (tv (tB (decide (bAt f i ≤ 122))) rfl)) (gF (nz fhg51_18) rfl rfl (OF.pickT (VEv.tmpB rfl (dy fhg57_20)) (tv (tB (!(decide (bAt f i ≤ 122)))) rfl)) (fO (OF.pickF (VEv.tmpB rfl (nz fhg51_18)) (tv (tB (!(decide (bAt f i ≤ 122)))) rfl)) (nt ?_)))
          refine cn (bAt f i ≤ 122) rfl (fun fhc2 => ?_) fun fhc2 => ?_
          · refine sr ?_
            refine fO (OF.assign (VEv.bool false)) (nt (rt (vinB.r (tr (tr (vinB.r (tr (vb (b' := false) rfl ?_))))))))
            (symm; rw [decide_eq_false_iff_not]; rintro ⟨g1, g2, g3⟩; omega)
          refine sk (vinB.n (tn (VRun.region (mO (tN i) rfl (fO (xinc (tv (tN i) rfl) (VEv.int .i64 1) (by omega)) (aO (tN (i + 1)) rfl (VRunO.nil (tn ?_))))))))
          refine ⟨(i + 1 : Nat), ?_, ?_, Wk.mk (fun k => k) ?_ ?_ ?_⟩
          · refine allNext hI' fhc1 ?_; unfold fillOk; omega
          · omega
          · exact (b2 (b2 (b2 bn)))
          · exact (b3 bn)
          · exact nd rfl
        refine offs 2 17 true 57 (dz fhg57_20) rfl rfl rfl (gF (nz fhg51_18) rfl rfl (OF.pickF (VEv.tmpB rfl (dz fhg57_20)) (VEv.bool false)) (fO (OF.pickF (VEv.tmpB rfl (nz fhg51_18)) (tv (tB false) rfl)) (nt (cf rfl (sk (vinB.n (tn (VRun.region (mO (tN i) rfl (fO (xinc (tv (tN i) rfl) (VEv.int .i64 1) (by omega)) (aO (tN (i + 1)) rfl ?_)))))))))))
        refine VRunO.nil (tn ?_)
        refine ⟨(i + 1 : Nat), ?_, ?_, Wk.mk (fun k => k) ?_ ?_ ?_⟩
        · refine allNext hI' fhc1 ?_; unfold fillOk; omega
        · omega
        · exact (b2 (b2 (b2 bn)))
        · exact (b3 bn)
        · exact nd rfl
      refine offs 4 5 true 45 (dz fhg45_16) rfl rfl rfl (fO (OF.pickF (VEv.tmpB rfl (dz fhg45_16)) (VEv.bool false)) (mO (tB false) rfl (VRunO.free (VWant.on (b := false) rfl rfl rfl) (OF.fieldAddrO (tv (T.op 0 0) rfl) fa34_2) (VRunO.look (VWant.on (b := false) rfl rfl rfl) (OL.loadO1 (t := (tS g.Cells)) (tv (T.op 0 2) rfl) rfl rfl st9) (VRunO.free (VWant.on (b := false) rfl rfl rfl) (OF.move (tv (tN i) rfl)) ?_)))))
      have hb21 : i < g.Cells.size := (by omega)
      refine VRunO.free (VWant.on (b := false) rfl rfl rfl) (xix (tv (tS g.Cells) rfl) (tv (tN i) rfl) hb21 U9) (VRunO.free (VWant.on (b := false) rfl rfl rfl) (xeq (tv (T.int .u8 (bAt g.Cells i)) rfl) (VEv.int .u8 46)) (VRunO.free (VWant.on (b := false) rfl rfl rfl) (OF.move (tv (tB (decide (bAt g.Cells i = 46))) rfl)) ?_))
      refine gw (bAt g.Cells i = 46) (fun fhg57_22 => ?_) fun fhg57_22 => ?_
      · refine gF (dy fhg57_22) rfl rfl (OF.move (tv (tB (decide (bAt f i ≤ 122))) rfl)) ?_
        refine gF (dy fhg57_22) rfl rfl (xnot (tv (tB (decide (bAt f i ≤ 122))) rfl)) (VRunO.free (VWant.on (b := false) rfl rfl rfl) (OF.pickT (VEv.tmpB rfl (dy fhg57_22)) (tv (tB (!(decide (bAt f i ≤ 122)))) rfl)) (fO (OF.pickF (tv (tB false) rfl) (tv (tB (!(decide (bAt f i ≤ 122)))) rfl)) (nt ?_)))
        refine cn (bAt f i ≤ 122) rfl (fun fhc2 => ?_) fun fhc2 => ?_
        · refine sr ?_
          refine fO (OF.assign (VEv.bool false)) (nt (rt (vinB.r (tr (tr (vinB.r (tr (vb (b' := false) rfl ?_))))))))
          (symm; rw [decide_eq_false_iff_not]; rintro ⟨g1, g2, g3⟩; (have g4 := g3 i fhc1; unfold fillOk at g4; omega))
        refine sk (vinB.n (tn (VRun.region (mO (tN i) rfl (fO (xinc (tv (tN i) rfl) (VEv.int .i64 1) (by omega)) (aO (tN (i + 1)) rfl (VRunO.nil (tn ?_))))))))
        refine ⟨(i + 1 : Nat), ?_, ?_, Wk.mk (fun k => k) ?_ ?_ ?_⟩
        · refine allNext hI' fhc1 ?_; unfold fillOk; omega
        · omega
        · exact (b2 (b2 (b2 bn)))
        · exact (b3 bn)
        · exact nd rfl
      refine offs 2 17 true 57 (dz fhg57_22) rfl rfl rfl (VRunO.free (VWant.on (b := false) rfl rfl rfl) (OF.pickF (VEv.tmpB rfl (dz fhg57_22)) (VEv.bool false)) (fO (OF.pickF (tv (tB false) rfl) (tv (tB false) rfl)) (nt (cf rfl (sk (vinB.n (tn (VRun.region (mO (tN i) rfl (fO (xinc (tv (tN i) rfl) (VEv.int .i64 1) (by omega)) (aO (tN (i + 1)) rfl ?_)))))))))))
      refine VRunO.nil (tn ?_)
      refine ⟨(i + 1 : Nat), ?_, ?_, Wk.mk (fun k => k) ?_ ?_ ?_⟩
      · refine allNext hI' fhc1 ?_; unfold fillOk; omega
      · omega
      · exact (b2 (b2 (b2 bn)))
      · exact (b3 bn)
      · exact nd rfl
    refine offs 4 9 true 33 (dz fhg33_13) rfl rfl rfl (gF (dz fhg28_3) rfl rfl (OF.pickF (VEv.tmpB rfl (dz fhg33_13)) (VEv.bool false)) (fO (OF.pickF (VEv.tmpB rfl (dz fhg28_3)) (tv (tB false) rfl)) (aO (tB false) rfl (nt (sr (lf (tS g.Cells) rfl fa34_2 rfl rfl st9 (mO (tN i) rfl ?_)))))))
    have hb23 : i < g.Cells.size := (by omega)
    refine fO (xix (tv (tS g.Cells) rfl) (tv (tN i) rfl) hb23 U9) (fO (xeq (tv (T.int .u8 (bAt g.Cells i)) rfl) (VEv.int .u8 35)) (mO (tB (decide (bAt g.Cells i = 35))) rfl ?_))
    refine gw (bAt g.Cells i = 35) (fun fhg45_24 => ?_) fun fhg45_24 => ?_
    · refine gF (dy fhg45_24) rfl rfl (OF.move (tv (tS f) rfl)) ?_
      refine gF (dy fhg45_24) rfl rfl (OF.move (tv (tN i) rfl)) ?_
      have hb25 : i < f.size := (by omega)
      refine gF (dy fhg45_24) rfl rfl (xix (tv (tS f) rfl) (tv (tN i) rfl) hb25 U9) (gF (dy fhg45_24) rfl rfl (xne (tv (T.int .u8 (bAt f i)) rfl) (VEv.int .u8 35)) (fO (OF.pickT (VEv.tmpB rfl (dy fhg45_24)) (tv (tB (!(decide (bAt f i = 35)))) rfl)) (mO (tB (!(decide (bAt f i = 35)))) rfl ?_)))
      refine gn (bAt f i = 35) (fun fhg51_26 => ?_) fun fhg51_26 => ?_
      · refine offs 6 11 false 51 (ny fhg51_26) rfl rfl rfl ?_
        refine offu 2 17 true 57 rfl rfl rfl (oO rfl rfl (ny fhg51_26) (fO (OF.pickT (VEv.tmpB rfl (ny fhg51_26)) (VEv.bool true)) (nt (ct rfl (sr (fO (OF.assign (VEv.bool false)) (nt (rt (vinB.r (tr (tr ?_)))))))))))
        refine vinB.r (tr (vb (b' := false) rfl ?_))
        (symm; rw [decide_eq_false_iff_not]; rintro ⟨g1, g2, g3⟩; (have g4 := g3 i fhc1; unfold fillOk at g4; omega))
      refine glf (tS g.Cells) (nz fhg51_26) rfl rfl rfl rfl fa34_2 rfl rfl st9 (gF (nz fhg51_26) rfl rfl (OF.move (tv (tN i) rfl)) ?_)
      have hb27 : i < g.Cells.size := (by omega)
      refine gF (nz fhg51_26) rfl rfl (xix (tv (tS g.Cells) rfl) (tv (tN i) rfl) hb27 U9) (gF (nz fhg51_26) rfl rfl (xeq (tv (T.int .u8 (bAt g.Cells i)) rfl) (VEv.int .u8 46)) (gF (nz fhg51_26) rfl rfl (OF.move (tv (tB (decide (bAt g.Cells i = 46))) rfl)) ?_))
      refine gw (bAt g.Cells i = 46) (fun fhg57_28 => ?_) fun fhg57_28 => ?_
      · refine gF (dy fhg57_28) rfl rfl (OF.move (tv (tB false) rfl)) ?_
        refine gF (dy fhg57_28) rfl rfl (B.not (c := true) (tv (tB false) rfl) rfl) (gF (nz fhg51_26) rfl rfl (OF.pickT (VEv.tmpB rfl (dy fhg57_28)) (tv (tB true) rfl)) (fO (OF.pickF (VEv.tmpB rfl (nz fhg51_26)) (tv (tB true) rfl)) (nt (ct rfl (sr (fO (OF.assign (VEv.bool false)) (nt (rt (vinB.r (tr (tr ?_)))))))))))
        refine vinB.r (tr (vb (b' := false) rfl ?_))
        (symm; rw [decide_eq_false_iff_not]; rintro ⟨g1, g2, g3⟩; omega)
      refine offs 2 17 true 57 (dz fhg57_28) rfl rfl rfl (gF (nz fhg51_26) rfl rfl (OF.pickF (VEv.tmpB rfl (dz fhg57_28)) (VEv.bool false)) (fO (OF.pickF (VEv.tmpB rfl (nz fhg51_26)) (tv (tB false) rfl)) (nt (cf rfl (sk (vinB.n (tn (VRun.region (mO (tN i) rfl (fO (xinc (tv (tN i) rfl) (VEv.int .i64 1) (by omega)) (aO (tN (i + 1)) rfl ?_)))))))))))
      refine VRunO.nil (tn ?_)
      refine ⟨(i + 1 : Nat), ?_, ?_, Wk.mk (fun k => k) ?_ ?_ ?_⟩
      · refine allNext hI' fhc1 ?_; unfold fillOk; omega
      · omega
      · exact (b2 (b2 (b2 bn)))
      · exact (b3 bn)
      · exact nd rfl
    refine offs 4 5 true 45 (dz fhg45_24) rfl rfl rfl (fO (OF.pickF (VEv.tmpB rfl (dz fhg45_24)) (VEv.bool false)) (mO (tB false) rfl (VRunO.free (VWant.on (b := false) rfl rfl rfl) (OF.fieldAddrO (tv (T.op 0 0) rfl) fa34_2) (VRunO.look (VWant.on (b := false) rfl rfl rfl) (OL.loadO1 (t := (tS g.Cells)) (tv (T.op 0 2) rfl) rfl rfl st9) (VRunO.free (VWant.on (b := false) rfl rfl rfl) (OF.move (tv (tN i) rfl)) ?_)))))
    have hb29 : i < g.Cells.size := (by omega)
    refine VRunO.free (VWant.on (b := false) rfl rfl rfl) (xix (tv (tS g.Cells) rfl) (tv (tN i) rfl) hb29 U9) (VRunO.free (VWant.on (b := false) rfl rfl rfl) (xeq (tv (T.int .u8 (bAt g.Cells i)) rfl) (VEv.int .u8 46)) (VRunO.free (VWant.on (b := false) rfl rfl rfl) (OF.move (tv (tB (decide (bAt g.Cells i = 46))) rfl)) ?_))
    refine gw (bAt g.Cells i = 46) (fun fhg57_30 => ?_) fun fhg57_30 => ?_
    · refine gF (dy fhg57_30) rfl rfl (OF.move (tv (tB false) rfl)) ?_
      refine gF (dy fhg57_30) rfl rfl (B.not (c := true) (tv (tB false) rfl) rfl) (VRunO.free (VWant.on (b := false) rfl rfl rfl) (OF.pickT (VEv.tmpB rfl (dy fhg57_30)) (tv (tB true) rfl)) (fO (OF.pickF (tv (tB false) rfl) (tv (tB true) rfl)) (nt (ct rfl (sr (fO (OF.assign (VEv.bool false)) (nt (rt (vinB.r (tr (tr ?_)))))))))))
      refine vinB.r (tr (vb (b' := false) rfl ?_))
      (symm; rw [decide_eq_false_iff_not]; rintro ⟨g1, g2, g3⟩; (have g4 := g3 i fhc1; unfold fillOk at g4; omega))
    refine offs 2 17 true 57 (dz fhg57_30) rfl rfl rfl (VRunO.free (VWant.on (b := false) rfl rfl rfl) (OF.pickF (VEv.tmpB rfl (dz fhg57_30)) (VEv.bool false)) (fO (OF.pickF (tv (tB false) rfl) (tv (tB false) rfl)) (nt (cf rfl (sk (vinB.n (tn (VRun.region (mO (tN i) rfl (fO (xinc (tv (tN i) rfl) (VEv.int .i64 1) (by omega)) (aO (tN (i + 1)) rfl ?_)))))))))))
    refine VRunO.nil (tn ?_)
    refine ⟨(i + 1 : Nat), ?_, ?_, Wk.mk (fun k => k) ?_ ?_ ?_⟩
    · refine allNext hI' fhc1 ?_; unfold fillOk; omega
    · omega
    · exact (b2 (b2 (b2 bn)))
    · exact (b3 bn)
    · exact nd rfl
  refine VRun.exit (vthn.e (vthn.e (vinB.e (tn (sr (fO (OF.assign (VEv.bool true)) (nt (rt (vb (b' := true) rfl ?_)))))))))
  (symm; rw [decide_eq_true_eq]; refine ⟨?_, ?_, allEnd hI' fhc1⟩ <;> assumption)
theorem W_impl_IsFill (n : Nat) (g : D.Grid) (f : ByteArray) (hc : g.Cells.size ≤ maxLen) (hf : f.size ≤ maxLen) : Pure (acall Tryz.prog (n + 3)) 63 [(T.agg (eGrid false g)), (tS f)] (tB (decide (isFill g f))) := by
  refine Pure.intro (rs := [ResultVar.tmp 4]) Tryz.func63 rfl rfl rfl (E0 := [(0, (T.agg (eGrid false g))), (1, (tS f))]) rfl ?_
  obtain ⟨hlim, hmx, hmax⟩ := lims
  refine sr (kO (B.box (ts := (eGrid false g)) (tv (T.agg (eGrid false g)) rfl) nofun rfl) (fO (OF.assign (VEv.bool false)) (nt (sq (sr (lO (OL.loadOn (us := (eGrid false g)) (tv (T.op 0 0) rfl) rfl st34 sz34 (lb rfl) rfl) (cO (cS (vc (tv (T.agg (eGrid false g)) rfl) vn) (LendL.cons (lg okeGrid) ln) (W_impl_IsGrid (n + 0) g (by assumption)) rfl rfl) (fO (xnot (tv (tB (decide (gridOk g))) rfl)) (mO (tB (!(decide (gridOk g)))) rfl ?_)))))))))
  refine gn (gridOk g) (fun fhg9_1 => ?_) fun fhg9_1 => ?_
  · refine offs 6 3 false 9 (ny fhg9_1) rfl rfl rfl ?_
    refine fO (OF.pickT (VEv.tmpB rfl (ny fhg9_1)) (VEv.bool true)) (nt (ct rfl (sr (fO (OF.assign (VEv.bool false)) (nt (rt (tr (vb (b' := false) rfl ?_))))))))
    (symm; rw [decide_eq_false_iff_not]; rintro ⟨g1, g2, g3⟩; contradiction)
  refine gF (nz fhg9_1) rfl rfl (OF.move (tv (tS f) rfl)) (gL (nz fhg9_1) rfl rfl (B.lenS (tv (tS f) rfl) U9) (glf (tS g.Cells) (nz fhg9_1) rfl rfl rfl rfl fa34_2 rfl rfl st9 (gL (nz fhg9_1) rfl rfl (B.lenS (tv (tS g.Cells) rfl) U9) (gF (nz fhg9_1) rfl rfl (xne' (tv (tN f.size) rfl) (tv (tN g.Cells.size) rfl)) (fO (OF.pickF (VEv.tmpB rfl (nz fhg9_1)) (tv (tB (!(decide (f.size = g.Cells.size)))) rfl)) (nt ?_))))))
  refine cn (f.size = g.Cells.size) rfl (fun fhc0 => ?_) fun fhc0 => ?_
  · refine sr ?_
    refine fO (OF.assign (VEv.bool false)) (nt (rt (tr (vb (b' := false) rfl ?_))))
    (symm; rw [decide_eq_false_iff_not]; rintro ⟨g1, g2, g3⟩; contradiction)
  refine sk (tn (sq (sr (mO (tS f) rfl (lO (B.lenS (tv (tS f) rfl) U9) (fO (OF.move (VEv.int .i64 0)) (nt (VRun.block ?_))))))))
  refine VRun.loop (A := Nat) (fun s_ => [(1, (tS f)), (2, (T.op 0 0)), (18, (tN f.size)), (19, (tN s_))]) (fun s_ => mkO [(0, (Obj.cells (eGrid false g)))]) 1 (fun s_ => s_ ≤ f.size ∧ ∀ j, j < s_ → fillOk (bAt g.Cells j) (bAt f j)) (fun s_ => f.size - s_) (0 : Nat) ?_ (Wk.mk (fun k => k) ?_ ?_ ?_) ?_
  · exact ⟨Nat.zero_le _, fun j hj => by omega⟩
  · exact (b2 (b2 (b2 (b2 bn))))
  · exact (b3 bn)
  · exact nd rfl
  rintro i (hI' : i ≤ f.size ∧ ∀ j, j < i → fillOk (bAt g.Cells j) (bAt f j))
  show VRun _ _ _ [(1, (tS f)), (2, (T.op 0 0)), (18, (tN f.size)), (19, (tN i))] (mkO [(0, (Obj.cells (eGrid false g)))]) 1 _
  have hI1 := hI'.1
  have hgo : gridOk g := by assumption
  refine sr (fO (xls' (tv (tN i) rfl) (tv (tN f.size) rfl)) (nt (sq ?_)))
  refine cd (i < f.size) rfl (fun fhc1 => ?_) fun fhc1 => ?_
  · have hgi := hgo.2.2.2 i (by omega)
    unfold gOk at hgi
    refine sk (tn (sq (VRun.block (sr (mO (tN i) rfl (aO (tN i) rfl (nt (sq (VRun.draw (B := [[], [0], [], [2, 0, 1], [1, 0, 2, 3], [], [], [6, 5], [5, 6, 7], [7, 6, 5, 8, 3, 2, 0, 1, 4], [4, 1, 0, 2, 3, 8, 5, 6, 7, 9], [9, 7, 6, 5, 8, 3, 2, 0, 1, 4, 10], [9, 7, 6, 5, 8, 3, 2, 0, 1, 4, 10], [12, 10, 4, 1, 0, 2, 3, 8, 5, 6, 7, 9, 11], [11, 9, 7, 6, 5, 8, 3, 2, 0, 1, 4, 10, 12, 13], [13, 12, 10, 4, 1, 0, 2, 3, 8, 5, 6, 7, 9, 11, 14], [14, 11, 9, 7, 6, 5, 8, 3, 2, 0, 1, 4, 10, 12, 13, 15], [14, 11, 9, 7, 6, 5, 8, 3, 2, 0, 1, 4, 10, 12, 13, 15], [17, 15, 13, 12, 10, 4, 1, 0, 2, 3, 8, 5, 6, 7, 9, 11, 14, 16], [16, 14, 11, 9, 7, 6, 5, 8, 3, 2, 0, 1, 4, 10, 12, 13, 15, 17, 18], [18, 17, 16, 19, 14, 11, 9, 7, 6, 5, 8, 3, 2, 0, 1, 4, 10, 12, 13, 15], [15, 13, 12, 10, 4, 1, 0, 2, 3, 8, 5, 6, 7, 9, 11, 14, 19, 16, 17, 18, 20], [20, 18, 17, 16, 19, 14, 11, 9, 7, 6, 5, 8, 3, 2, 0, 1, 4, 10, 12, 13, 15, 21], [20, 18, 17, 16, 19, 14, 11, 9, 7, 6, 5, 8, 3, 2, 0, 1, 4, 10, 12, 13, 15, 21], [23, 21, 15, 13, 12, 10, 4, 1, 0, 2, 3, 8, 5, 6, 7, 9, 11, 14, 19, 16, 17, 18, 20, 22], [22, 20, 18, 17, 16, 19, 14, 11, 9, 7, 6, 5, 8, 3, 2, 0, 1, 4, 10, 12, 13, 15, 21, 23, 24], [24, 23, 21, 15, 13, 12, 10, 4, 1, 0, 2, 3, 8, 5, 6, 7, 9, 11, 14, 19, 16, 17, 18, 20, 22, 25], [25, 22, 23, 24, 26, 20, 18, 17, 16, 19, 14, 11, 9, 7, 6, 5, 8, 3, 2, 0, 1, 4, 10, 12, 13, 15, 21], [21, 15, 13, 12, 11, 14, 19, 16, 17, 18, 20, 26, 24, 23, 22, 25, 27, 9, 7, 6, 5, 8, 3, 2, 0, 1, 4, 10]]) (by kernel_rfl) (by kernel_rfl) (fD (OF.fieldAddrO (tv (T.op 0 0) rfl) fa34_2) rfl rfl (lD (OL.loadO1 (t := (tS g.Cells)) (tv (T.op 0 2) rfl) rfl rfl st9) rfl rfl ?_)))))))))))
    refine mD (tN i) rfl rfl ?_
    have hb2 : i < g.Cells.size := (by omega)
    refine fD (xix (tv (tS g.Cells) rfl) (tv (tN i) rfl) hb2 U9) rfl rfl (fD (xeq (tv (T.int .u8 (bAt g.Cells i)) rfl) (VEv.int .u8 35)) rfl rfl (mD (tS f) rfl rfl (mD (tN i) rfl rfl ?_)))
    have hb3 : i < f.size := (by omega)
    refine fD (xix (tv (tS f) rfl) (tv (tN i) rfl) hb3 U9) rfl rfl (fD (xeq (tv (T.int .u8 (bAt f i)) rfl) (VEv.int .u8 35)) rfl rfl (fD (B.bneq U4 (c := (!((decide (bAt g.Cells i = 35)) == (decide (bAt f i = 35))))) (tv (tB (decide (bAt g.Cells i = 35))) rfl) (tv (tB (decide (bAt f i = 35))) rfl) rfl) rfl rfl (mD (tB (!((decide (bAt g.Cells i = 35)) == (decide (bAt f i = 35))))) rfl rfl ?_)))
    refine bool_way (!((decide (bAt g.Cells i = 35)) == (decide (bAt f i = 35)))) (fun hg32_4 => ?_) (fun hg32_4 => ?_)
    · have fhg32_4 : (!((decide (bAt g.Cells i = 35)) == (decide (bAt f i = 35)))) = true := hg32_4
      refine oD rfl rfl hg32_4 rfl (oD rfl rfl hg32_4 rfl (oD rfl rfl hg32_4 rfl (oD rfl rfl hg32_4 rfl (oD rfl rfl hg32_4 rfl (uD rfl rfl rfl (uD rfl rfl rfl (uD rfl rfl rfl (uD rfl rfl rfl (oD rfl rfl hg32_4 rfl (oD rfl rfl hg32_4 rfl (uD rfl rfl rfl ?_)))))))))))
      refine uD rfl rfl rfl (uD rfl rfl rfl (uD rfl rfl rfl (uD rfl rfl rfl (oD rfl rfl hg32_4 rfl (fD (OF.pickT (VEv.tmpB rfl hg32_4) (VEv.bool true)) rfl rfl (VRunD.nil (tn (ct rfl (sr (fO (OF.assign (VEv.bool false)) (nt ?_)))))))))))
      refine rt (vinB.r (tr (tr (vinB.r (tr (vb (b' := false) rfl ?_))))))
      (symm; rw [decide_eq_false_iff_not]; rintro ⟨g1, g2, g3⟩; (have g4 := g3 i fhc1; unfold fillOk at g4; simp only [bneE, decide_eq_true_eq, decide_eq_false_iff_not, Classical.not_not] at *; omega))
    have fhg32_4 : (!((decide (bAt g.Cells i = 35)) == (decide (bAt f i = 35)))) = false := hg32_4
    refine VRunD.free rfl (VWant.on rfl rfl hg32_4) rfl (OF.move (tv (tS f) rfl)) (VRunD.free rfl (VWant.on rfl rfl hg32_4) rfl (OF.move (tv (tN i) rfl)) ?_)
    have hb5 : i < f.size := (by omega)
    refine VRunD.free rfl (VWant.on rfl rfl hg32_4) rfl (xix (tv (tS f) rfl) (tv (tN i) rfl) hb5 U9) (VRunD.free rfl (VWant.on rfl rfl hg32_4) rfl (xne (tv (T.int .u8 (bAt f i)) rfl) (VEv.int .u8 35)) (VRunD.free rfl (VWant.on rfl rfl hg32_4) rfl (OF.move (tv (tB (!(decide (bAt f i = 35)))) rfl)) ?_))
    refine gn (bAt f i = 35) (fun fhg37_6 => ?_) fun fhg37_6 => ?_
    · refine VRunD.free rfl (VWant.on rfl rfl (ny fhg37_6)) rfl (OF.move (tv (tS f) rfl)) ?_
      refine VRunD.free rfl (VWant.on rfl rfl (ny fhg37_6)) rfl (OF.move (tv (tN i) rfl)) ?_
      have hb7 : i < f.size := (by omega)
      refine VRunD.free rfl (VWant.on rfl rfl (ny fhg37_6)) rfl (xix (tv (tS f) rfl) (tv (tN i) rfl) hb7 U9) (VRunD.free rfl (VWant.on rfl rfl (ny fhg37_6)) rfl (xne (tv (T.int .u8 (bAt f i)) rfl) (VEv.int .u8 63)) (VRunD.free rfl (VWant.on rfl rfl hg32_4) rfl (OF.pickT (VEv.tmpB rfl (ny fhg37_6)) (tv (tB (!(decide (bAt f i = 63)))) rfl)) (VRunD.free rfl (VWant.on rfl rfl hg32_4) rfl (OF.move (tv (tB (!(decide (bAt f i = 63)))) rfl)) ?_)))
      refine gn (bAt f i = 63) (fun fhg43_8 => ?_) fun fhg43_8 => ?_
      · refine VRunD.free rfl (VWant.on rfl rfl (ny fhg43_8)) rfl (OF.move (tv (tS f) rfl)) ?_
        refine VRunD.free rfl (VWant.on rfl rfl (ny fhg43_8)) rfl (OF.move (tv (tN i) rfl)) ?_
        have hb9 : i < f.size := (by omega)
        refine VRunD.free rfl (VWant.on rfl rfl (ny fhg43_8)) rfl (xix (tv (tS f) rfl) (tv (tN i) rfl) hb9 U9) (VRunD.quiet (bi := [22, 20, 18, 17, 16, 19, 14, 11, 9, 7, 6, 5, 8, 3, 2, 0, 1, 4, 10, 12, 13, 15, 21, 23, 24]) rfl (VWant.on rfl rfl (ny fhg43_8)) rfl rfl rfl bn (cS (vc (tv (T.int .u8 (bAt f i)) rfl) vn) (lps rfl) (W_impl_isLetter (n + 1) (bAt f i) ) rfl rfl) (VRunD.free rfl (VWant.on rfl rfl (ny fhg43_8)) rfl (xnot (tv (tB (decide (97 ≤ (bAt f i) ∧ (bAt f i) ≤ 122))) rfl)) (VRunD.free rfl (VWant.on rfl rfl hg32_4) rfl (OF.pickT (VEv.tmpB rfl (ny fhg43_8)) (tv (tB (!(decide (97 ≤ (bAt f i) ∧ (bAt f i) ≤ 122)))) rfl)) (fD (OF.pickF (VEv.tmpB rfl hg32_4) (tv (tB (!(decide (97 ≤ (bAt f i) ∧ (bAt f i) ≤ 122)))) rfl)) rfl rfl (VRunD.nil (tn ?_))))))
        refine cn (97 ≤ (bAt f i) ∧ (bAt f i) ≤ 122) rfl (fun fhc2 => ?_) fun fhc2 => ?_
        · refine sr ?_
          refine fO (OF.assign (VEv.bool false)) (nt (rt (vinB.r (tr (tr (vinB.r (tr (vb (b' := false) rfl ?_))))))))
          (symm; rw [decide_eq_false_iff_not]; rintro ⟨g1, g2, g3⟩; (have g4 := g3 i fhc1; unfold fillOk at g4; simp only [bneE, decide_eq_true_eq, decide_eq_false_iff_not, Classical.not_not] at *; omega))
        refine sk (vinB.n (tn (VRun.region (fO (xinc (tv (tN i) rfl) (VEv.int .i64 1) (by omega)) (mO (tN (i + 1)) rfl (VRunO.nil (tn ?_)))))))
        refine ⟨(i + 1 : Nat), ?_, ?_, Wk.mk (fun k => k) ?_ ?_ ?_⟩
        · refine allNext hI' fhc1 ?_; unfold fillOk; simp only [bneE, decide_eq_true_eq, decide_eq_false_iff_not, Classical.not_not] at *; omega
        · omega
        · exact (b2 (b2 (b2 (b2 bn))))
        · exact (b3 bn)
        · exact nd rfl
      refine oD rfl rfl (nz fhg43_8) rfl (oD rfl rfl (nz fhg43_8) rfl (oD rfl rfl (nz fhg43_8) rfl (oD rfl rfl (nz fhg43_8) rfl (oD rfl rfl (nz fhg43_8) rfl (VRunD.free rfl (VWant.on rfl rfl hg32_4) rfl (OF.pickF (VEv.tmpB rfl (nz fhg43_8)) (VEv.bool false)) (fD (OF.pickF (VEv.tmpB rfl hg32_4) (tv (tB false) rfl)) rfl rfl (VRunD.nil (tn (cf rfl (sk (vinB.n ?_)))))))))))
      refine tn (VRun.region (fO (xinc (tv (tN i) rfl) (VEv.int .i64 1) (by omega)) (mO (tN (i + 1)) rfl (VRunO.nil (tn ?_)))))
      refine ⟨(i + 1 : Nat), ?_, ?_, Wk.mk (fun k => k) ?_ ?_ ?_⟩
      · refine allNext hI' fhc1 ?_; unfold fillOk; simp only [bneE, decide_eq_true_eq, decide_eq_false_iff_not, Classical.not_not] at *; omega
      · omega
      · exact (b2 (b2 (b2 (b2 bn))))
      · exact (b3 bn)
      · exact nd rfl
    refine oD rfl rfl (nz fhg37_6) rfl (oD rfl rfl (nz fhg37_6) rfl (oD rfl rfl (nz fhg37_6) rfl (oD rfl rfl (nz fhg37_6) rfl (VRunD.free rfl (VWant.on rfl rfl hg32_4) rfl (OF.pickF (VEv.tmpB rfl (nz fhg37_6)) (VEv.bool false)) (VRunD.free rfl (VWant.on rfl rfl hg32_4) rfl (OF.move (tv (tB false) rfl)) (VRunD.off rfl (VWant.not (b := false) rfl rfl rfl) (VRunD.off rfl (VWant.not (b := false) rfl rfl rfl) (VRunD.off rfl (VWant.not (b := false) rfl rfl rfl) (VRunD.off rfl (VWant.not (b := false) rfl rfl rfl) (VRunD.off rfl (VWant.not (b := false) rfl rfl rfl) (VRunD.free rfl (VWant.on rfl rfl hg32_4) rfl (OF.pickF (tv (tB false) rfl) (VEv.bool false)) ?_)))))))))))
    refine fD (OF.pickF (VEv.tmpB rfl hg32_4) (tv (tB false) rfl)) rfl rfl (VRunD.nil (tn (cf rfl (sk (vinB.n (tn (VRun.region (fO (xinc (tv (tN i) rfl) (VEv.int .i64 1) (by omega)) (mO (tN (i + 1)) rfl (VRunO.nil (tn ?_)))))))))))
    refine ⟨(i + 1 : Nat), ?_, ?_, Wk.mk (fun k => k) ?_ ?_ ?_⟩
    · refine allNext hI' fhc1 ?_; unfold fillOk; simp only [bneE, decide_eq_true_eq, decide_eq_false_iff_not, Classical.not_not] at *; omega
    · omega
    · exact (b2 (b2 (b2 (b2 bn))))
    · exact (b3 bn)
    · exact nd rfl
  refine VRun.exit (vthn.e (vthn.e (vinB.e (tn (sr (fO (OF.assign (VEv.bool true)) (nt (rt (vb (b' := true) rfl ?_)))))))))
  (symm; rw [decide_eq_true_eq]; refine ⟨?_, ?_, allEnd hI' fhc1⟩ <;> assumption)
theorem W_spec_IsWhite (n : Nat) (g : D.Grid) (c : Int) (hc : g.Cells.size ≤ maxLen) : Pure (acall Tryz.prog (n + 3)) 83 [(T.agg (eGrid false g)), (tI c)] (tB (decide (gridOk g ∧ (0 ≤ c ∧ c ≤ ((g.Cells.size : Nat) : Int) - 1) ∧ bAt g.Cells (Int.toNat c) = 46))) := by
  refine Pure.intro (rs := [ResultVar.tmp 4]) Tryz.func83 rfl rfl rfl (E0 := [(0, (T.agg (eGrid false g))), (1, (tI c))]) rfl ?_
  obtain ⟨hlim, hmx, hmax⟩ := lims
  refine sr (kO (B.box (ts := (eGrid false g)) (tv (T.agg (eGrid false g)) rfl) nofun rfl) (fO (OF.assign (VEv.bool false)) (nt (sr (lO (OL.loadOn (us := (eGrid false g)) (tv (T.op 0 0) rfl) rfl st34 sz34 (lb rfl) rfl) (cO (cS (vc (tv (T.agg (eGrid false g)) rfl) vn) (LendL.cons (lg okeGrid) ln) (W_spec_IsGrid (n + 0) g (by assumption)) rfl rfl) (mO (tB (decide (gridOk g))) rfl ?_)))))))
  refine gw (gridOk g) (fun fhg7_1 => ?_) fun fhg7_1 => ?_
  · refine gF (dy fhg7_1) rfl rfl (OF.move (tv (tI c) rfl)) ?_
    refine glf (tS g.Cells) (dy fhg7_1) rfl rfl rfl rfl fa34_2 rfl rfl st9 (gL (dy fhg7_1) rfl rfl (B.lenS (tv (tS g.Cells) rfl) U9) (gF (dy fhg7_1) rfl rfl (B.sub (n := (((g.Cells.size : Nat) : Int) - 1)) (tv (tN g.Cells.size) rfl) (VEv.int .i64 1) (by (rw [wrap64 (by omega)]; done))) (VRunO.chain (VWant.on rfl rfl (dy fhg7_1)) (cS (vc (tv (tI c) rfl) (vc (VEv.int .i64 0) (vc (tv (tI (((g.Cells.size : Nat) : Int) - 1)) rfl) vn))) (lps rfl) (W_spec_l1In (n + 1) c 0 (((g.Cells.size : Nat) : Int) - 1) ) rfl rfl) (fO (OF.pickT (VEv.tmpB rfl (dy fhg7_1)) (tv (tB (decide (0 ≤ c ∧ c ≤ (((g.Cells.size : Nat) : Int) - 1)))) rfl)) (mO (tB (decide (0 ≤ c ∧ c ≤ (((g.Cells.size : Nat) : Int) - 1)))) rfl ?_)))))
    refine gw (0 ≤ c ∧ c ≤ (((g.Cells.size : Nat) : Int) - 1)) (fun fhg15_2 => ?_) fun fhg15_2 => ?_
    · refine glf (tS g.Cells) (dy fhg15_2) rfl rfl rfl rfl fa34_2 rfl rfl st9 ?_
      refine gF (dy fhg15_2) rfl rfl (OF.move (tv (tI c) rfl)) ?_
      have hb3 : (Int.toNat c) < g.Cells.size := (by omega)
      refine gF (dy fhg15_2) rfl rfl (B.index (n := (bAt g.Cells (Int.toNat c))) (i := (Int.toNat c)) (tv (tS g.Cells) rfl) (tv (tI c) rfl) (by omega) hb3 U9 (bAt_eq hb3)) (gF (dy fhg15_2) rfl rfl (xeq (tv (T.int .u8 (bAt g.Cells (Int.toNat c))) rfl) (VEv.int .u8 46)) (fO (OF.pickT (VEv.tmpB rfl (dy fhg15_2)) (tv (tB (decide (bAt g.Cells (Int.toNat c) = 46))) rfl)) (aO (tB (decide (bAt g.Cells (Int.toNat c) = 46))) rfl (nt (rt (vb (b' := (decide (bAt g.Cells (Int.toNat c) = 46))) rfl ?_))))))
      (refine decN ⟨fun h => ⟨?_, ?_, h⟩, fun h => h.2.2⟩ <;> assumption)
    refine offs 5 10 true 15 (dz fhg15_2) rfl rfl rfl (fO (OF.pickF (VEv.tmpB rfl (dz fhg15_2)) (VEv.bool false)) (aO (tB false) rfl (nt (rt (vb (b' := false) rfl ?_)))))
    (symm; rw [decide_eq_false_iff_not]; rintro ⟨g1, g2, g3⟩; contradiction)
  refine offs 6 2 true 7 (dz fhg7_1) rfl rfl rfl (fO (OF.pickF (VEv.tmpB rfl (dz fhg7_1)) (VEv.bool false)) (mO (tB false) rfl (offs 5 10 true 15 (b := false) rfl rfl rfl rfl (fO (OF.pickF (tv (tB false) rfl) (VEv.bool false)) (aO (tB false) rfl (nt (rt (vb (b' := false) rfl ?_))))))))
  (symm; rw [decide_eq_false_iff_not]; rintro ⟨g1, g2, g3⟩; contradiction)
theorem W_spec_l8Has (n : Nat) (l : List Int) (v : Int) (hl : l.length ≤ lim) : Pure (acall Tryz.prog (n + 1)) 93 [(rd 1 eInt l), (tI v)] (tB (decide (v ∈ l))) := by
  refine Pure.intro (rs := [ResultVar.tmp 4]) Tryz.func93 rfl rfl rfl (E0 := [(0, (rd 1 eInt l)), (1, (tI v))]) rfl ?_
  obtain ⟨hlim, hmx, hmax⟩ := lims
  refine sr (fO (OF.assign (VEv.bool false)) (nt (sq (sr (fO (OF.assign (VEv.int .i64 0)) (nt (VRun.block ?_)))))))
  refine VRun.loop (A := Nat) (fun s_ => [(0, (rd 1 eInt l)), (1, (tI v)), (5, (tN s_))]) (fun s_ => mkO []) 0 (fun s_ => NoneTo (fun y => y = v) l s_) (fun s_ => l.length - s_) (0 : Nat) ?_ (Wk.mk (fun k => k) ?_ ?_ ?_) ?_
  · exact NoneTo.start _ _
  · exact (b2 (b2 (b2 bn)))
  · exact bn
  · exact nd rfl
  rintro i (hI' : NoneTo (fun y => y = v) l i)
  show VRun _ _ _ [(0, (rd 1 eInt l)), (1, (tI v)), (5, (tN i))] (mkO []) 0 _
  have hI1 := hI'.1
  refine sq (sr (mO (tN i) rfl (mO (rd 1 eInt l) rfl (lO (B.lenR (m := l.length) (tv (rd 1 eInt l) rfl) U25 (List.length_map ..)) (fO (xls' (tv (tN i) rfl) (tv (tN l.length) rfl)) (nt ?_))))))
  refine cd (i < l.length) rfl (fun fhc0 => ?_) fun fhc0 => ?_
  · refine sk ?_
    refine tn (sq (VRun.block (sr (mO (rd 1 eInt l) rfl (mO (tN i) rfl ?_)))))
    obtain ⟨x1, hx1⟩ : ∃ x, l[i]? = some x := ⟨_, List.getElem?_eq_getElem (by omega)⟩
    refine fO (OF.indexAddrR (row := (eInt false x1)) (i := i) (tv (rd 1 eInt l) rfl) (tv (tN i) rfl) rfl (map_at _ hx1) U25 sz3 if3) (lO (OL.loadR1 (t := (tI x1)) (tv (T.rp [(tI x1)]) rfl) rfl st3) (mO (tI v) rfl (fO (xeq (tv (tI x1) rfl) (tv (tI v) rfl)) (nt ?_))))
    refine cd (x1 = v) rfl (fun fhc1 => ?_) fun fhc1 => ?_
    · refine sr ?_
      refine fO (OF.assign (VEv.bool true)) (nt (rt (vinB.r (tr (tr (vinB.r (tr (vb (b' := true) rfl ?_))))))))
      symm; rw [decide_eq_true_eq, ← fhc1]; exact List.mem_of_getElem? hx1
    refine sk (vinB.n (tn (VRun.region (mO (tN i) rfl (fO (xinc (tv (tN i) rfl) (VEv.int .i64 1) (by omega)) (aO (tN (i + 1)) rfl (VRunO.nil (tn ?_))))))))
    refine ⟨(i + 1 : Nat), ?_, ?_, Wk.mk (fun k => k) ?_ ?_ ?_⟩
    · exact hI'.next hx1 fhc1
    · omega
    · exact (b2 (b2 (b2 bn)))
    · exact bn
    · exact nd rfl
  refine VRun.exit (vthn.e (vthn.e (vinB.e (tn (sr (fO (OF.assign (VEv.bool false)) (nt (rt (vb (b' := false) rfl ?_)))))))))
  symm; rw [decide_eq_false_iff_not]; intro h; exact hI'.mem fhc0 v h rfl
theorem W_slices_Index_int_int_ (n : Nat) (a : List Int) (b : Int) (ha : a.length ≤ lim) : Pure (acall Tryz.prog (n + 1)) 125 [(rd 1 eInt a), (tI b)] (tI (ixF (fun y => b = y) a)) := by
  refine Pure.intro (rs := [ResultVar.tmp 4]) Tryz.func125 rfl rfl rfl (E0 := [(0, (rd 1 eInt a)), (1, (tI b))]) rfl ?_
  obtain ⟨hlim, hmx, hmax⟩ := lims
  refine sr (fO (OF.assign (VEv.int .i64 0)) (nt (sq (sr (mO (rd 1 eInt a) rfl (lO (B.lenR (m := a.length) (tv (rd 1 eInt a) rfl) U25 (List.length_map ..)) (fO (OF.move (VEv.int .i64 0)) (nt (VRun.block ?_)))))))))
  refine VRun.loop (A := Nat) (fun s_ => [(0, (rd 1 eInt a)), (1, (tI b)), (7, (tN a.length)), (8, (tN s_))]) (fun s_ => mkO []) 0 (fun s_ => NoneTo (fun y => b = y) a s_) (fun s_ => a.length - s_) (0 : Nat) ?_ (Wk.mk (fun k => k) ?_ ?_ ?_) ?_
  · exact NoneTo.start _ _
  · exact (b2 (b2 (b2 (b2 bn))))
  · exact bn
  · exact nd rfl
  rintro i (hI' : NoneTo (fun y => b = y) a i)
  show VRun _ _ _ [(0, (rd 1 eInt a)), (1, (tI b)), (7, (tN a.length)), (8, (tN i))] (mkO []) 0 _
  have hI1 := hI'.1
  refine sr (fO (xls' (tv (tN i) rfl) (tv (tN a.length) rfl)) (nt (sq ?_)))
  refine cd (i < a.length) rfl (fun fhc0 => ?_) fun fhc0 => ?_
  · refine sk ?_
    refine tn (sq (VRun.block (sr (mO (tN i) rfl (aO (tN i) rfl (nt (sr (mO (tI b) rfl (mO (rd 1 eInt a) rfl (mO (tN i) rfl ?_))))))))))
    obtain ⟨x1, hx1⟩ : ∃ x, a[i]? = some x := ⟨_, List.getElem?_eq_getElem (by omega)⟩
    refine fO (OF.indexAddrR (row := (eInt false x1)) (i := i) (tv (rd 1 eInt a) rfl) (tv (tN i) rfl) rfl (map_at _ hx1) U25 sz3 if3) (lO (OL.loadR1 (t := (tI x1)) (tv (T.rp [(tI x1)]) rfl) rfl st3) (fO (xeq (tv (tI b) rfl) (tv (tI x1) rfl)) (nt ?_)))
    refine cd (b = x1) rfl (fun fhc1 => ?_) fun fhc1 => ?_
    · refine sr ?_
      refine mO (tN i) rfl (aO (tN i) rfl (nt (rt (vinB.r (tr (tr (vinB.r (tr (vi (n' := ((i : Nat) : Int)) rfl ?_)))))))))
      exact (ixF_found hx1 fhc1 hI'.2).symm
    refine sk (vinB.n (tn (VRun.region (fO (xinc (tv (tN i) rfl) (VEv.int .i64 1) (by omega)) (mO (tN (i + 1)) rfl (VRunO.nil (tn ?_)))))))
    refine ⟨(i + 1 : Nat), ?_, ?_, Wk.mk (fun k => k) ?_ ?_ ?_⟩
    · exact hI'.next hx1 fhc1
    · omega
    · exact (b2 (b2 (b2 (b2 bn))))
    · exact bn
    · exact nd rfl
  refine VRun.exit (vthn.e (vthn.e (vinB.e (tn (sr (fO (OF.assign (VEv.int .i64 (-1))) (nt (rt (vi (n' := (-1)) rfl ?_)))))))))
  exact (ixF_none (hI'.all fhc0)).symm
theorem W_slices_Contains_int_int_ (n : Nat) (a : List Int) (b : Int) (ha : a.length ≤ lim) : Pure (acall Tryz.prog (n + 2)) 96 [(rd 1 eInt a), (tI b)] (tB (decide (b ∈ a))) := by
  refine Pure.intro (rs := [ResultVar.tmp 4]) Tryz.func96 rfl rfl rfl (E0 := [(0, (rd 1 eInt a)), (1, (tI b))]) rfl ?_
  obtain ⟨hlim, hmx, hmax⟩ := lims
  refine sr (fO (OF.assign (VEv.bool false)) (nt (sr (mO (rd 1 eInt a) rfl (mO (tI b) rfl (cO (cS (vc (tv (rd 1 eInt a) rfl) (vc (tv (tI b) rfl) vn)) (lps rfl) (W_slices_Index_int_int_ (n + 0) a b (by assumption)) rfl rfl) (fO (xge (tv (tI (ixF (fun y => b = y) a)) rfl) (VEv.int .i64 0)) (aO (tB (decide (0 ≤ ixF (fun y => b = y) a))) rfl (nt (rt (vb (b' := (decide (0 ≤ ixF (fun y => b = y) a))) rfl ?_)))))))))))
  refine decN ?_
  rw [ixF_nn]
  exact ⟨fun ⟨x, h1, h2⟩ => h2 ▸ h1, fun h => ⟨b, h, rfl⟩⟩
end Go.Proofs.YtcccmceoplcciaaGreat.AE
namespace Go.Proofs.YtcccmceoplcciaaGreat.AE
open Go Go.RowKit
set_option linter.unusedVariables false
set_option linter.unusedSimpArgs false
set_option maxRecDepth 20000
set_option maxHeartbeats 2000000
noncomputable section
def runN (ok : Nat → Prop) [DecidablePred ok] : Nat → Nat → Nat
  | 0, n => n
  | f + 1, n => if ok n then runN ok f (n + 1) else n
theorem runN_next {ok : Nat → Prop} [DecidablePred ok] {n : Nat} (h : ok n) (hn : n < 6) : runN ok (6 - n) n = runN ok (6 - (n + 1)) (n + 1) := by
  obtain ⟨k, hk⟩ : ∃ k, 6 - n = k + 1 := ⟨5 - n, by omega⟩
  rw [hk, show 6 - (n + 1) = k by omega]
  simp only [runN, if_pos h]
theorem runN_end {ok : Nat → Prop} [DecidablePred ok] {n f : Nat} (h : ¬ ok n) : runN ok f n = n := by
  cases f with
  | zero => rfl
  | succ f => simp only [runN, if_neg h]
def slA (g : D.Grid) (cell n : Nat) : Prop := ((cell % g.Cols.toNat + n : Nat) : Int) < g.Cols ∧ bAt g.Cells (cell + n * 1) = 46
def slD (g : D.Grid) (cell n : Nat) : Prop := ((cell / g.Cols.toNat + n : Nat) : Int) < g.Rows ∧ bAt g.Cells (Int.toNat (((cell : Nat) : Int) + ((n : Nat) : Int) * g.Cols)) = 46
instance (g : D.Grid) (cell : Nat) : DecidablePred (slA g cell) := fun _ => Classical.propDecidable _
instance (g : D.Grid) (cell : Nat) : DecidablePred (slD g cell) := fun _ => Classical.propDecidable _
def fromA (g : D.Grid) (cell : Nat) : Nat := if bAt g.Cells cell = 46 ∧ ¬ (0 < cell % g.Cols.toNat ∧ bAt g.Cells (Int.toNat (((cell : Nat) : Int) - 1)) = 46) then runN (slA g cell) 6 0 else 0
def fromD (g : D.Grid) (cell : Nat) : Nat := if bAt g.Cells cell = 46 ∧ ¬ (0 < cell / g.Cols.toNat ∧ bAt g.Cells (Int.toNat (((cell : Nat) : Int) - g.Cols)) = 46) then runN (slD g cell) 6 0 else 0
def fromG (g : D.Grid) (cell : Nat) (down : Bool) : Nat := if down = true then fromD g cell else fromA g cell
theorem remN {c : Nat} {w : Int} (h : 2 ≤ w) : ((c : Nat) : Int).tmod w = ((c % w.toNat : Nat) : Int) := by
  obtain ⟨k, rfl⟩ := Int.eq_ofNat_of_zero_le (show 0 ≤ w by omega)
  rfl
theorem quoN {c : Nat} {w : Int} (h : 2 ≤ w) (hc : c ≤ 36) : IntKind.i64.wrap (((c : Nat) : Int).tdiv w) = ((c / w.toNat : Nat) : Int) := by
  obtain ⟨k, rfl⟩ := Int.eq_ofNat_of_zero_le (show 0 ≤ w by omega)
  have : c / k ≤ c := Nat.div_le_self _ _
  show IntKind.i64.wrap ((c / k : Nat) : Int) = ((c / k : Nat) : Int)
  generalize c / k = q at *
  rw [wrap64 (by omega)]
theorem mulN {n : Nat} {c : Int} (h : n ≤ 6) (h2 : 2 ≤ c) (h3 : c ≤ 6) : 0 ≤ ((n : Nat) : Int) * c ∧ ((n : Nat) : Int) * c ≤ 36 := by
  have e1 : 0 ≤ ((n : Nat) : Int) * c := Int.mul_nonneg (by omega) (by omega)
  have e2 : ((n : Nat) : Int) * c ≤ 6 * 6 := Int.mul_le_mul (by omega) h3 (by omega) (by decide)
  omega
theorem mulWn {n : Nat} {c : Int} (h : n ≤ 6) (h2 : 2 ≤ c) (h3 : c ≤ 6) : IntKind.i64.wrap (((n : Nat) : Int) * c) = ((n : Nat) : Int) * c := by
  have := mulN h h2 h3
  rw [wrap64 (by omega)]
theorem cell_at {g : D.Grid} {cell : Nat} (hg : gridOk g) (hc : cell < g.Cells.size) : (cell % g.Cols.toNat < g.Cols.toNat ∧ cell / g.Cols.toNat < g.Rows.toNat) ∧ (0 < cell % g.Cols.toNat → 1 ≤ cell) ∧ (0 < cell / g.Cols.toNat → g.Cols.toNat ≤ cell) ∧ (∀ n : Nat, ((cell % g.Cols.toNat + n : Nat) : Int) < g.Cols → cell + n < g.Cells.size) ∧ ∀ n : Nat, ((cell / g.Cols.toNat + n : Nat) : Int) < g.Rows → ((cell : Nat) : Int) + ((n : Nat) : Int) * g.Cols < g.Cells.size := by
  obtain ⟨⟨a1, a2⟩, ⟨b1, b2⟩, hs, _⟩ := hg
  obtain ⟨w, hw⟩ := Int.eq_ofNat_of_zero_le (show 0 ≤ g.Cols by omega)
  obtain ⟨r, hr⟩ := Int.eq_ofNat_of_zero_le (show 0 ≤ g.Rows by omega)
  have hs2 : g.Cells.size = r * w := by rw [hw, hr] at hs; exact_mod_cast hs
  have hw0 : 0 < w := by omega
  have hwn : g.Cols.toNat = w := by omega
  have hrn : g.Rows.toNat = r := by omega
  rw [hwn, hrn]
  have h1 : cell % w < w := Nat.mod_lt _ hw0
  have h2 : cell / w < r := (Nat.div_lt_iff_lt_mul hw0).2 (hs2 ▸ hc)
  have h3 : w * (cell / w) + cell % w = cell := Nat.div_add_mod cell w
  have h4 : ∀ k, k < r → w * k + w ≤ r * w := fun k hk => by
    have := Nat.mul_le_mul_left w (show k + 1 ≤ r from hk)
    rw [Nat.mul_add, Nat.mul_one, Nat.mul_comm w r] at this
    exact this
  refine ⟨⟨h1, h2⟩, fun h => ?_, fun h => ?_, fun n hn => ?_, fun n hn => ?_⟩
  · have := Nat.mod_le cell w; omega
  · have := Nat.mul_le_mul_left w (show 1 ≤ cell / w from h)
    rw [Nat.mul_one] at this
    generalize w * (cell / w) = q2 at *
    generalize cell % w = q3 at *
    omega
  · have := h4 _ h2
    generalize w * (cell / w) = q2 at *
    generalize cell % w = q3 at *
    omega
  · have h5 := h4 (cell / w + n) (by omega)
    rw [Nat.mul_add] at h5
    have h6 : ((n : Nat) : Int) * g.Cols = ((w * n : Nat) : Int) := by rw [hw, Int.mul_comm]; rfl
    rw [h6]
    generalize w * n = q at *
    generalize w * (cell / w) = q2 at *
    generalize cell % w = q3 at *
    omega
theorem fromA_zero {g : D.Grid} {cell : Nat} (h : ¬ bAt g.Cells cell = 46 ∨ (0 < cell % g.Cols.toNat ∧ bAt g.Cells (Int.toNat (((cell : Nat) : Int) - 1)) = 46)) : fromA g cell = 0 := if_neg (by omega)
theorem fromD_zero {g : D.Grid} {cell : Nat} (h : ¬ bAt g.Cells cell = 46 ∨ (0 < cell / g.Cols.toNat ∧ bAt g.Cells (Int.toNat (((cell : Nat) : Int) - g.Cols)) = 46)) : fromD g cell = 0 := if_neg (by omega)
theorem fromA_run {g : D.Grid} {cell n : Nat} (h : bAt g.Cells cell = 46 ∧ ¬ (0 < cell % g.Cols.toNat ∧ bAt g.Cells (Int.toNat (((cell : Nat) : Int) - 1)) = 46)) (hr : runN (slA g cell) 6 0 = runN (slA g cell) (6 - n) n) (hn : ¬ slA g cell n) : fromA g cell = n := by
  rw [fromA, if_pos h, hr, runN_end hn]
theorem fromD_run {g : D.Grid} {cell n : Nat} (h : bAt g.Cells cell = 46 ∧ ¬ (0 < cell / g.Cols.toNat ∧ bAt g.Cells (Int.toNat (((cell : Nat) : Int) - g.Cols)) = 46)) (hr : runN (slD g cell) 6 0 = runN (slD g cell) (6 - n) n) (hn : ¬ slD g cell n) : fromD g cell = n := by
  rw [fromD, if_pos h, hr, runN_end hn]
theorem zD {g : D.Grid} {cell : Nat} {down : Bool} (hd : down = true) (h : ¬ bAt g.Cells cell = 46 ∨ (0 < cell / g.Cols.toNat ∧ bAt g.Cells (Int.toNat (((cell : Nat) : Int) - g.Cols)) = 46)) : (0 : Int) = ((fromG g cell down : Nat) : Int) := by
  rw [fromG, if_pos hd, fromD_zero h]; rfl
theorem zA {g : D.Grid} {cell : Nat} {down : Bool} (hd : down = false) (h : ¬ bAt g.Cells cell = 46 ∨ (0 < cell % g.Cols.toNat ∧ bAt g.Cells (Int.toNat (((cell : Nat) : Int) - 1)) = 46)) : (0 : Int) = ((fromG g cell down : Nat) : Int) := by
  rw [fromG, if_neg (by simp [hd]), fromA_zero h]; rfl
def runI (g : D.Grid) (cell : Nat) (down : Bool) (n : Nat) : Prop := if down = true then runN (slD g cell) 6 0 = runN (slD g cell) (6 - n) n else runN (slA g cell) 6 0 = runN (slA g cell) (6 - n) n
theorem runI_zero (g : D.Grid) (cell : Nat) (down : Bool) : runI g cell down 0 := by
  unfold runI
  split <;> rfl
theorem rD {g : D.Grid} {cell n : Nat} {down : Bool} (hd : down = true) (h : bAt g.Cells cell = 46 ∧ ¬ (0 < cell / g.Cols.toNat ∧ bAt g.Cells (Int.toNat (((cell : Nat) : Int) - g.Cols)) = 46)) (hr : runI g cell down n) (hn : ¬ slD g cell n) : ((n : Nat) : Int) = ((fromG g cell down : Nat) : Int) := by
  rw [runI, if_pos hd] at hr
  rw [fromG, if_pos hd, fromD_run h hr hn]
theorem rA {g : D.Grid} {cell n : Nat} {down : Bool} (hd : down = false) (h : bAt g.Cells cell = 46 ∧ ¬ (0 < cell % g.Cols.toNat ∧ bAt g.Cells (Int.toNat (((cell : Nat) : Int) - 1)) = 46)) (hr : runI g cell down n) (hn : ¬ slA g cell n) : ((n : Nat) : Int) = ((fromG g cell down : Nat) : Int) := by
  rw [runI, if_neg (by simp [hd])] at hr
  rw [fromG, if_neg (by simp [hd]), fromA_run h hr hn]
theorem stepD {g : D.Grid} {cell n : Nat} {down : Bool} (hd : down = true) (hr : runI g cell down n) (hn : slD g cell n) (h6 : n < 6) : runI g cell down (n + 1) := by
  rw [runI, if_pos hd] at *
  rw [hr, runN_next hn h6]
theorem stepA {g : D.Grid} {cell n : Nat} {down : Bool} (hd : down = false) (hr : runI g cell down n) (hn : slA g cell n) (h6 : n < 6) : runI g cell down (n + 1) := by
  rw [runI, if_neg (by simp [hd])] at *
  rw [hr, runN_next hn h6]
end
theorem W_spec_l8From (n : Nat) (g : D.Grid) (cell : Nat) (down : Bool) (hg : gridOk g) (hc : cell < g.Cells.size) : Pure (acall Tryz.prog (n + 1)) 131 [(T.agg (eGrid false g)), (tN cell), (tB down)] (tN (fromG g cell down)) := by
  refine Pure.intro (rs := [ResultVar.tmp 6]) Tryz.func131 rfl rfl rfl (E0 := [(0, (T.agg (eGrid false g))), (1, (tN cell)), (2, (tB down))]) rfl ?_
  obtain ⟨hlim, hmx, hmax⟩ := lims
  have hsz := hg.size
  have hA := hg.1
  have hB := hg.2.1
  obtain ⟨hC1, hC2, hC3, hC4, hC5⟩ := cell_at hg hc
  have hq0 : 0 ≤ ((cell : Nat) : Int) / ((g.Cols.toNat : Nat) : Int) := Int.ediv_nonneg (by omega) (by omega)
  have hm0 : 0 ≤ ((cell : Nat) : Int) % ((g.Cols.toNat : Nat) : Int) := Int.emod_nonneg _ (by omega)
  refine sr (kO (B.box (ts := (eGrid false g)) (tv (T.agg (eGrid false g)) rfl) nofun rfl) (fO (OF.assign (VEv.int .i64 0)) (nt (sr (fO (OF.assign (VEv.int .i64 1)) (nt (sr (mO (tN cell) rfl (lf (tI g.Cols) rfl fa34_1 rfl rfl st3 (fO (B.rem (n := ((cell % g.Cols.toNat : Nat) : Int)) (tv (tN cell) rfl) (tv (tI g.Cols) rfl) (by omega) (by (refine remN ?_; omega))) (aO (tN (cell % g.Cols.toNat)) rfl ?_)))))))))))
  refine nt (sr (lf (tI g.Cols) rfl fa34_1 rfl rfl st3 (aO (tI g.Cols) rfl (nt (sq (sr (mO (tB down) rfl (nt ?_))))))))
  refine VRun.cond (tv (tB down) rfl) (fun hc0 => ?_) (fun hc0 => ?_)
  · have fhc0 : down = true := hc0
    refine sr (lf (tI g.Cols) rfl fa34_1 rfl rfl st3 (aO (tI g.Cols) rfl (nt (sr (mO (tN cell) rfl (lf (tI g.Cols) rfl fa34_1 rfl rfl st3 (fO (B.quo (n := ((cell / g.Cols.toNat : Nat) : Int)) (tv (tN cell) rfl) (tv (tI g.Cols) rfl) (by omega) (by (refine quoN ?_ ?_ <;> omega))) (aO (tN (cell / g.Cols.toNat)) rfl (nt (VRun.region (lf (tI g.Rows) rfl fa34_0 rfl rfl st3 ?_)))))))))))
    refine aO (tI g.Rows) rfl (VRunO.nil (tn (sq (sr (lf (tS g.Cells) rfl fa34_2 rfl rfl st9 (mO (tN cell) rfl ?_))))))
    have hb1 : cell < g.Cells.size := (by omega)
    refine fO (xix (tv (tS g.Cells) rfl) (tv (tN cell) rfl) hb1 U9) (fO (xne (tv (T.int .u8 (bAt g.Cells cell)) rfl) (VEv.int .u8 46)) (mO (tB (!(decide (bAt g.Cells cell = 46)))) rfl ?_))
    refine gn (bAt g.Cells cell = 46) (fun fhg31_2 => ?_) fun fhg31_2 => ?_
    · refine offs 3 5 false 31 (ny fhg31_2) rfl rfl rfl ?_
      refine offu 7 8 true 34 rfl rfl rfl (oO rfl rfl (ny fhg31_2) (fO (OF.pickT (VEv.tmpB rfl (ny fhg31_2)) (VEv.bool true)) (nt (ct rfl (sr (fO (OF.assign (VEv.int .i64 0)) (nt (rt (tr (vi (n' := 0) rfl ?_))))))))))
      (refine zD fhc0 ?_; omega)
    refine gF (nz fhg31_2) rfl rfl (OF.move (tv (tN (cell / g.Cols.toNat)) rfl)) (gF (nz fhg31_2) rfl rfl (B.gtr (c := (decide (0 < cell / g.Cols.toNat))) (tv (tN (cell / g.Cols.toNat)) rfl) (VEv.int .i64 0) (by exact decN (by omega))) (gF (nz fhg31_2) rfl rfl (OF.move (tv (tB (decide (0 < cell / g.Cols.toNat))) rfl)) ?_))
    refine gw (0 < cell / g.Cols.toNat) (fun fhg34_3 => ?_) fun fhg34_3 => ?_
    · refine glf (tS g.Cells) (dy fhg34_3) rfl rfl rfl rfl fa34_2 rfl rfl st9 ?_
      refine gF (dy fhg34_3) rfl rfl (OF.move (tv (tN cell) rfl)) (gF (dy fhg34_3) rfl rfl (OF.move (tv (tI g.Cols) rfl)) (gF (dy fhg34_3) rfl rfl (B.sub (n := (((cell : Nat) : Int) - g.Cols)) (tv (tN cell) rfl) (tv (tI g.Cols) rfl) (by (rw [wrap64 (by omega)]; done))) ?_))
      have hb4 : (Int.toNat (((cell : Nat) : Int) - g.Cols)) < g.Cells.size := (by omega)
      refine gF (dy fhg34_3) rfl rfl (B.index (n := (bAt g.Cells (Int.toNat (((cell : Nat) : Int) - g.Cols)))) (i := (Int.toNat (((cell : Nat) : Int) - g.Cols))) (tv (tS g.Cells) rfl) (tv (tI (((cell : Nat) : Int) - g.Cols)) rfl) (by omega) hb4 U9 (bAt_eq hb4)) (gF (dy fhg34_3) rfl rfl (xeq (tv (T.int .u8 (bAt g.Cells (Int.toNat (((cell : Nat) : Int) - g.Cols)))) rfl) (VEv.int .u8 46)) (gF (nz fhg31_2) rfl rfl (OF.pickT (VEv.tmpB rfl (dy fhg34_3)) (tv (tB (decide (bAt g.Cells (Int.toNat (((cell : Nat) : Int) - g.Cols)) = 46))) rfl)) (fO (OF.pickF (VEv.tmpB rfl (nz fhg31_2)) (tv (tB (decide (bAt g.Cells (Int.toNat (((cell : Nat) : Int) - g.Cols)) = 46))) rfl)) (nt ?_))))
      refine cd (bAt g.Cells (Int.toNat (((cell : Nat) : Int) - g.Cols)) = 46) rfl (fun fhc1 => ?_) fun fhc1 => ?_
      · refine sr ?_
        refine fO (OF.assign (VEv.int .i64 0)) (nt (rt (tr (vi (n' := 0) rfl ?_))))
        (refine zD fhc0 ?_; omega)
      refine sk (tn (sr (fO (OF.assign (VEv.int .i64 0)) (nt (sq (VRun.block ?_))))))
      refine VRun.loop (A := Nat) (fun s_ => [(1, (tN cell)), (3, (T.op 0 0)), (6, (tN 0)), (7, (tI g.Cols)), (8, (tN (cell / g.Cols.toNat))), (9, (tI g.Rows)), (10, (tN s_))]) (fun s_ => mkO [(0, (Obj.cells (eGrid false g)))]) 1 (fun s_ => s_ ≤ 6 ∧ runI g cell down s_) (fun s_ => 6 - s_) (0 : Nat) ?_ (Wk.mk (fun k => k) ?_ ?_ ?_) ?_
      · exact ⟨Nat.zero_le _, runI_zero _ _ _⟩
      · exact (b2 (b2 (b2 (b2 (b2 (b2 (b2 bn)))))))
      · exact (b3 bn)
      · exact nd rfl
      rintro n (hI' : n ≤ 6 ∧ runI g cell down n)
      show VRun _ _ _ [(1, (tN cell)), (3, (T.op 0 0)), (6, (tN 0)), (7, (tI g.Cols)), (8, (tN (cell / g.Cols.toNat))), (9, (tI g.Rows)), (10, (tN n))] (mkO [(0, (Obj.cells (eGrid false g)))]) 1 _
      have hI1 := hI'.1
      have hN := mulN hI1 hB.1 hB.2
      have hC6 := hC4 n
      have hC7 := hC5 n
      refine sq (sr (mO (tN (cell / g.Cols.toNat)) rfl (mO (tN n) rfl (fO (B.add (n := (((cell / g.Cols.toNat + n) : Nat) : Int)) (tv (tN (cell / g.Cols.toNat)) rfl) (tv (tN n) rfl) (by (rw [wrap64 (by omega)]; omega))) (mO (tI g.Rows) rfl (fO (xls (tv (tN (cell / g.Cols.toNat + n)) rfl) (tv (tI g.Rows) rfl)) (mO (tB (decide ((((cell / g.Cols.toNat + n) : Nat) : Int) < g.Rows))) rfl ?_)))))))
      refine gw ((((cell / g.Cols.toNat + n) : Nat) : Int) < g.Rows) (fun fhg49_5 => ?_) fun fhg49_5 => ?_
      · refine glf (tS g.Cells) (dy fhg49_5) rfl rfl rfl rfl fa34_2 rfl rfl st9 ?_
        refine gF (dy fhg49_5) rfl rfl (OF.move (tv (tN cell) rfl)) (gF (dy fhg49_5) rfl rfl (OF.move (tv (tN n) rfl)) (gF (dy fhg49_5) rfl rfl (OF.move (tv (tI g.Cols) rfl)) (gF (dy fhg49_5) rfl rfl (B.mul (n := (((n : Nat) : Int) * g.Cols)) (tv (tN n) rfl) (tv (tI g.Cols) rfl) (by (refine mulWn ?_ ?_ ?_ <;> omega))) (gF (dy fhg49_5) rfl rfl (B.add (n := (((cell : Nat) : Int) + (((n : Nat) : Int) * g.Cols))) (tv (tN cell) rfl) (tv (tI (((n : Nat) : Int) * g.Cols)) rfl) (by (rw [wrap64 (by omega)]; done))) ?_))))
        have hb6 : (Int.toNat (((cell : Nat) : Int) + (((n : Nat) : Int) * g.Cols))) < g.Cells.size := (by omega)
        refine gF (dy fhg49_5) rfl rfl (B.index (n := (bAt g.Cells (Int.toNat (((cell : Nat) : Int) + (((n : Nat) : Int) * g.Cols))))) (i := (Int.toNat (((cell : Nat) : Int) + (((n : Nat) : Int) * g.Cols)))) (tv (tS g.Cells) rfl) (tv (tI (((cell : Nat) : Int) + (((n : Nat) : Int) * g.Cols))) rfl) (by omega) hb6 U9 (bAt_eq hb6)) (gF (dy fhg49_5) rfl rfl (xeq (tv (T.int .u8 (bAt g.Cells (Int.toNat (((cell : Nat) : Int) + (((n : Nat) : Int) * g.Cols))))) rfl) (VEv.int .u8 46)) (fO (OF.pickT (VEv.tmpB rfl (dy fhg49_5)) (tv (tB (decide (bAt g.Cells (Int.toNat (((cell : Nat) : Int) + (((n : Nat) : Int) * g.Cols))) = 46))) rfl)) (nt ?_)))
        refine cd (bAt g.Cells (Int.toNat (((cell : Nat) : Int) + (((n : Nat) : Int) * g.Cols))) = 46) rfl (fun fhc2 => ?_) fun fhc2 => ?_
        · refine sk ?_
          refine tn (VRun.block (VRun.region (mO (tN n) rfl (fO (xinc (tv (tN n) rfl) (VEv.int .i64 1) (by omega)) (aO (tN (n + 1)) rfl (VRunO.nil (vinB.n (tn ?_))))))))
          refine ⟨(n + 1 : Nat), ?_, ?_, Wk.mk (fun k => k) ?_ ?_ ?_⟩
          · (refine ⟨?_, stepD fhc0 hI'.2 ?_ ?_⟩ <;> first | omega | (unfold slD; omega))
          · omega
          · exact (b2 (b2 (b2 (b2 (b2 (b2 (b2 bn)))))))
          · exact (b3 bn)
          · exact nd rfl
        refine VRun.exit (vthn.e (vthn.e (vinB.e (tn (sr (mO (tN n) rfl (aO (tN n) rfl (nt (rt (vi (n' := ((n : Nat) : Int)) rfl ?_))))))))))
        (refine rD fhc0 ?_ hI'.2 ?_ <;> first | omega | (unfold slD; omega))
      refine offs 9 5 true 49 (dz fhg49_5) rfl rfl rfl (fO (OF.pickF (VEv.tmpB rfl (dz fhg49_5)) (VEv.bool false)) (nt (cf rfl (VRun.exit (vthn.e (vthn.e (vinB.e (tn (sr (mO (tN n) rfl (aO (tN n) rfl ?_)))))))))))
      refine nt (rt (vi (n' := ((n : Nat) : Int)) rfl ?_))
      (refine rD fhc0 ?_ hI'.2 ?_ <;> first | omega | (unfold slD; omega))
    refine offs 7 8 true 34 (dz fhg34_3) rfl rfl rfl (gF (nz fhg31_2) rfl rfl (OF.pickF (VEv.tmpB rfl (dz fhg34_3)) (VEv.bool false)) (fO (OF.pickF (VEv.tmpB rfl (nz fhg31_2)) (tv (tB false) rfl)) (nt (cf rfl (sk (tn (sr (fO (OF.assign (VEv.int .i64 0)) (nt (sq (VRun.block ?_)))))))))))
    refine VRun.loop (A := Nat) (fun s_ => [(1, (tN cell)), (3, (T.op 0 0)), (6, (tN 0)), (7, (tI g.Cols)), (8, (tN (cell / g.Cols.toNat))), (9, (tI g.Rows)), (10, (tN s_))]) (fun s_ => mkO [(0, (Obj.cells (eGrid false g)))]) 1 (fun s_ => s_ ≤ 6 ∧ runI g cell down s_) (fun s_ => 6 - s_) (0 : Nat) ?_ (Wk.mk (fun k => k) ?_ ?_ ?_) ?_
    · exact ⟨Nat.zero_le _, runI_zero _ _ _⟩
    · exact (b2 (b2 (b2 (b2 (b2 (b2 (b2 bn)))))))
    · exact (b3 bn)
    · exact nd rfl
    rintro n (hI' : n ≤ 6 ∧ runI g cell down n)
    show VRun _ _ _ [(1, (tN cell)), (3, (T.op 0 0)), (6, (tN 0)), (7, (tI g.Cols)), (8, (tN (cell / g.Cols.toNat))), (9, (tI g.Rows)), (10, (tN n))] (mkO [(0, (Obj.cells (eGrid false g)))]) 1 _
    have hI1 := hI'.1
    have hN := mulN hI1 hB.1 hB.2
    have hC6 := hC4 n
    have hC7 := hC5 n
    refine sq (sr (mO (tN (cell / g.Cols.toNat)) rfl (mO (tN n) rfl (fO (B.add (n := (((cell / g.Cols.toNat + n) : Nat) : Int)) (tv (tN (cell / g.Cols.toNat)) rfl) (tv (tN n) rfl) (by (rw [wrap64 (by omega)]; omega))) (mO (tI g.Rows) rfl (fO (xls (tv (tN (cell / g.Cols.toNat + n)) rfl) (tv (tI g.Rows) rfl)) (mO (tB (decide ((((cell / g.Cols.toNat + n) : Nat) : Int) < g.Rows))) rfl ?_)))))))
    refine gw ((((cell / g.Cols.toNat + n) : Nat) : Int) < g.Rows) (fun fhg49_7 => ?_) fun fhg49_7 => ?_
    · refine glf (tS g.Cells) (dy fhg49_7) rfl rfl rfl rfl fa34_2 rfl rfl st9 ?_
      refine gF (dy fhg49_7) rfl rfl (OF.move (tv (tN cell) rfl)) (gF (dy fhg49_7) rfl rfl (OF.move (tv (tN n) rfl)) (gF (dy fhg49_7) rfl rfl (OF.move (tv (tI g.Cols) rfl)) (gF (dy fhg49_7) rfl rfl (B.mul (n := (((n : Nat) : Int) * g.Cols)) (tv (tN n) rfl) (tv (tI g.Cols) rfl) (by (refine mulWn ?_ ?_ ?_ <;> omega))) (gF (dy fhg49_7) rfl rfl (B.add (n := (((cell : Nat) : Int) + (((n : Nat) : Int) * g.Cols))) (tv (tN cell) rfl) (tv (tI (((n : Nat) : Int) * g.Cols)) rfl) (by (rw [wrap64 (by omega)]; done))) ?_))))
      have hb8 : (Int.toNat (((cell : Nat) : Int) + (((n : Nat) : Int) * g.Cols))) < g.Cells.size := (by omega)
      refine gF (dy fhg49_7) rfl rfl (B.index (n := (bAt g.Cells (Int.toNat (((cell : Nat) : Int) + (((n : Nat) : Int) * g.Cols))))) (i := (Int.toNat (((cell : Nat) : Int) + (((n : Nat) : Int) * g.Cols)))) (tv (tS g.Cells) rfl) (tv (tI (((cell : Nat) : Int) + (((n : Nat) : Int) * g.Cols))) rfl) (by omega) hb8 U9 (bAt_eq hb8)) (gF (dy fhg49_7) rfl rfl (xeq (tv (T.int .u8 (bAt g.Cells (Int.toNat (((cell : Nat) : Int) + (((n : Nat) : Int) * g.Cols))))) rfl) (VEv.int .u8 46)) (fO (OF.pickT (VEv.tmpB rfl (dy fhg49_7)) (tv (tB (decide (bAt g.Cells (Int.toNat (((cell : Nat) : Int) + (((n : Nat) : Int) * g.Cols))) = 46))) rfl)) (nt ?_)))
      refine cd (bAt g.Cells (Int.toNat (((cell : Nat) : Int) + (((n : Nat) : Int) * g.Cols))) = 46) rfl (fun fhc2 => ?_) fun fhc2 => ?_
      · refine sk ?_
        refine tn (VRun.block (VRun.region (mO (tN n) rfl (fO (xinc (tv (tN n) rfl) (VEv.int .i64 1) (by omega)) (aO (tN (n + 1)) rfl (VRunO.nil (vinB.n (tn ?_))))))))
        refine ⟨(n + 1 : Nat), ?_, ?_, Wk.mk (fun k => k) ?_ ?_ ?_⟩
        · (refine ⟨?_, stepD fhc0 hI'.2 ?_ ?_⟩ <;> first | omega | (unfold slD; omega))
        · omega
        · exact (b2 (b2 (b2 (b2 (b2 (b2 (b2 bn)))))))
        · exact (b3 bn)
        · exact nd rfl
      refine VRun.exit (vthn.e (vthn.e (vinB.e (tn (sr (mO (tN n) rfl (aO (tN n) rfl (nt (rt (vi (n' := ((n : Nat) : Int)) rfl ?_))))))))))
      (refine rD fhc0 ?_ hI'.2 ?_ <;> first | omega | (unfold slD; omega))
    refine offs 9 5 true 49 (dz fhg49_7) rfl rfl rfl (fO (OF.pickF (VEv.tmpB rfl (dz fhg49_7)) (VEv.bool false)) (nt (cf rfl (VRun.exit (vthn.e (vthn.e (vinB.e (tn (sr (mO (tN n) rfl (aO (tN n) rfl ?_)))))))))))
    refine nt (rt (vi (n' := ((n : Nat) : Int)) rfl ?_))
    (refine rD fhc0 ?_ hI'.2 ?_ <;> first | omega | (unfold slD; omega))
  have fhc0 : down = false := hc0
  refine sk (tn (sq (sr (lf (tS g.Cells) rfl fa34_2 rfl rfl st9 (mO (tN cell) rfl ?_)))))
  have hb9 : cell < g.Cells.size := (by omega)
  refine fO (xix (tv (tS g.Cells) rfl) (tv (tN cell) rfl) hb9 U9) (fO (xne (tv (T.int .u8 (bAt g.Cells cell)) rfl) (VEv.int .u8 46)) (mO (tB (!(decide (bAt g.Cells cell = 46)))) rfl ?_))
  refine gn (bAt g.Cells cell = 46) (fun fhg31_10 => ?_) fun fhg31_10 => ?_
  · refine offs 3 5 false 31 (ny fhg31_10) rfl rfl rfl ?_
    refine offu 7 8 true 34 rfl rfl rfl (oO rfl rfl (ny fhg31_10) (fO (OF.pickT (VEv.tmpB rfl (ny fhg31_10)) (VEv.bool true)) (nt (ct rfl (sr (fO (OF.assign (VEv.int .i64 0)) (nt (rt (tr (vi (n' := 0) rfl ?_))))))))))
    (refine zA fhc0 ?_; omega)
  refine gF (nz fhg31_10) rfl rfl (OF.move (tv (tN (cell % g.Cols.toNat)) rfl)) (gF (nz fhg31_10) rfl rfl (B.gtr (c := (decide (0 < cell % g.Cols.toNat))) (tv (tN (cell % g.Cols.toNat)) rfl) (VEv.int .i64 0) (by exact decN (by omega))) (gF (nz fhg31_10) rfl rfl (OF.move (tv (tB (decide (0 < cell % g.Cols.toNat))) rfl)) ?_))
  refine gw (0 < cell % g.Cols.toNat) (fun fhg34_11 => ?_) fun fhg34_11 => ?_
  · refine glf (tS g.Cells) (dy fhg34_11) rfl rfl rfl rfl fa34_2 rfl rfl st9 ?_
    refine gF (dy fhg34_11) rfl rfl (OF.move (tv (tN cell) rfl)) (gF (dy fhg34_11) rfl rfl (OF.move (tv (tN 1) rfl)) (gF (dy fhg34_11) rfl rfl (B.sub (n := (((cell : Nat) : Int) - 1)) (tv (tN cell) rfl) (tv (tN 1) rfl) (by (rw [wrap64 (by omega)]; omega))) ?_))
    have hb12 : (Int.toNat (((cell : Nat) : Int) - 1)) < g.Cells.size := (by omega)
    refine gF (dy fhg34_11) rfl rfl (B.index (n := (bAt g.Cells (Int.toNat (((cell : Nat) : Int) - 1)))) (i := (Int.toNat (((cell : Nat) : Int) - 1))) (tv (tS g.Cells) rfl) (tv (tI (((cell : Nat) : Int) - 1)) rfl) (by omega) hb12 U9 (bAt_eq hb12)) (gF (dy fhg34_11) rfl rfl (xeq (tv (T.int .u8 (bAt g.Cells (Int.toNat (((cell : Nat) : Int) - 1)))) rfl) (VEv.int .u8 46)) (gF (nz fhg31_10) rfl rfl (OF.pickT (VEv.tmpB rfl (dy fhg34_11)) (tv (tB (decide (bAt g.Cells (Int.toNat (((cell : Nat) : Int) - 1)) = 46))) rfl)) (fO (OF.pickF (VEv.tmpB rfl (nz fhg31_10)) (tv (tB (decide (bAt g.Cells (Int.toNat (((cell : Nat) : Int) - 1)) = 46))) rfl)) (nt ?_))))
    refine cd (bAt g.Cells (Int.toNat (((cell : Nat) : Int) - 1)) = 46) rfl (fun fhc1 => ?_) fun fhc1 => ?_
    · refine sr ?_
      refine fO (OF.assign (VEv.int .i64 0)) (nt (rt (tr (vi (n' := 0) rfl ?_))))
      (refine zA fhc0 ?_; omega)
    refine sk (tn (sr (fO (OF.assign (VEv.int .i64 0)) (nt (sq (VRun.block ?_))))))
    refine VRun.loop (A := Nat) (fun s_ => [(1, (tN cell)), (3, (T.op 0 0)), (6, (tN 0)), (7, (tN 1)), (8, (tN (cell % g.Cols.toNat))), (9, (tI g.Cols)), (10, (tN s_))]) (fun s_ => mkO [(0, (Obj.cells (eGrid false g)))]) 1 (fun s_ => s_ ≤ 6 ∧ runI g cell down s_) (fun s_ => 6 - s_) (0 : Nat) ?_ (Wk.mk (fun k => k) ?_ ?_ ?_) ?_
    · exact ⟨Nat.zero_le _, runI_zero _ _ _⟩
    · exact (b2 (b2 (b2 (b2 (b2 (b2 (b2 bn)))))))
    · exact (b3 bn)
    · exact nd rfl
    rintro n (hI' : n ≤ 6 ∧ runI g cell down n)
    show VRun _ _ _ [(1, (tN cell)), (3, (T.op 0 0)), (6, (tN 0)), (7, (tN 1)), (8, (tN (cell % g.Cols.toNat))), (9, (tI g.Cols)), (10, (tN n))] (mkO [(0, (Obj.cells (eGrid false g)))]) 1 _
    have hI1 := hI'.1
    have hN := mulN hI1 hB.1 hB.2
    have hC6 := hC4 n
    have hC7 := hC5 n
    refine sq (sr (mO (tN (cell % g.Cols.toNat)) rfl (mO (tN n) rfl (fO (B.add (n := (((cell % g.Cols.toNat + n) : Nat) : Int)) (tv (tN (cell % g.Cols.toNat)) rfl) (tv (tN n) rfl) (by (rw [wrap64 (by omega)]; omega))) (mO (tI g.Cols) rfl (fO (xls (tv (tN (cell % g.Cols.toNat + n)) rfl) (tv (tI g.Cols) rfl)) (mO (tB (decide ((((cell % g.Cols.toNat + n) : Nat) : Int) < g.Cols))) rfl ?_)))))))
    refine gw ((((cell % g.Cols.toNat + n) : Nat) : Int) < g.Cols) (fun fhg49_13 => ?_) fun fhg49_13 => ?_
    · refine glf (tS g.Cells) (dy fhg49_13) rfl rfl rfl rfl fa34_2 rfl rfl st9 ?_
      refine gF (dy fhg49_13) rfl rfl (OF.move (tv (tN cell) rfl)) (gF (dy fhg49_13) rfl rfl (OF.move (tv (tN n) rfl)) (gF (dy fhg49_13) rfl rfl (OF.move (tv (tN 1) rfl)) (gF (dy fhg49_13) rfl rfl (B.mul (n := (((n * 1) : Nat) : Int)) (tv (tN n) rfl) (tv (tN 1) rfl) (by (rw [wrap64 (by omega)]; omega))) (gF (dy fhg49_13) rfl rfl (B.add (n := (((cell + (n * 1)) : Nat) : Int)) (tv (tN cell) rfl) (tv (tN (n * 1)) rfl) (by (rw [wrap64 (by omega)]; omega))) ?_))))
      have hb14 : (cell + (n * 1)) < g.Cells.size := (by omega)
      refine gF (dy fhg49_13) rfl rfl (xix (tv (tS g.Cells) rfl) (tv (tN (cell + (n * 1))) rfl) hb14 U9) (gF (dy fhg49_13) rfl rfl (xeq (tv (T.int .u8 (bAt g.Cells (cell + (n * 1)))) rfl) (VEv.int .u8 46)) (fO (OF.pickT (VEv.tmpB rfl (dy fhg49_13)) (tv (tB (decide (bAt g.Cells (cell + (n * 1)) = 46))) rfl)) (nt ?_)))
      refine cd (bAt g.Cells (cell + (n * 1)) = 46) rfl (fun fhc2 => ?_) fun fhc2 => ?_
      · refine sk ?_
        refine tn (VRun.block (VRun.region (mO (tN n) rfl (fO (xinc (tv (tN n) rfl) (VEv.int .i64 1) (by omega)) (aO (tN (n + 1)) rfl (VRunO.nil (vinB.n (tn ?_))))))))
        refine ⟨(n + 1 : Nat), ?_, ?_, Wk.mk (fun k => k) ?_ ?_ ?_⟩
        · (refine ⟨?_, stepA fhc0 hI'.2 ?_ ?_⟩ <;> first | omega | (unfold slA; omega))
        · omega
        · exact (b2 (b2 (b2 (b2 (b2 (b2 (b2 bn)))))))
        · exact (b3 bn)
        · exact nd rfl
      refine VRun.exit (vthn.e (vthn.e (vinB.e (tn (sr (mO (tN n) rfl (aO (tN n) rfl (nt (rt (vi (n' := ((n : Nat) : Int)) rfl ?_))))))))))
      (refine rA fhc0 ?_ hI'.2 ?_ <;> first | omega | (unfold slA; omega))
    refine offs 9 5 true 49 (dz fhg49_13) rfl rfl rfl (fO (OF.pickF (VEv.tmpB rfl (dz fhg49_13)) (VEv.bool false)) (nt (cf rfl (VRun.exit (vthn.e (vthn.e (vinB.e (tn (sr (mO (tN n) rfl (aO (tN n) rfl ?_)))))))))))
    refine nt (rt (vi (n' := ((n : Nat) : Int)) rfl ?_))
    (refine rA fhc0 ?_ hI'.2 ?_ <;> first | omega | (unfold slA; omega))
  refine offs 7 8 true 34 (dz fhg34_11) rfl rfl rfl (gF (nz fhg31_10) rfl rfl (OF.pickF (VEv.tmpB rfl (dz fhg34_11)) (VEv.bool false)) (fO (OF.pickF (VEv.tmpB rfl (nz fhg31_10)) (tv (tB false) rfl)) (nt (cf rfl (sk (tn (sr (fO (OF.assign (VEv.int .i64 0)) (nt (sq (VRun.block ?_)))))))))))
  refine VRun.loop (A := Nat) (fun s_ => [(1, (tN cell)), (3, (T.op 0 0)), (6, (tN 0)), (7, (tN 1)), (8, (tN (cell % g.Cols.toNat))), (9, (tI g.Cols)), (10, (tN s_))]) (fun s_ => mkO [(0, (Obj.cells (eGrid false g)))]) 1 (fun s_ => s_ ≤ 6 ∧ runI g cell down s_) (fun s_ => 6 - s_) (0 : Nat) ?_ (Wk.mk (fun k => k) ?_ ?_ ?_) ?_
  · exact ⟨Nat.zero_le _, runI_zero _ _ _⟩
  · exact (b2 (b2 (b2 (b2 (b2 (b2 (b2 bn)))))))
  · exact (b3 bn)
  · exact nd rfl
  rintro n (hI' : n ≤ 6 ∧ runI g cell down n)
  show VRun _ _ _ [(1, (tN cell)), (3, (T.op 0 0)), (6, (tN 0)), (7, (tN 1)), (8, (tN (cell % g.Cols.toNat))), (9, (tI g.Cols)), (10, (tN n))] (mkO [(0, (Obj.cells (eGrid false g)))]) 1 _
  have hI1 := hI'.1
  have hN := mulN hI1 hB.1 hB.2
  have hC6 := hC4 n
  have hC7 := hC5 n
  refine sq (sr (mO (tN (cell % g.Cols.toNat)) rfl (mO (tN n) rfl (fO (B.add (n := (((cell % g.Cols.toNat + n) : Nat) : Int)) (tv (tN (cell % g.Cols.toNat)) rfl) (tv (tN n) rfl) (by (rw [wrap64 (by omega)]; omega))) (mO (tI g.Cols) rfl (fO (xls (tv (tN (cell % g.Cols.toNat + n)) rfl) (tv (tI g.Cols) rfl)) (mO (tB (decide ((((cell % g.Cols.toNat + n) : Nat) : Int) < g.Cols))) rfl ?_)))))))
  refine gw ((((cell % g.Cols.toNat + n) : Nat) : Int) < g.Cols) (fun fhg49_15 => ?_) fun fhg49_15 => ?_
  · refine glf (tS g.Cells) (dy fhg49_15) rfl rfl rfl rfl fa34_2 rfl rfl st9 ?_
    refine gF (dy fhg49_15) rfl rfl (OF.move (tv (tN cell) rfl)) (gF (dy fhg49_15) rfl rfl (OF.move (tv (tN n) rfl)) (gF (dy fhg49_15) rfl rfl (OF.move (tv (tN 1) rfl)) (gF (dy fhg49_15) rfl rfl (B.mul (n := (((n * 1) : Nat) : Int)) (tv (tN n) rfl) (tv (tN 1) rfl) (by (rw [wrap64 (by omega)]; omega))) (gF (dy fhg49_15) rfl rfl (B.add (n := (((cell + (n * 1)) : Nat) : Int)) (tv (tN cell) rfl) (tv (tN (n * 1)) rfl) (by (rw [wrap64 (by omega)]; omega))) ?_))))
    have hb16 : (cell + (n * 1)) < g.Cells.size := (by omega)
    refine gF (dy fhg49_15) rfl rfl (xix (tv (tS g.Cells) rfl) (tv (tN (cell + (n * 1))) rfl) hb16 U9) (gF (dy fhg49_15) rfl rfl (xeq (tv (T.int .u8 (bAt g.Cells (cell + (n * 1)))) rfl) (VEv.int .u8 46)) (fO (OF.pickT (VEv.tmpB rfl (dy fhg49_15)) (tv (tB (decide (bAt g.Cells (cell + (n * 1)) = 46))) rfl)) (nt ?_)))
    refine cd (bAt g.Cells (cell + (n * 1)) = 46) rfl (fun fhc2 => ?_) fun fhc2 => ?_
    · refine sk ?_
      refine tn (VRun.block (VRun.region (mO (tN n) rfl (fO (xinc (tv (tN n) rfl) (VEv.int .i64 1) (by omega)) (aO (tN (n + 1)) rfl (VRunO.nil (vinB.n (tn ?_))))))))
      refine ⟨(n + 1 : Nat), ?_, ?_, Wk.mk (fun k => k) ?_ ?_ ?_⟩
      · (refine ⟨?_, stepA fhc0 hI'.2 ?_ ?_⟩ <;> first | omega | (unfold slA; omega))
      · omega
      · exact (b2 (b2 (b2 (b2 (b2 (b2 (b2 bn)))))))
      · exact (b3 bn)
      · exact nd rfl
    refine VRun.exit (vthn.e (vthn.e (vinB.e (tn (sr (mO (tN n) rfl (aO (tN n) rfl (nt (rt (vi (n' := ((n : Nat) : Int)) rfl ?_))))))))))
    (refine rA fhc0 ?_ hI'.2 ?_ <;> first | omega | (unfold slA; omega))
  refine offs 9 5 true 49 (dz fhg49_15) rfl rfl rfl (fO (OF.pickF (VEv.tmpB rfl (dz fhg49_15)) (VEv.bool false)) (nt (cf rfl (VRun.exit (vthn.e (vthn.e (vinB.e (tn (sr (mO (tN n) rfl (aO (tN n) rfl ?_)))))))))))
  refine nt (rt (vi (n' := ((n : Nat) : Int)) rfl ?_))
  (refine rA fhc0 ?_ hI'.2 ?_ <;> first | omega | (unfold slA; omega))
theorem W_impl_run (n : Nat) (g : D.Grid) (cell : Nat) (down : Bool) (hg : gridOk g) (hc : cell < g.Cells.size) : Pure (acall Tryz.prog (n + 1)) 140 [(T.agg (eGrid false g)), (tN cell), (tB down)] (tN (fromG g cell down)) := by
  refine Pure.intro (rs := [ResultVar.tmp 6]) Tryz.func140 rfl rfl rfl (E0 := [(0, (T.agg (eGrid false g))), (1, (tN cell)), (2, (tB down))]) rfl ?_
  obtain ⟨hlim, hmx, hmax⟩ := lims
  have hsz := hg.size
  have hA := hg.1
  have hB := hg.2.1
  obtain ⟨hC1, hC2, hC3, hC4, hC5⟩ := cell_at hg hc
  have hq0 : 0 ≤ ((cell : Nat) : Int) / ((g.Cols.toNat : Nat) : Int) := Int.ediv_nonneg (by omega) (by omega)
  have hm0 : 0 ≤ ((cell : Nat) : Int) % ((g.Cols.toNat : Nat) : Int) := Int.emod_nonneg _ (by omega)
  refine sr (kO (B.box (ts := (eGrid false g)) (tv (T.agg (eGrid false g)) rfl) nofun rfl) (fO (OF.assign (VEv.int .i64 0)) (nt (sq (VRun.draw (B := [[], [], [1], [1, 2, 0], [], [4], [], [6, 0, 2, 1, 3], [3, 1, 2, 0, 6, 7, 4, 5]]) (by kernel_rfl) (by kernel_rfl) (mD (tN cell) rfl rfl (fD (OF.fieldAddrO (tv (T.op 0 0) rfl) fa34_1) rfl rfl (lD (OL.loadO1 (t := (tI g.Cols)) (tv (T.op 0 1) rfl) rfl rfl st3) rfl rfl (fD (B.rem (n := ((cell % g.Cols.toNat : Nat) : Int)) (tv (tN cell) rfl) (tv (tI g.Cols) rfl) (by omega) (by (refine remN ?_; omega))) rfl rfl (fD (OF.fieldAddrO (tv (T.op 0 0) rfl) fa34_1) rfl rfl (lD (OL.loadO1 (t := (tI g.Cols)) (tv (T.op 0 1) rfl) rfl rfl st3) rfl rfl ?_)))))))))))
  refine fD (OF.assign (VEv.int .i64 1)) rfl rfl (fD (OF.assign (tv (tN (cell % g.Cols.toNat)) rfl)) rfl rfl (fD (OF.assign (tv (tI g.Cols) rfl)) rfl rfl (VRunD.nil (tn (sq (sr (mO (tB down) rfl (nt ?_))))))))
  refine VRun.cond (tv (tB down) rfl) (fun hc0 => ?_) (fun hc0 => ?_)
  · have fhc0 : down = true := hc0
    refine VRun.draw (B := [[], [0], [], [], [3], [3, 4, 2], [], [6], [0, 1], [1, 0, 8, 2, 4, 3, 5], [5, 3, 4, 2, 8, 0, 1, 9, 6, 7]]) (by kernel_rfl) (by kernel_rfl) (fD (OF.fieldAddrO (tv (T.op 0 0) rfl) fa34_1) rfl rfl (lD (OL.loadO1 (t := (tI g.Cols)) (tv (T.op 0 1) rfl) rfl rfl st3) rfl rfl (mD (tN cell) rfl rfl (fD (OF.fieldAddrO (tv (T.op 0 0) rfl) fa34_1) rfl rfl (lD (OL.loadO1 (t := (tI g.Cols)) (tv (T.op 0 1) rfl) rfl rfl st3) rfl rfl (fD (B.quo (n := ((cell / g.Cols.toNat : Nat) : Int)) (tv (tN cell) rfl) (tv (tI g.Cols) rfl) (by omega) (by (refine quoN ?_ ?_ <;> omega))) rfl rfl (fD (OF.fieldAddrO (tv (T.op 0 0) rfl) fa34_0) rfl rfl (lD (OL.loadO1 (t := (tI g.Rows)) (tv (T.op 0 0) rfl) rfl rfl st3) rfl rfl (fD (OF.assign (tv (tI g.Cols) rfl)) rfl rfl (fD (OF.assign (tv (tN (cell / g.Cols.toNat)) rfl)) rfl rfl (fD (OF.assign (tv (tI g.Rows) rfl)) rfl rfl ?_)))))))))))
    refine VRunD.nil (tn (sq (sr (lf (tS g.Cells) rfl fa34_2 rfl rfl st9 (mO (tN cell) rfl ?_)))))
    have hb1 : cell < g.Cells.size := (by omega)
    refine fO (xix (tv (tS g.Cells) rfl) (tv (tN cell) rfl) hb1 U9) (fO (xne (tv (T.int .u8 (bAt g.Cells cell)) rfl) (VEv.int .u8 46)) (mO (tB (!(decide (bAt g.Cells cell = 46)))) rfl ?_))
    refine gn (bAt g.Cells cell = 46) (fun fhg31_2 => ?_) fun fhg31_2 => ?_
    · refine offs 3 5 false 31 (ny fhg31_2) rfl rfl rfl ?_
      refine offu 7 8 true 34 rfl rfl rfl (oO rfl rfl (ny fhg31_2) (fO (OF.pickT (VEv.tmpB rfl (ny fhg31_2)) (VEv.bool true)) (nt (ct rfl (sr (fO (OF.assign (VEv.int .i64 0)) (nt (rt (tr (vi (n' := 0) rfl ?_))))))))))
      (refine zD fhc0 ?_; omega)
    refine gF (nz fhg31_2) rfl rfl (OF.move (tv (tN (cell / g.Cols.toNat)) rfl)) (gF (nz fhg31_2) rfl rfl (B.gtr (c := (decide (0 < cell / g.Cols.toNat))) (tv (tN (cell / g.Cols.toNat)) rfl) (VEv.int .i64 0) (by exact decN (by omega))) (gF (nz fhg31_2) rfl rfl (OF.move (tv (tB (decide (0 < cell / g.Cols.toNat))) rfl)) ?_))
    refine gw (0 < cell / g.Cols.toNat) (fun fhg34_3 => ?_) fun fhg34_3 => ?_
    · refine glf (tS g.Cells) (dy fhg34_3) rfl rfl rfl rfl fa34_2 rfl rfl st9 ?_
      refine gF (dy fhg34_3) rfl rfl (OF.move (tv (tN cell) rfl)) (gF (dy fhg34_3) rfl rfl (OF.move (tv (tI g.Cols) rfl)) (gF (dy fhg34_3) rfl rfl (B.sub (n := (((cell : Nat) : Int) - g.Cols)) (tv (tN cell) rfl) (tv (tI g.Cols) rfl) (by (rw [wrap64 (by omega)]; done))) ?_))
      have hb4 : (Int.toNat (((cell : Nat) : Int) - g.Cols)) < g.Cells.size := (by omega)
      refine gF (dy fhg34_3) rfl rfl (B.index (n := (bAt g.Cells (Int.toNat (((cell : Nat) : Int) - g.Cols)))) (i := (Int.toNat (((cell : Nat) : Int) - g.Cols))) (tv (tS g.Cells) rfl) (tv (tI (((cell : Nat) : Int) - g.Cols)) rfl) (by omega) hb4 U9 (bAt_eq hb4)) (gF (dy fhg34_3) rfl rfl (xeq (tv (T.int .u8 (bAt g.Cells (Int.toNat (((cell : Nat) : Int) - g.Cols)))) rfl) (VEv.int .u8 46)) (gF (nz fhg31_2) rfl rfl (OF.pickT (VEv.tmpB rfl (dy fhg34_3)) (tv (tB (decide (bAt g.Cells (Int.toNat (((cell : Nat) : Int) - g.Cols)) = 46))) rfl)) (fO (OF.pickF (VEv.tmpB rfl (nz fhg31_2)) (tv (tB (decide (bAt g.Cells (Int.toNat (((cell : Nat) : Int) - g.Cols)) = 46))) rfl)) (nt ?_))))
      refine cd (bAt g.Cells (Int.toNat (((cell : Nat) : Int) - g.Cols)) = 46) rfl (fun fhc1 => ?_) fun fhc1 => ?_
      · refine sr ?_
        refine fO (OF.assign (VEv.int .i64 0)) (nt (rt (tr (vi (n' := 0) rfl ?_))))
        (refine zD fhc0 ?_; omega)
      refine sk (tn (sr (fO (OF.assign (VEv.int .i64 0)) (nt (sq (VRun.block ?_))))))
      refine VRun.loop (A := Nat) (fun s_ => [(1, (tN cell)), (3, (T.op 0 0)), (6, (tN 0)), (7, (tI g.Cols)), (8, (tN (cell / g.Cols.toNat))), (9, (tI g.Rows)), (10, (tN s_))]) (fun s_ => mkO [(0, (Obj.cells (eGrid false g)))]) 1 (fun s_ => s_ ≤ 6 ∧ runI g cell down s_) (fun s_ => 6 - s_) (0 : Nat) ?_ (Wk.mk (fun k => k) ?_ ?_ ?_) ?_
      · exact ⟨Nat.zero_le _, runI_zero _ _ _⟩
      · exact (b2 (b2 (b2 (b2 (b2 (b2 (b2 bn)))))))
      · exact (b3 bn)
      · exact nd rfl
      rintro n (hI' : n ≤ 6 ∧ runI g cell down n)
      show VRun _ _ _ [(1, (tN cell)), (3, (T.op 0 0)), (6, (tN 0)), (7, (tI g.Cols)), (8, (tN (cell / g.Cols.toNat))), (9, (tI g.Rows)), (10, (tN n))] (mkO [(0, (Obj.cells (eGrid false g)))]) 1 _
      have hI1 := hI'.1
      have hN := mulN hI1 hB.1 hB.2
      have hC6 := hC4 n
      have hC7 := hC5 n
      refine sq (sr (mO (tN (cell / g.Cols.toNat)) rfl (mO (tN n) rfl (fO (B.add (n := (((cell / g.Cols.toNat + n) : Nat) : Int)) (tv (tN (cell / g.Cols.toNat)) rfl) (tv (tN n) rfl) (by (rw [wrap64 (by omega)]; omega))) (mO (tI g.Rows) rfl (fO (xls (tv (tN (cell / g.Cols.toNat + n)) rfl) (tv (tI g.Rows) rfl)) (mO (tB (decide ((((cell / g.Cols.toNat + n) : Nat) : Int) < g.Rows))) rfl ?_)))))))
      refine gw ((((cell / g.Cols.toNat + n) : Nat) : Int) < g.Rows) (fun fhg49_5 => ?_) fun fhg49_5 => ?_
      · refine glf (tS g.Cells) (dy fhg49_5) rfl rfl rfl rfl fa34_2 rfl rfl st9 ?_
        refine gF (dy fhg49_5) rfl rfl (OF.move (tv (tN cell) rfl)) (gF (dy fhg49_5) rfl rfl (OF.move (tv (tN n) rfl)) (gF (dy fhg49_5) rfl rfl (OF.move (tv (tI g.Cols) rfl)) (gF (dy fhg49_5) rfl rfl (B.mul (n := (((n : Nat) : Int) * g.Cols)) (tv (tN n) rfl) (tv (tI g.Cols) rfl) (by (refine mulWn ?_ ?_ ?_ <;> omega))) (gF (dy fhg49_5) rfl rfl (B.add (n := (((cell : Nat) : Int) + (((n : Nat) : Int) * g.Cols))) (tv (tN cell) rfl) (tv (tI (((n : Nat) : Int) * g.Cols)) rfl) (by (rw [wrap64 (by omega)]; done))) ?_))))
        have hb6 : (Int.toNat (((cell : Nat) : Int) + (((n : Nat) : Int) * g.Cols))) < g.Cells.size := (by omega)
        refine gF (dy fhg49_5) rfl rfl (B.index (n := (bAt g.Cells (Int.toNat (((cell : Nat) : Int) + (((n : Nat) : Int) * g.Cols))))) (i := (Int.toNat (((cell : Nat) : Int) + (((n : Nat) : Int) * g.Cols)))) (tv (tS g.Cells) rfl) (tv (tI (((cell : Nat) : Int) + (((n : Nat) : Int) * g.Cols))) rfl) (by omega) hb6 U9 (bAt_eq hb6)) (gF (dy fhg49_5) rfl rfl (xeq (tv (T.int .u8 (bAt g.Cells (Int.toNat (((cell : Nat) : Int) + (((n : Nat) : Int) * g.Cols))))) rfl) (VEv.int .u8 46)) (fO (OF.pickT (VEv.tmpB rfl (dy fhg49_5)) (tv (tB (decide (bAt g.Cells (Int.toNat (((cell : Nat) : Int) + (((n : Nat) : Int) * g.Cols))) = 46))) rfl)) (nt ?_)))
        refine cd (bAt g.Cells (Int.toNat (((cell : Nat) : Int) + (((n : Nat) : Int) * g.Cols))) = 46) rfl (fun fhc2 => ?_) fun fhc2 => ?_
        · refine sk ?_
          refine tn (VRun.block (VRun.region (mO (tN n) rfl (fO (xinc (tv (tN n) rfl) (VEv.int .i64 1) (by omega)) (aO (tN (n + 1)) rfl (VRunO.nil (vinB.n (tn ?_))))))))
          refine ⟨(n + 1 : Nat), ?_, ?_, Wk.mk (fun k => k) ?_ ?_ ?_⟩
          · (refine ⟨?_, stepD fhc0 hI'.2 ?_ ?_⟩ <;> first | omega | (unfold slD; omega))
          · omega
          · exact (b2 (b2 (b2 (b2 (b2 (b2 (b2 bn)))))))
          · exact (b3 bn)
          · exact nd rfl
        refine VRun.exit (vthn.e (vthn.e (vinB.e (tn (sr (mO (tN n) rfl (aO (tN n) rfl (nt (rt (vi (n' := ((n : Nat) : Int)) rfl ?_))))))))))
        (refine rD fhc0 ?_ hI'.2 ?_ <;> first | omega | (unfold slD; omega))
      refine offs 9 5 true 49 (dz fhg49_5) rfl rfl rfl (fO (OF.pickF (VEv.tmpB rfl (dz fhg49_5)) (VEv.bool false)) (nt (cf rfl (VRun.exit (vthn.e (vthn.e (vinB.e (tn (sr (mO (tN n) rfl (aO (tN n) rfl ?_)))))))))))
      refine nt (rt (vi (n' := ((n : Nat) : Int)) rfl ?_))
      (refine rD fhc0 ?_ hI'.2 ?_ <;> first | omega | (unfold slD; omega))
    refine offs 7 8 true 34 (dz fhg34_3) rfl rfl rfl (gF (nz fhg31_2) rfl rfl (OF.pickF (VEv.tmpB rfl (dz fhg34_3)) (VEv.bool false)) (fO (OF.pickF (VEv.tmpB rfl (nz fhg31_2)) (tv (tB false) rfl)) (nt (cf rfl (sk (tn (sr (fO (OF.assign (VEv.int .i64 0)) (nt (sq (VRun.block ?_)))))))))))
    refine VRun.loop (A := Nat) (fun s_ => [(1, (tN cell)), (3, (T.op 0 0)), (6, (tN 0)), (7, (tI g.Cols)), (8, (tN (cell / g.Cols.toNat))), (9, (tI g.Rows)), (10, (tN s_))]) (fun s_ => mkO [(0, (Obj.cells (eGrid false g)))]) 1 (fun s_ => s_ ≤ 6 ∧ runI g cell down s_) (fun s_ => 6 - s_) (0 : Nat) ?_ (Wk.mk (fun k => k) ?_ ?_ ?_) ?_
    · exact ⟨Nat.zero_le _, runI_zero _ _ _⟩
    · exact (b2 (b2 (b2 (b2 (b2 (b2 (b2 bn)))))))
    · exact (b3 bn)
    · exact nd rfl
    rintro n (hI' : n ≤ 6 ∧ runI g cell down n)
    show VRun _ _ _ [(1, (tN cell)), (3, (T.op 0 0)), (6, (tN 0)), (7, (tI g.Cols)), (8, (tN (cell / g.Cols.toNat))), (9, (tI g.Rows)), (10, (tN n))] (mkO [(0, (Obj.cells (eGrid false g)))]) 1 _
    have hI1 := hI'.1
    have hN := mulN hI1 hB.1 hB.2
    have hC6 := hC4 n
    have hC7 := hC5 n
    refine sq (sr (mO (tN (cell / g.Cols.toNat)) rfl (mO (tN n) rfl (fO (B.add (n := (((cell / g.Cols.toNat + n) : Nat) : Int)) (tv (tN (cell / g.Cols.toNat)) rfl) (tv (tN n) rfl) (by (rw [wrap64 (by omega)]; omega))) (mO (tI g.Rows) rfl (fO (xls (tv (tN (cell / g.Cols.toNat + n)) rfl) (tv (tI g.Rows) rfl)) (mO (tB (decide ((((cell / g.Cols.toNat + n) : Nat) : Int) < g.Rows))) rfl ?_)))))))
    refine gw ((((cell / g.Cols.toNat + n) : Nat) : Int) < g.Rows) (fun fhg49_7 => ?_) fun fhg49_7 => ?_
    · refine glf (tS g.Cells) (dy fhg49_7) rfl rfl rfl rfl fa34_2 rfl rfl st9 ?_
      refine gF (dy fhg49_7) rfl rfl (OF.move (tv (tN cell) rfl)) (gF (dy fhg49_7) rfl rfl (OF.move (tv (tN n) rfl)) (gF (dy fhg49_7) rfl rfl (OF.move (tv (tI g.Cols) rfl)) (gF (dy fhg49_7) rfl rfl (B.mul (n := (((n : Nat) : Int) * g.Cols)) (tv (tN n) rfl) (tv (tI g.Cols) rfl) (by (refine mulWn ?_ ?_ ?_ <;> omega))) (gF (dy fhg49_7) rfl rfl (B.add (n := (((cell : Nat) : Int) + (((n : Nat) : Int) * g.Cols))) (tv (tN cell) rfl) (tv (tI (((n : Nat) : Int) * g.Cols)) rfl) (by (rw [wrap64 (by omega)]; done))) ?_))))
      have hb8 : (Int.toNat (((cell : Nat) : Int) + (((n : Nat) : Int) * g.Cols))) < g.Cells.size := (by omega)
      refine gF (dy fhg49_7) rfl rfl (B.index (n := (bAt g.Cells (Int.toNat (((cell : Nat) : Int) + (((n : Nat) : Int) * g.Cols))))) (i := (Int.toNat (((cell : Nat) : Int) + (((n : Nat) : Int) * g.Cols)))) (tv (tS g.Cells) rfl) (tv (tI (((cell : Nat) : Int) + (((n : Nat) : Int) * g.Cols))) rfl) (by omega) hb8 U9 (bAt_eq hb8)) (gF (dy fhg49_7) rfl rfl (xeq (tv (T.int .u8 (bAt g.Cells (Int.toNat (((cell : Nat) : Int) + (((n : Nat) : Int) * g.Cols))))) rfl) (VEv.int .u8 46)) (fO (OF.pickT (VEv.tmpB rfl (dy fhg49_7)) (tv (tB (decide (bAt g.Cells (Int.toNat (((cell : Nat) : Int) + (((n : Nat) : Int) * g.Cols))) = 46))) rfl)) (nt ?_)))
      refine cd (bAt g.Cells (Int.toNat (((cell : Nat) : Int) + (((n : Nat) : Int) * g.Cols))) = 46) rfl (fun fhc2 => ?_) fun fhc2 => ?_
      · refine sk ?_
        refine tn (VRun.block (VRun.region (mO (tN n) rfl (fO (xinc (tv (tN n) rfl) (VEv.int .i64 1) (by omega)) (aO (tN (n + 1)) rfl (VRunO.nil (vinB.n (tn ?_))))))))
        refine ⟨(n + 1 : Nat), ?_, ?_, Wk.mk (fun k => k) ?_ ?_ ?_⟩
        · (refine ⟨?_, stepD fhc0 hI'.2 ?_ ?_⟩ <;> first | omega | (unfold slD; omega))
        · omega
        · exact (b2 (b2 (b2 (b2 (b2 (b2 (b2 bn)))))))
        · exact (b3 bn)
        · exact nd rfl
      refine VRun.exit (vthn.e (vthn.e (vinB.e (tn (sr (mO (tN n) rfl (aO (tN n) rfl (nt (rt (vi (n' := ((n : Nat) : Int)) rfl ?_))))))))))
      (refine rD fhc0 ?_ hI'.2 ?_ <;> first | omega | (unfold slD; omega))
    refine offs 9 5 true 49 (dz fhg49_7) rfl rfl rfl (fO (OF.pickF (VEv.tmpB rfl (dz fhg49_7)) (VEv.bool false)) (nt (cf rfl (VRun.exit (vthn.e (vthn.e (vinB.e (tn (sr (mO (tN n) rfl (aO (tN n) rfl ?_)))))))))))
    refine nt (rt (vi (n' := ((n : Nat) : Int)) rfl ?_))
    (refine rD fhc0 ?_ hI'.2 ?_ <;> first | omega | (unfold slD; omega))
  have fhc0 : down = false := hc0
  refine sk (tn (sq (sr (lf (tS g.Cells) rfl fa34_2 rfl rfl st9 (mO (tN cell) rfl ?_)))))
  have hb9 : cell < g.Cells.size := (by omega)
  refine fO (xix (tv (tS g.Cells) rfl) (tv (tN cell) rfl) hb9 U9) (fO (xne (tv (T.int .u8 (bAt g.Cells cell)) rfl) (VEv.int .u8 46)) (mO (tB (!(decide (bAt g.Cells cell = 46)))) rfl ?_))
  refine gn (bAt g.Cells cell = 46) (fun fhg31_10 => ?_) fun fhg31_10 => ?_
  · refine offs 3 5 false 31 (ny fhg31_10) rfl rfl rfl ?_
    refine offu 7 8 true 34 rfl rfl rfl (oO rfl rfl (ny fhg31_10) (fO (OF.pickT (VEv.tmpB rfl (ny fhg31_10)) (VEv.bool true)) (nt (ct rfl (sr (fO (OF.assign (VEv.int .i64 0)) (nt (rt (tr (vi (n' := 0) rfl ?_))))))))))
    (refine zA fhc0 ?_; omega)
  refine gF (nz fhg31_10) rfl rfl (OF.move (tv (tN (cell % g.Cols.toNat)) rfl)) (gF (nz fhg31_10) rfl rfl (B.gtr (c := (decide (0 < cell % g.Cols.toNat))) (tv (tN (cell % g.Cols.toNat)) rfl) (VEv.int .i64 0) (by exact decN (by omega))) (gF (nz fhg31_10) rfl rfl (OF.move (tv (tB (decide (0 < cell % g.Cols.toNat))) rfl)) ?_))
  refine gw (0 < cell % g.Cols.toNat) (fun fhg34_11 => ?_) fun fhg34_11 => ?_
  · refine glf (tS g.Cells) (dy fhg34_11) rfl rfl rfl rfl fa34_2 rfl rfl st9 ?_
    refine gF (dy fhg34_11) rfl rfl (OF.move (tv (tN cell) rfl)) (gF (dy fhg34_11) rfl rfl (OF.move (tv (tN 1) rfl)) (gF (dy fhg34_11) rfl rfl (B.sub (n := (((cell : Nat) : Int) - 1)) (tv (tN cell) rfl) (tv (tN 1) rfl) (by (rw [wrap64 (by omega)]; omega))) ?_))
    have hb12 : (Int.toNat (((cell : Nat) : Int) - 1)) < g.Cells.size := (by omega)
    refine gF (dy fhg34_11) rfl rfl (B.index (n := (bAt g.Cells (Int.toNat (((cell : Nat) : Int) - 1)))) (i := (Int.toNat (((cell : Nat) : Int) - 1))) (tv (tS g.Cells) rfl) (tv (tI (((cell : Nat) : Int) - 1)) rfl) (by omega) hb12 U9 (bAt_eq hb12)) (gF (dy fhg34_11) rfl rfl (xeq (tv (T.int .u8 (bAt g.Cells (Int.toNat (((cell : Nat) : Int) - 1)))) rfl) (VEv.int .u8 46)) (gF (nz fhg31_10) rfl rfl (OF.pickT (VEv.tmpB rfl (dy fhg34_11)) (tv (tB (decide (bAt g.Cells (Int.toNat (((cell : Nat) : Int) - 1)) = 46))) rfl)) (fO (OF.pickF (VEv.tmpB rfl (nz fhg31_10)) (tv (tB (decide (bAt g.Cells (Int.toNat (((cell : Nat) : Int) - 1)) = 46))) rfl)) (nt ?_))))
    refine cd (bAt g.Cells (Int.toNat (((cell : Nat) : Int) - 1)) = 46) rfl (fun fhc1 => ?_) fun fhc1 => ?_
    · refine sr ?_
      refine fO (OF.assign (VEv.int .i64 0)) (nt (rt (tr (vi (n' := 0) rfl ?_))))
      (refine zA fhc0 ?_; omega)
    refine sk (tn (sr (fO (OF.assign (VEv.int .i64 0)) (nt (sq (VRun.block ?_))))))
    refine VRun.loop (A := Nat) (fun s_ => [(1, (tN cell)), (3, (T.op 0 0)), (6, (tN 0)), (7, (tN 1)), (8, (tN (cell % g.Cols.toNat))), (9, (tI g.Cols)), (10, (tN s_))]) (fun s_ => mkO [(0, (Obj.cells (eGrid false g)))]) 1 (fun s_ => s_ ≤ 6 ∧ runI g cell down s_) (fun s_ => 6 - s_) (0 : Nat) ?_ (Wk.mk (fun k => k) ?_ ?_ ?_) ?_
    · exact ⟨Nat.zero_le _, runI_zero _ _ _⟩
    · exact (b2 (b2 (b2 (b2 (b2 (b2 (b2 bn)))))))
    · exact (b3 bn)
    · exact nd rfl
    rintro n (hI' : n ≤ 6 ∧ runI g cell down n)
    show VRun _ _ _ [(1, (tN cell)), (3, (T.op 0 0)), (6, (tN 0)), (7, (tN 1)), (8, (tN (cell % g.Cols.toNat))), (9, (tI g.Cols)), (10, (tN n))] (mkO [(0, (Obj.cells (eGrid false g)))]) 1 _
    have hI1 := hI'.1
    have hN := mulN hI1 hB.1 hB.2
    have hC6 := hC4 n
    have hC7 := hC5 n
    refine sq (sr (mO (tN (cell % g.Cols.toNat)) rfl (mO (tN n) rfl (fO (B.add (n := (((cell % g.Cols.toNat + n) : Nat) : Int)) (tv (tN (cell % g.Cols.toNat)) rfl) (tv (tN n) rfl) (by (rw [wrap64 (by omega)]; omega))) (mO (tI g.Cols) rfl (fO (xls (tv (tN (cell % g.Cols.toNat + n)) rfl) (tv (tI g.Cols) rfl)) (mO (tB (decide ((((cell % g.Cols.toNat + n) : Nat) : Int) < g.Cols))) rfl ?_)))))))
    refine gw ((((cell % g.Cols.toNat + n) : Nat) : Int) < g.Cols) (fun fhg49_13 => ?_) fun fhg49_13 => ?_
    · refine glf (tS g.Cells) (dy fhg49_13) rfl rfl rfl rfl fa34_2 rfl rfl st9 ?_
      refine gF (dy fhg49_13) rfl rfl (OF.move (tv (tN cell) rfl)) (gF (dy fhg49_13) rfl rfl (OF.move (tv (tN n) rfl)) (gF (dy fhg49_13) rfl rfl (OF.move (tv (tN 1) rfl)) (gF (dy fhg49_13) rfl rfl (B.mul (n := (((n * 1) : Nat) : Int)) (tv (tN n) rfl) (tv (tN 1) rfl) (by (rw [wrap64 (by omega)]; omega))) (gF (dy fhg49_13) rfl rfl (B.add (n := (((cell + (n * 1)) : Nat) : Int)) (tv (tN cell) rfl) (tv (tN (n * 1)) rfl) (by (rw [wrap64 (by omega)]; omega))) ?_))))
      have hb14 : (cell + (n * 1)) < g.Cells.size := (by omega)
      refine gF (dy fhg49_13) rfl rfl (xix (tv (tS g.Cells) rfl) (tv (tN (cell + (n * 1))) rfl) hb14 U9) (gF (dy fhg49_13) rfl rfl (xeq (tv (T.int .u8 (bAt g.Cells (cell + (n * 1)))) rfl) (VEv.int .u8 46)) (fO (OF.pickT (VEv.tmpB rfl (dy fhg49_13)) (tv (tB (decide (bAt g.Cells (cell + (n * 1)) = 46))) rfl)) (nt ?_)))
      refine cd (bAt g.Cells (cell + (n * 1)) = 46) rfl (fun fhc2 => ?_) fun fhc2 => ?_
      · refine sk ?_
        refine tn (VRun.block (VRun.region (mO (tN n) rfl (fO (xinc (tv (tN n) rfl) (VEv.int .i64 1) (by omega)) (aO (tN (n + 1)) rfl (VRunO.nil (vinB.n (tn ?_))))))))
        refine ⟨(n + 1 : Nat), ?_, ?_, Wk.mk (fun k => k) ?_ ?_ ?_⟩
        · (refine ⟨?_, stepA fhc0 hI'.2 ?_ ?_⟩ <;> first | omega | (unfold slA; omega))
        · omega
        · exact (b2 (b2 (b2 (b2 (b2 (b2 (b2 bn)))))))
        · exact (b3 bn)
        · exact nd rfl
      refine VRun.exit (vthn.e (vthn.e (vinB.e (tn (sr (mO (tN n) rfl (aO (tN n) rfl (nt (rt (vi (n' := ((n : Nat) : Int)) rfl ?_))))))))))
      (refine rA fhc0 ?_ hI'.2 ?_ <;> first | omega | (unfold slA; omega))
    refine offs 9 5 true 49 (dz fhg49_13) rfl rfl rfl (fO (OF.pickF (VEv.tmpB rfl (dz fhg49_13)) (VEv.bool false)) (nt (cf rfl (VRun.exit (vthn.e (vthn.e (vinB.e (tn (sr (mO (tN n) rfl (aO (tN n) rfl ?_)))))))))))
    refine nt (rt (vi (n' := ((n : Nat) : Int)) rfl ?_))
    (refine rA fhc0 ?_ hI'.2 ?_ <;> first | omega | (unfold slA; omega))
  refine offs 7 8 true 34 (dz fhg34_11) rfl rfl rfl (gF (nz fhg31_10) rfl rfl (OF.pickF (VEv.tmpB rfl (dz fhg34_11)) (VEv.bool false)) (fO (OF.pickF (VEv.tmpB rfl (nz fhg31_10)) (tv (tB false) rfl)) (nt (cf rfl (sk (tn (sr (fO (OF.assign (VEv.int .i64 0)) (nt (sq (VRun.block ?_)))))))))))
  refine VRun.loop (A := Nat) (fun s_ => [(1, (tN cell)), (3, (T.op 0 0)), (6, (tN 0)), (7, (tN 1)), (8, (tN (cell % g.Cols.toNat))), (9, (tI g.Cols)), (10, (tN s_))]) (fun s_ => mkO [(0, (Obj.cells (eGrid false g)))]) 1 (fun s_ => s_ ≤ 6 ∧ runI g cell down s_) (fun s_ => 6 - s_) (0 : Nat) ?_ (Wk.mk (fun k => k) ?_ ?_ ?_) ?_
  · exact ⟨Nat.zero_le _, runI_zero _ _ _⟩
  · exact (b2 (b2 (b2 (b2 (b2 (b2 (b2 bn)))))))
  · exact (b3 bn)
  · exact nd rfl
  rintro n (hI' : n ≤ 6 ∧ runI g cell down n)
  show VRun _ _ _ [(1, (tN cell)), (3, (T.op 0 0)), (6, (tN 0)), (7, (tN 1)), (8, (tN (cell % g.Cols.toNat))), (9, (tI g.Cols)), (10, (tN n))] (mkO [(0, (Obj.cells (eGrid false g)))]) 1 _
  have hI1 := hI'.1
  have hN := mulN hI1 hB.1 hB.2
  have hC6 := hC4 n
  have hC7 := hC5 n
  refine sq (sr (mO (tN (cell % g.Cols.toNat)) rfl (mO (tN n) rfl (fO (B.add (n := (((cell % g.Cols.toNat + n) : Nat) : Int)) (tv (tN (cell % g.Cols.toNat)) rfl) (tv (tN n) rfl) (by (rw [wrap64 (by omega)]; omega))) (mO (tI g.Cols) rfl (fO (xls (tv (tN (cell % g.Cols.toNat + n)) rfl) (tv (tI g.Cols) rfl)) (mO (tB (decide ((((cell % g.Cols.toNat + n) : Nat) : Int) < g.Cols))) rfl ?_)))))))
  refine gw ((((cell % g.Cols.toNat + n) : Nat) : Int) < g.Cols) (fun fhg49_15 => ?_) fun fhg49_15 => ?_
  · refine glf (tS g.Cells) (dy fhg49_15) rfl rfl rfl rfl fa34_2 rfl rfl st9 ?_
    refine gF (dy fhg49_15) rfl rfl (OF.move (tv (tN cell) rfl)) (gF (dy fhg49_15) rfl rfl (OF.move (tv (tN n) rfl)) (gF (dy fhg49_15) rfl rfl (OF.move (tv (tN 1) rfl)) (gF (dy fhg49_15) rfl rfl (B.mul (n := (((n * 1) : Nat) : Int)) (tv (tN n) rfl) (tv (tN 1) rfl) (by (rw [wrap64 (by omega)]; omega))) (gF (dy fhg49_15) rfl rfl (B.add (n := (((cell + (n * 1)) : Nat) : Int)) (tv (tN cell) rfl) (tv (tN (n * 1)) rfl) (by (rw [wrap64 (by omega)]; omega))) ?_))))
    have hb16 : (cell + (n * 1)) < g.Cells.size := (by omega)
    refine gF (dy fhg49_15) rfl rfl (xix (tv (tS g.Cells) rfl) (tv (tN (cell + (n * 1))) rfl) hb16 U9) (gF (dy fhg49_15) rfl rfl (xeq (tv (T.int .u8 (bAt g.Cells (cell + (n * 1)))) rfl) (VEv.int .u8 46)) (fO (OF.pickT (VEv.tmpB rfl (dy fhg49_15)) (tv (tB (decide (bAt g.Cells (cell + (n * 1)) = 46))) rfl)) (nt ?_)))
    refine cd (bAt g.Cells (cell + (n * 1)) = 46) rfl (fun fhc2 => ?_) fun fhc2 => ?_
    · refine sk ?_
      refine tn (VRun.block (VRun.region (mO (tN n) rfl (fO (xinc (tv (tN n) rfl) (VEv.int .i64 1) (by omega)) (aO (tN (n + 1)) rfl (VRunO.nil (vinB.n (tn ?_))))))))
      refine ⟨(n + 1 : Nat), ?_, ?_, Wk.mk (fun k => k) ?_ ?_ ?_⟩
      · (refine ⟨?_, stepA fhc0 hI'.2 ?_ ?_⟩ <;> first | omega | (unfold slA; omega))
      · omega
      · exact (b2 (b2 (b2 (b2 (b2 (b2 (b2 bn)))))))
      · exact (b3 bn)
      · exact nd rfl
    refine VRun.exit (vthn.e (vthn.e (vinB.e (tn (sr (mO (tN n) rfl (aO (tN n) rfl (nt (rt (vi (n' := ((n : Nat) : Int)) rfl ?_))))))))))
    (refine rA fhc0 ?_ hI'.2 ?_ <;> first | omega | (unfold slA; omega))
  refine offs 9 5 true 49 (dz fhg49_15) rfl rfl rfl (fO (OF.pickF (VEv.tmpB rfl (dz fhg49_15)) (VEv.bool false)) (nt (cf rfl (VRun.exit (vthn.e (vthn.e (vinB.e (tn (sr (mO (tN n) rfl (aO (tN n) rfl ?_)))))))))))
  refine nt (rt (vi (n' := ((n : Nat) : Int)) rfl ?_))
  (refine rA fhc0 ?_ hI'.2 ?_ <;> first | omega | (unfold slA; omega))
end Go.Proofs.YtcccmceoplcciaaGreat.AE
namespace Go.Proofs.YtcccmceoplcciaaGreat.AE
open Go Go.RowKit
set_option linter.unusedVariables false
set_option linter.unusedSimpArgs false
set_option maxRecDepth 20000
set_option maxHeartbeats 2000000
noncomputable section
def slotStep (g : D.Grid) (st : List D.Slot × Nat) (i : Nat) : List D.Slot × Nat :=
  let k := if 2 ≤ fromG g i false ∨ 2 ≤ fromG g i true then st.2 + 1 else st.2
  ((st.1 ++ (if 2 ≤ fromG g i false then [D.Slot.mk ((k : Nat) : Int) false ((i : Nat) : Int) ((fromG g i false : Nat) : Int)] else [])) ++ (if 2 ≤ fromG g i true then [D.Slot.mk ((k : Nat) : Int) true ((i : Nat) : Int) ((fromG g i true : Nat) : Int)] else []), k)
def slotsN (g : D.Grid) : Nat → List D.Slot × Nat
  | 0 => ([], 0)
  | i + 1 => slotStep g (slotsN g i) i
def slotsG (g : D.Grid) : List D.Slot := if gridOk g then (slotsN g g.Cells.size).1 else []
theorem slotsN1 (g : D.Grid) (i : Nat) : (slotsN g (i + 1)).1 = ((slotsN g i).1 ++ (if 2 ≤ fromG g i false then [D.Slot.mk (((slotsN g (i + 1)).2 : Nat) : Int) false ((i : Nat) : Int) ((fromG g i false : Nat) : Int)] else [])) ++ (if 2 ≤ fromG g i true then [D.Slot.mk (((slotsN g (i + 1)).2 : Nat) : Int) true ((i : Nat) : Int) ((fromG g i true : Nat) : Int)] else []) := rfl
theorem slotsN2 (g : D.Grid) (i : Nat) : (slotsN g (i + 1)).2 = if 2 ≤ fromG g i false ∨ 2 ≤ fromG g i true then (slotsN g i).2 + 1 else (slotsN g i).2 := rfl
theorem slotsN_bd (g : D.Grid) : ∀ i, (slotsN g i).2 ≤ i ∧ (slotsN g i).1.length ≤ 2 * i
  | 0 => ⟨Nat.le_refl _, Nat.le_refl _⟩
  | i + 1 => by
    have h := slotsN_bd g i
    rw [slotsN1, slotsN2]
    refine ⟨by split <;> omega, ?_⟩
    rw [List.length_append, List.length_append]
    have e : ∀ (c : Prop) [Decidable c] (x : D.Slot), (if c then [x] else []).length ≤ 1 := fun c _ x => by split <;> simp
    refine Nat.le_trans (Nat.add_le_add (Nat.add_le_add h.2 (e _ _)) (e _ _)) ?_
    omega
theorem slots_end {g : D.Grid} {i : Nat} (h1 : i ≤ g.Cells.size) (h2 : gridOk g ∨ i = 0) (h3 : ¬ i < g.Cells.size ∨ ¬ gridOk g) : (slotsN g i).1 = slotsG g := by
  unfold slotsG
  split
  · rename_i hh
    rcases h3 with h3 | h3
    · rw [show i = g.Cells.size by omega]
    · contradiction
  · rename_i hh
    rw [h2.resolve_left hh]
    rfl
theorem slotsG_no {g : D.Grid} (h : ¬ gridOk g) : slotsG g = [] := if_neg h
theorem slotsG_len (g : D.Grid) : (slotsG g).length ≤ 72 := by
  unfold slotsG
  split
  · rename_i hh
    have := hh.size
    have := (slotsN_bd g g.Cells.size).2
    omega
  · simp
end
theorem W_spec_SlotsOf (n : Nat) (g : D.Grid) (hc : g.Cells.size ≤ maxLen) : Pure (acall Tryz.prog (n + 3)) 103 [(T.agg (eGrid false g))] (T.sl true 4 ((slotsG g).map (eSlot true))) := by
  refine Pure.intro (rs := [ResultVar.tmp 2]) Tryz.func103 rfl rfl rfl (E0 := [(0, (T.agg (eGrid false g)))]) rfl ?_
  obtain ⟨hlim, hmx, hmax⟩ := lims
  refine sr (kO (B.box (ts := (eGrid false g)) (tv (T.agg (eGrid false g)) rfl) nofun rfl) (fO (OF.assign VEv.nils) (nt (sr (kO (OM.slice0 U123 zo138 (by kernel_rfl) rfl (by rw [sz138]; decide) sz138) (aO (T.os 4 1 0 0) rfl (nt (sr (fO (OF.assign (VEv.int .i64 0)) (nt (sq ?_)))))))))))
  refine sr (fO (OF.assign (VEv.int .i64 0)) (nt (VRun.block ?_)))
  have he1 : [] = (((slotsN g 0).1).map (eSlot true)) := by rfl
  refine VRun.loop (A := Nat) (fun s_ => [(1, (T.op 0 0)), (2, T.nils), (3, (T.os 4 1 0 ((((slotsN g s_).1).map (eSlot true)).length))), (4, (tN ((slotsN g s_).2))), (5, (tN s_))]) (fun s_ => mkO [(0, (Obj.cells (eGrid false g))), (1, (Obj.rows 4 (((slotsN g s_).1).map (eSlot true))))]) 2 (fun s_ => s_ ≤ g.Cells.size ∧ (gridOk g ∨ s_ = 0)) (fun s_ => g.Cells.size - s_) (0 : Nat) ?_ (Wk.mk (fun k => k) ?_ ?_ ?_) ?_
  · exact ⟨Nat.zero_le _, .inr rfl⟩
  · exact (b2 (b2 (bc ⟨(congrArg (fun n_ => T.os 4 1 0 n_) (show 0 = (((slotsN g 0).1).map (eSlot true)).length from (by rfl))), rfl⟩ (bc ⟨(congrArg (T.int .i64) (show 0 = (((slotsN g 0).2 : Nat) : Int) from (by rfl))), rfl⟩ (b2 bn)))))
  · exact (b3 (bc ⟨(congrArg (fun l_ => some (Obj.rows 4 l_)) he1), (lb rfl), rfl⟩ bn))
  · exact nd rfl
  rintro i (hI' : i ≤ g.Cells.size ∧ (gridOk g ∨ i = 0))
  show VRun _ _ _ [(1, (T.op 0 0)), (2, T.nils), (3, (T.os 4 1 0 ((((slotsN g i).1).map (eSlot true)).length))), (4, (tN ((slotsN g i).2))), (5, (tN i))] (mkO [(0, (Obj.cells (eGrid false g))), (1, (Obj.rows 4 (((slotsN g i).1).map (eSlot true))))]) 2 _
  have hI1 := hI'.1
  have hbd := slotsN_bd g i
  refine sq (sr (mO (tN i) rfl (lf (tS g.Cells) rfl fa34_2 rfl rfl st9 (lO (B.lenS (tv (tS g.Cells) rfl) U9) (fO (xls' (tv (tN i) rfl) (tv (tN g.Cells.size) rfl)) (mO (tB (decide (i < g.Cells.size))) rfl ?_))))))
  refine gw (i < g.Cells.size) (fun fhg14_2 => ?_) fun fhg14_2 => ?_
  · refine gL (dy fhg14_2) rfl rfl (OL.loadOn (us := (eGrid false g)) (tv (T.op 0 0) rfl) rfl st34 sz34 (lb rfl) rfl) ?_
    refine VRunO.chain (VWant.on rfl rfl (dy fhg14_2)) (cS (vc (tv (T.agg (eGrid false g)) rfl) vn) (LendL.cons (lg okeGrid) ln) (W_spec_IsGrid (n + 0) g (by assumption)) rfl rfl) (fO (OF.pickT (VEv.tmpB rfl (dy fhg14_2)) (tv (tB (decide (gridOk g))) rfl)) (nt ?_))
    refine cd (gridOk g) rfl (fun fhc0 => ?_) fun fhc0 => ?_
    · have hgo : gridOk g := by assumption
      have hsz := hgo.size
      refine sk (tn (sq (VRun.block (sr (lO (OL.loadOn (us := (eGrid false g)) (tv (T.op 0 0) rfl) rfl st34 sz34 (lb rfl) rfl) (mO (tN i) rfl (cO (cS (vc (tv (T.agg (eGrid false g)) rfl) (vc (tv (tN i) rfl) (vc (VEv.bool false) vn))) (LendL.cons (lg okeGrid) (lp rfl (lp rfl ln))) (W_spec_l8From (n + 1) g i false (by assumption) (by assumption)) rfl rfl) (aO (tN (fromG g i false)) rfl (nt (sr (lO (OL.loadOn (us := (eGrid false g)) (tv (T.op 0 0) rfl) rfl st34 sz34 (lb rfl) rfl) ?_)))))))))))
      refine mO (tN i) rfl (cO (cS (vc (tv (T.agg (eGrid false g)) rfl) (vc (tv (tN i) rfl) (vc (VEv.bool true) vn))) (LendL.cons (lg okeGrid) (lp rfl (lp rfl ln))) (W_spec_l8From (n + 1) g i true (by assumption) (by assumption)) rfl rfl) (aO (tN (fromG g i true)) rfl (nt (sq (sr (mO (tN (fromG g i false)) rfl (fO (B.geq (c := (decide (2 ≤ fromG g i false))) (tv (tN (fromG g i false)) rfl) (VEv.int .i64 2) (by exact decN (by omega))) (mO (tB (decide (2 ≤ fromG g i false))) rfl ?_))))))))
      refine gw (2 ≤ fromG g i false) (fun fhg28_3 => ?_) fun fhg28_3 => ?_
      · refine offs 2 2 false 28 (dy fhg28_3) rfl rfl rfl ?_
        refine fO (OF.pickT (VEv.tmpB rfl (dy fhg28_3)) (VEv.bool true)) (nt (ct rfl (VRun.region (mO (tN ((slotsN g i).2)) rfl (fO (xinc (tv (tN ((slotsN g i).2)) rfl) (VEv.int .i64 1) (by omega)) (aO (tN ((slotsN g i).2 + 1)) rfl (VRunO.nil (tn (sq (sr (mO (tN (fromG g i false)) rfl ?_)))))))))))
        refine fO (B.geq (c := (decide (2 ≤ fromG g i false))) (tv (tN (fromG g i false)) rfl) (VEv.int .i64 2) (by exact decN (by omega))) (nt (ck (dy fhg28_3) rfl (VRun.region (mO (T.os 4 1 0 ((((slotsN g i).1).map (eSlot true)).length)) rfl (mO (tN ((slotsN g i).2 + 1)) rfl (mO (tN i) rfl (mO (tN (fromG g i false)) rfl (fO (OF.build (l := [(0, (tN ((slotsN g i).2 + 1))), (2, (tN i)), (3, (tN (fromG g i false)))]) (zs := [(tN 0), (tB false), (tN 0), (tN 0)]) (out := [(tN ((slotsN g i).2 + 1)), (tB false), (tN i), (tN (fromG g i false))]) (VEvp.cons (i := 0) (tv (tN ((slotsN g i).2 + 1)) rfl) (VEvp.cons (i := 2) (tv (tN i) rfl) (VEvp.cons (i := 3) (tv (tN (fromG g i false)) rfl) VEvp.nil))) (bc nofun (bc nofun (bc nofun bn))) Tryz.underlying138 zo138 (fun _ => RL.cons (.int _ _) (RL.cons (.bool _) (RL.cons (.int _ _) (RL.cons (.int _ _) (RL.nil _))))) (by kernel_rfl) (by kernel_rfl)) (kO (OM.buildSlice (l := [(T.agg [(tN ((slotsN g i).2 + 1)), (tB false), (tN i), (tN (fromG g i false))])]) (VEvp.cons (tv (T.agg [(tN ((slotsN g i).2 + 1)), (tB false), (tN i), (tN (fromG g i false))]) rfl) VEvp.nil) rfl (by decide) (bc (nofun) bn) (bc ((bc (rfl) (bc (rfl) (bc (rfl) (bc (rfl) bn))))) bn) (bc (rfl) bn) U123 zo138 (by kernel_rfl) rfl (by rw [sz138]; decide) sz138 (Nat.le_of_ble_eq_true rfl)) (cO (B.append (rows := (((slotsN g i).1).map (eSlot true))) (rows2 := [[(tN ((slotsN g i).2 + 1)), (tB false), (tN i), (tN (fromG g i false))]]) (rows3 := (((slotsN g i).1 ++ [(D.Slot.mk ((((slotsN g i).2 + 1) : Nat) : Int) false ((i : Nat) : Int) ((fromG g i false : Nat) : Int))]).map (eSlot true))) (VDst.own (tv (T.os 4 1 0 ((((slotsN g i).1).map (eSlot true)).length)) rfl) rfl rfl) (VSrc.own (tv (T.os 4 2 0 1) rfl) rfl rfl U123 (bc (bc rfl (bc rfl (bc rfl (bc rfl bn)))) bn)) (by decide) U123 sz138 (by decide) zo138 rfl (of_decide_eq_true (by kernel_rfl)) (by (simp only [List.length_map, List.length_append, List.length_cons, List.length_nil, List.length_replicate, List.length_set, List.length_drop, List.length_take, lim] at *; omega)) ((List.map_append (f := eSlot true) (l₁ := (slotsN g i).1) (l₂ := [(D.Slot.mk ((((slotsN g i).2 + 1) : Nat) : Int) false ((i : Nat) : Int) ((fromG g i false : Nat) : Int))])).symm)) (aO (T.os 4 3 0 ((((slotsN g i).1 ++ [(D.Slot.mk ((((slotsN g i).2 + 1) : Nat) : Int) false ((i : Nat) : Int) ((fromG g i false : Nat) : Int))]).map (eSlot true)).length)) rfl ?_)))))))))))
        refine VRunO.nil (tn (sr (mO (tN (fromG g i true)) rfl (fO (B.geq (c := (decide (2 ≤ fromG g i true))) (tv (tN (fromG g i true)) rfl) (VEv.int .i64 2) (by exact decN (by omega))) (nt ?_)))))
        refine cd (2 ≤ fromG g i true) rfl (fun fhc3 => ?_) fun fhc3 => ?_
        · refine VRun.region ?_
          refine mO (T.os 4 3 0 ((((slotsN g i).1 ++ [(D.Slot.mk ((((slotsN g i).2 + 1) : Nat) : Int) false ((i : Nat) : Int) ((fromG g i false : Nat) : Int))]).map (eSlot true)).length)) rfl (mO (tN ((slotsN g i).2 + 1)) rfl (mO (tN i) rfl (mO (tN (fromG g i true)) rfl (fO (OF.build (l := [(0, (tN ((slotsN g i).2 + 1))), (1, (tB true)), (2, (tN i)), (3, (tN (fromG g i true)))]) (zs := [(tN 0), (tB false), (tN 0), (tN 0)]) (out := [(tN ((slotsN g i).2 + 1)), (tB true), (tN i), (tN (fromG g i true))]) (VEvp.cons (i := 0) (tv (tN ((slotsN g i).2 + 1)) rfl) (VEvp.cons (i := 1) (VEv.bool true) (VEvp.cons (i := 2) (tv (tN i) rfl) (VEvp.cons (i := 3) (tv (tN (fromG g i true)) rfl) VEvp.nil)))) (bc nofun (bc nofun (bc nofun (bc nofun bn)))) Tryz.underlying138 zo138 (fun _ => RL.cons (.int _ _) (RL.cons (.bool _) (RL.cons (.int _ _) (RL.cons (.int _ _) (RL.nil _))))) (by kernel_rfl) (by kernel_rfl)) (kO (OM.buildSlice (l := [(T.agg [(tN ((slotsN g i).2 + 1)), (tB true), (tN i), (tN (fromG g i true))])]) (VEvp.cons (tv (T.agg [(tN ((slotsN g i).2 + 1)), (tB true), (tN i), (tN (fromG g i true))]) rfl) VEvp.nil) rfl (by decide) (bc (nofun) bn) (bc ((bc (rfl) (bc (rfl) (bc (rfl) (bc (rfl) bn))))) bn) (bc (rfl) bn) U123 zo138 (by kernel_rfl) rfl (by rw [sz138]; decide) sz138 (Nat.le_of_ble_eq_true rfl)) (cO (B.append (rows := (((slotsN g i).1 ++ [(D.Slot.mk ((((slotsN g i).2 + 1) : Nat) : Int) false ((i : Nat) : Int) ((fromG g i false : Nat) : Int))]).map (eSlot true))) (rows2 := [[(tN ((slotsN g i).2 + 1)), (tB true), (tN i), (tN (fromG g i true))]]) (rows3 := ((((slotsN g i).1 ++ [(D.Slot.mk ((((slotsN g i).2 + 1) : Nat) : Int) false ((i : Nat) : Int) ((fromG g i false : Nat) : Int))]) ++ [(D.Slot.mk ((((slotsN g i).2 + 1) : Nat) : Int) true ((i : Nat) : Int) ((fromG g i true : Nat) : Int))]).map (eSlot true))) (VDst.own (tv (T.os 4 3 0 ((((slotsN g i).1 ++ [(D.Slot.mk ((((slotsN g i).2 + 1) : Nat) : Int) false ((i : Nat) : Int) ((fromG g i false : Nat) : Int))]).map (eSlot true)).length)) rfl) rfl rfl) (VSrc.own (tv (T.os 4 4 0 1) rfl) rfl rfl U123 (bc (bc rfl (bc rfl (bc rfl (bc rfl bn)))) bn)) (by decide) U123 sz138 (by decide) zo138 rfl (of_decide_eq_true (by kernel_rfl)) (by (simp only [List.length_map, List.length_append, List.length_cons, List.length_nil, List.length_replicate, List.length_set, List.length_drop, List.length_take, lim] at *; omega)) ((List.map_append (f := eSlot true) (l₁ := ((slotsN g i).1 ++ [(D.Slot.mk ((((slotsN g i).2 + 1) : Nat) : Int) false ((i : Nat) : Int) ((fromG g i false : Nat) : Int))])) (l₂ := [(D.Slot.mk ((((slotsN g i).2 + 1) : Nat) : Int) true ((i : Nat) : Int) ((fromG g i true : Nat) : Int))])).symm)) (aO (T.os 4 5 0 (((((slotsN g i).1 ++ [(D.Slot.mk ((((slotsN g i).2 + 1) : Nat) : Int) false ((i : Nat) : Int) ((fromG g i false : Nat) : Int))]) ++ [(D.Slot.mk ((((slotsN g i).2 + 1) : Nat) : Int) true ((i : Nat) : Int) ((fromG g i true : Nat) : Int))]).map (eSlot true)).length)) rfl (VRunO.nil (vinB.n (tn (VRun.region ?_)))))))))))
          refine mO (tN i) rfl (fO (xinc (tv (tN i) rfl) (VEv.int .i64 1) (by omega)) (aO (tN (i + 1)) rfl (VRunO.nil (tn ?_))))
          have hgo : gridOk g := by assumption
          have he4 : (((slotsN g i).1 ++ [(D.Slot.mk ((((slotsN g i).2 + 1) : Nat) : Int) false ((i : Nat) : Int) ((fromG g i false : Nat) : Int))]) ++ [(D.Slot.mk ((((slotsN g i).2 + 1) : Nat) : Int) true ((i : Nat) : Int) ((fromG g i true : Nat) : Int))]) = (slotsN g (i + 1)).1 := by (rw [slotsN1, slotsN2]; simp [*]; done)
          refine ⟨(i + 1 : Nat), ?_, ?_, Wk.mk (fun k => if k = 1 then 5 else  k) ?_ ?_ ?_⟩
          · exact ⟨by omega, .inl hgo⟩
          · omega
          · exact (b2 (b2 (bc ⟨(congrArg (fun l_ => T.os 4 5 0 (List.map (eSlot true) l_).length) he4), rfl⟩ (bc ⟨(congrArg (T.int .i64) (show ((((slotsN g i).2 + 1) : Nat) : Int) = (((slotsN g (i + 1)).2 : Nat) : Int) from (by (rw [slotsN2]; simp [*]; done)))), rfl⟩ (b2 bn)))))
          · exact (b3 (bc ⟨(congrArg (fun l_ => some (Obj.rows 4 (List.map (eSlot true) l_))) he4), (lb rfl), rfl⟩ bn))
          · exact nd rfl
        refine sk (vinB.n (tn (VRun.region (mO (tN i) rfl (fO (xinc (tv (tN i) rfl) (VEv.int .i64 1) (by omega)) (aO (tN (i + 1)) rfl (VRunO.nil (tn ?_))))))))
        have hgo : gridOk g := by assumption
        have he5 : ((slotsN g i).1 ++ [(D.Slot.mk ((((slotsN g i).2 + 1) : Nat) : Int) false ((i : Nat) : Int) ((fromG g i false : Nat) : Int))]) = (slotsN g (i + 1)).1 := by (rw [slotsN1, slotsN2]; simp [*]; done)
        refine ⟨(i + 1 : Nat), ?_, ?_, Wk.mk (fun k => if k = 1 then 3 else  k) ?_ ?_ ?_⟩
        · exact ⟨by omega, .inl hgo⟩
        · omega
        · exact (b2 (b2 (bc ⟨(congrArg (fun l_ => T.os 4 3 0 (List.map (eSlot true) l_).length) he5), rfl⟩ (bc ⟨(congrArg (T.int .i64) (show ((((slotsN g i).2 + 1) : Nat) : Int) = (((slotsN g (i + 1)).2 : Nat) : Int) from (by (rw [slotsN2]; simp [*]; done)))), rfl⟩ (b2 bn)))))
        · exact (b3 (bc ⟨(congrArg (fun l_ => some (Obj.rows 4 (List.map (eSlot true) l_))) he5), (lb rfl), rfl⟩ bn))
        · exact nd rfl
      refine gF (dz fhg28_3) rfl rfl (OF.move (tv (tN (fromG g i true)) rfl)) (gF (dz fhg28_3) rfl rfl (B.geq (c := (decide (2 ≤ fromG g i true))) (tv (tN (fromG g i true)) rfl) (VEv.int .i64 2) (by exact decN (by omega))) (fO (OF.pickF (VEv.tmpB rfl (dz fhg28_3)) (tv (tB (decide (2 ≤ fromG g i true))) rfl)) (nt ?_)))
      refine cd (2 ≤ fromG g i true) rfl (fun fhc1 => ?_) fun fhc1 => ?_
      · refine VRun.region ?_
        refine mO (tN ((slotsN g i).2)) rfl (fO (xinc (tv (tN ((slotsN g i).2)) rfl) (VEv.int .i64 1) (by omega)) (aO (tN ((slotsN g i).2 + 1)) rfl (VRunO.nil (tn (sq (sr (mO (tN (fromG g i false)) rfl (fO (B.geq (c := (decide (2 ≤ fromG g i false))) (tv (tN (fromG g i false)) rfl) (VEv.int .i64 2) (by exact decN (by omega))) (nt (cg (dz fhg28_3) rfl (sk ?_)))))))))))
        refine tn (sr (mO (tN (fromG g i true)) rfl (fO (B.geq (c := (decide (2 ≤ fromG g i true))) (tv (tN (fromG g i true)) rfl) (VEv.int .i64 2) (by exact decN (by omega))) (nt (ck (dy fhc1) rfl (VRun.region (mO (T.os 4 1 0 ((((slotsN g i).1).map (eSlot true)).length)) rfl (mO (tN ((slotsN g i).2 + 1)) rfl (mO (tN i) rfl (mO (tN (fromG g i true)) rfl (fO (OF.build (l := [(0, (tN ((slotsN g i).2 + 1))), (1, (tB true)), (2, (tN i)), (3, (tN (fromG g i true)))]) (zs := [(tN 0), (tB false), (tN 0), (tN 0)]) (out := [(tN ((slotsN g i).2 + 1)), (tB true), (tN i), (tN (fromG g i true))]) (VEvp.cons (i := 0) (tv (tN ((slotsN g i).2 + 1)) rfl) (VEvp.cons (i := 1) (VEv.bool true) (VEvp.cons (i := 2) (tv (tN i) rfl) (VEvp.cons (i := 3) (tv (tN (fromG g i true)) rfl) VEvp.nil)))) (bc nofun (bc nofun (bc nofun (bc nofun bn)))) Tryz.underlying138 zo138 (fun _ => RL.cons (.int _ _) (RL.cons (.bool _) (RL.cons (.int _ _) (RL.cons (.int _ _) (RL.nil _))))) (by kernel_rfl) (by kernel_rfl)) ?_)))))))))))
        refine kO (OM.buildSlice (l := [(T.agg [(tN ((slotsN g i).2 + 1)), (tB true), (tN i), (tN (fromG g i true))])]) (VEvp.cons (tv (T.agg [(tN ((slotsN g i).2 + 1)), (tB true), (tN i), (tN (fromG g i true))]) rfl) VEvp.nil) rfl (by decide) (bc (nofun) bn) (bc ((bc (rfl) (bc (rfl) (bc (rfl) (bc (rfl) bn))))) bn) (bc (rfl) bn) U123 zo138 (by kernel_rfl) rfl (by rw [sz138]; decide) sz138 (Nat.le_of_ble_eq_true rfl)) (cO (B.append (rows := (((slotsN g i).1).map (eSlot true))) (rows2 := [[(tN ((slotsN g i).2 + 1)), (tB true), (tN i), (tN (fromG g i true))]]) (rows3 := (((slotsN g i).1 ++ [(D.Slot.mk ((((slotsN g i).2 + 1) : Nat) : Int) true ((i : Nat) : Int) ((fromG g i true : Nat) : Int))]).map (eSlot true))) (VDst.own (tv (T.os 4 1 0 ((((slotsN g i).1).map (eSlot true)).length)) rfl) rfl rfl) (VSrc.own (tv (T.os 4 2 0 1) rfl) rfl rfl U123 (bc (bc rfl (bc rfl (bc rfl (bc rfl bn)))) bn)) (by decide) U123 sz138 (by decide) zo138 rfl (of_decide_eq_true (by kernel_rfl)) (by (simp only [List.length_map, List.length_append, List.length_cons, List.length_nil, List.length_replicate, List.length_set, List.length_drop, List.length_take, lim] at *; omega)) ((List.map_append (f := eSlot true) (l₁ := (slotsN g i).1) (l₂ := [(D.Slot.mk ((((slotsN g i).2 + 1) : Nat) : Int) true ((i : Nat) : Int) ((fromG g i true : Nat) : Int))])).symm)) (aO (T.os 4 3 0 ((((slotsN g i).1 ++ [(D.Slot.mk ((((slotsN g i).2 + 1) : Nat) : Int) true ((i : Nat) : Int) ((fromG g i true : Nat) : Int))]).map (eSlot true)).length)) rfl (VRunO.nil (vinB.n (tn (VRun.region (mO (tN i) rfl (fO (xinc (tv (tN i) rfl) (VEv.int .i64 1) (by omega)) (aO (tN (i + 1)) rfl (VRunO.nil (tn ?_)))))))))))
        have hgo : gridOk g := by assumption
        have he6 : ((slotsN g i).1 ++ [(D.Slot.mk ((((slotsN g i).2 + 1) : Nat) : Int) true ((i : Nat) : Int) ((fromG g i true : Nat) : Int))]) = (slotsN g (i + 1)).1 := by (rw [slotsN1, slotsN2]; simp [*]; done)
        refine ⟨(i + 1 : Nat), ?_, ?_, Wk.mk (fun k => if k = 1 then 3 else  k) ?_ ?_ ?_⟩
        · exact ⟨by omega, .inl hgo⟩
        · omega
        · exact (b2 (b2 (bc ⟨(congrArg (fun l_ => T.os 4 3 0 (List.map (eSlot true) l_).length) he6), rfl⟩ (bc ⟨(congrArg (T.int .i64) (show ((((slotsN g i).2 + 1) : Nat) : Int) = (((slotsN g (i + 1)).2 : Nat) : Int) from (by (rw [slotsN2]; simp [*]; done)))), rfl⟩ (b2 bn)))))
        · exact (b3 (bc ⟨(congrArg (fun l_ => some (Obj.rows 4 (List.map (eSlot true) l_))) he6), (lb rfl), rfl⟩ bn))
        · exact nd rfl
      refine sk (tn (sq (sr (mO (tN (fromG g i false)) rfl (fO (B.geq (c := (decide (2 ≤ fromG g i false))) (tv (tN (fromG g i false)) rfl) (VEv.int .i64 2) (by exact decN (by omega))) (nt (cg (dz fhg28_3) rfl (sk (tn (sr (mO (tN (fromG g i true)) rfl ?_)))))))))))
      refine fO (B.geq (c := (decide (2 ≤ fromG g i true))) (tv (tN (fromG g i true)) rfl) (VEv.int .i64 2) (by exact decN (by omega))) (nt (cg (dz fhc1) rfl (sk (vinB.n (tn (VRun.region (mO (tN i) rfl (fO (xinc (tv (tN i) rfl) (VEv.int .i64 1) (by omega)) (aO (tN (i + 1)) rfl (VRunO.nil (tn ?_)))))))))))
      have hgo : gridOk g := by assumption
      have he7 : (slotsN g i).1 = (slotsN g (i + 1)).1 := by (rw [slotsN1, slotsN2]; simp [*]; done)
      refine ⟨(i + 1 : Nat), ?_, ?_, Wk.mk (fun k => k) ?_ ?_ ?_⟩
      · exact ⟨by omega, .inl hgo⟩
      · omega
      · exact (b2 (b2 (bc ⟨(congrArg (fun l_ => T.os 4 1 0 (List.map (eSlot true) l_).length) he7), rfl⟩ (bc ⟨(congrArg (T.int .i64) (show (((slotsN g i).2 : Nat) : Int) = (((slotsN g (i + 1)).2 : Nat) : Int) from (by (rw [slotsN2]; simp [*]; done)))), rfl⟩ (b2 bn)))))
      · exact (b3 (bc ⟨(congrArg (fun l_ => some (Obj.rows 4 (List.map (eSlot true) l_))) he7), (lb rfl), rfl⟩ bn))
      · exact nd rfl
    refine VRun.exit (vthn.e (vthn.e (vinB.e (tn (sr (mO (T.os 4 1 0 ((((slotsN g i).1).map (eSlot true)).length)) rfl (aO (T.os 4 1 0 ((((slotsN g i).1).map (eSlot true)).length)) rfl (nt (rt ?_)))))))))
    refine vfin.eq (r' := (T.sl true 4 (((slotsN g i).1).map (eSlot true)))) ?_ (vfin.r (VRes.tmp (t := (T.os 4 1 0 ((((slotsN g i).1).map (eSlot true)).length))) rfl VRes.nil) (Give.os rfl rfl (okeSlot.cleanMap _)))
    show (T.sl true 4 (((slotsN g i).1).map (eSlot true))) = (T.sl true 4 ((slotsG g).map (eSlot true)))
    refine congrArg (fun l_ => T.sl true 4 (List.map (eSlot true) l_)) ?_
    refine slots_end hI1 hI'.2 ?_; (right; assumption)
  refine offs 2 5 true 14 (dz fhg14_2) rfl rfl rfl (fO (OF.pickF (VEv.tmpB rfl (dz fhg14_2)) (VEv.bool false)) (nt (cf rfl (VRun.exit (vthn.e (vthn.e (vinB.e (tn (sr (mO (T.os 4 1 0 ((((slotsN g i).1).map (eSlot true)).length)) rfl (aO (T.os 4 1 0 ((((slotsN g i).1).map (eSlot true)).length)) rfl ?_)))))))))))
  refine nt (rt ?_)
  refine vfin.eq (r' := (T.sl true 4 (((slotsN g i).1).map (eSlot true)))) ?_ (vfin.r (VRes.tmp (t := (T.os 4 1 0 ((((slotsN g i).1).map (eSlot true)).length))) rfl VRes.nil) (Give.os rfl rfl (okeSlot.cleanMap _)))
  show (T.sl true 4 (((slotsN g i).1).map (eSlot true))) = (T.sl true 4 ((slotsG g).map (eSlot true)))
  refine congrArg (fun l_ => T.sl true 4 (List.map (eSlot true) l_)) ?_
  refine slots_end hI1 hI'.2 ?_; (left; assumption)
theorem W_impl_SlotsOf (n : Nat) (g : D.Grid) (hc : g.Cells.size ≤ maxLen) : Pure (acall Tryz.prog (n + 3)) 107 [(T.agg (eGrid false g))] (T.sl true 4 ((slotsG g).map (eSlot true))) := by
  refine Pure.intro (rs := [ResultVar.tmp 2]) Tryz.func107 rfl rfl rfl (E0 := [(0, (T.agg (eGrid false g)))]) rfl ?_
  obtain ⟨hlim, hmx, hmax⟩ := lims
  refine sr (kO (B.box (ts := (eGrid false g)) (tv (T.agg (eGrid false g)) rfl) nofun rfl) (fO (OF.assign VEv.nils) (nt (sq (sr (lO (OL.loadOn (us := (eGrid false g)) (tv (T.op 0 0) rfl) rfl st34 sz34 (lb rfl) rfl) (cO (cS (vc (tv (T.agg (eGrid false g)) rfl) vn) (LendL.cons (lg okeGrid) ln) (W_impl_IsGrid (n + 0) g (by assumption)) rfl rfl) (fO (xnot (tv (tB (decide (gridOk g))) rfl)) (nt ?_)))))))))
  refine cn (gridOk g) rfl (fun fhc0 => ?_) fun fhc0 => ?_
  · refine sr ?_
    refine fO (OF.assign VEv.nils) (nt (rt (tr ?_)))
    refine vfin.eq (r' := (T.sl true 4 [])) ?_ (vfin.r (VRes.tmp (t := T.nils) rfl VRes.nil) (Give.nils 4))
    show (T.sl true 4 []) = (T.sl true 4 ((slotsG g).map (eSlot true)))
    refine congrArg (fun l_ => T.sl true 4 (List.map (eSlot true) l_)) (a₁ := []) ?_
    exact (slotsG_no fhc0).symm
  refine sk (tn (sr (fO (OF.assign VEv.nils) (nt (sr (fO (OF.assign (VEv.int .i64 0)) (nt (sq (sr (lf (tS g.Cells) rfl fa34_2 rfl rfl st9 (lO (B.lenS (tv (tS g.Cells) rfl) U9) ?_)))))))))))
  refine fO (OF.move (VEv.int .i64 0)) (nt (VRun.block (VRun.wk (Wk.phantom 3 4 rfl) ?_)))
  have he1 : [] = (((slotsN g 0).1).map (eSlot true)) := by rfl
  refine VRun.loop (A := Nat) (fun s_ => [(1, (T.op 0 0)), (2, T.nils), (3, (T.os 4 1 0 ((((slotsN g s_).1).map (eSlot true)).length))), (4, (tN ((slotsN g s_).2))), (13, (tN g.Cells.size)), (14, (tN s_))]) (fun s_ => mkO [(0, (Obj.cells (eGrid false g))), (1, (Obj.rows 4 (((slotsN g s_).1).map (eSlot true))))]) 2 (fun s_ => s_ ≤ g.Cells.size) (fun s_ => g.Cells.size - s_) (0 : Nat) ?_ (Wk.mk (fun k => k) ?_ ?_ ?_) ?_
  · (simp; done)
  · exact (b2 (b2 (bc ⟨(congrArg (fun n_ => T.os 4 1 0 n_) (show 0 = (((slotsN g 0).1).map (eSlot true)).length from (by rfl))), rfl⟩ (bc ⟨(congrArg (T.int .i64) (show 0 = (((slotsN g 0).2 : Nat) : Int) from (by rfl))), rfl⟩ (b2 (b2 bn))))))
  · exact (b3 (bc ⟨(congrArg (fun l_ => some (Obj.rows 4 l_)) he1), (lb rfl), rfl⟩ bn))
  · exact nd rfl
  rintro i (hI' : i ≤ g.Cells.size)
  show VRun _ _ _ [(1, (T.op 0 0)), (2, T.nils), (3, (T.os 4 1 0 ((((slotsN g i).1).map (eSlot true)).length))), (4, (tN ((slotsN g i).2))), (13, (tN g.Cells.size)), (14, (tN i))] (mkO [(0, (Obj.cells (eGrid false g))), (1, (Obj.rows 4 (((slotsN g i).1).map (eSlot true))))]) 2 _
  have hI1 := hI'
  have hbd := slotsN_bd g i
  have hgo : gridOk g := by assumption
  have hsz := hgo.size
  refine sr (fO (xls' (tv (tN i) rfl) (tv (tN g.Cells.size) rfl)) (nt (sq ?_)))
  refine cd (i < g.Cells.size) rfl (fun fhc1 => ?_) fun fhc1 => ?_
  · refine sk ?_
    refine tn (sq (VRun.block (sr (mO (tN i) rfl (aO (tN i) rfl (nt (sq (VRun.draw (B := [[], [], [1, 0], [], [], [0, 1, 2, 4, 3], [3, 4, 5, 0, 1, 2], [6, 3, 4, 2, 1, 0, 5]]) (by kernel_rfl) (by kernel_rfl) (lD (OL.loadOn (us := (eGrid false g)) (tv (T.op 0 0) rfl) rfl st34 sz34 (lb rfl) rfl) rfl rfl (mD (tN i) rfl rfl (VRunD.quiet (bi := [1, 0]) rfl VWant.always rfl rfl rfl bn (cS (vc (tv (T.agg (eGrid false g)) rfl) (vc (tv (tN i) rfl) (vc (VEv.bool false) vn))) (LendL.cons (lg okeGrid) (lp rfl (lp rfl ln))) (W_impl_run (n + 1) g i false (by assumption) (by assumption)) rfl rfl) ?_)))))))))))
    refine lD (OL.loadOn (us := (eGrid false g)) (tv (T.op 0 0) rfl) rfl st34 sz34 (lb rfl) rfl) rfl rfl (mD (tN i) rfl rfl (VRunD.quiet (bi := [0, 1, 2, 4, 3]) rfl VWant.always rfl rfl rfl bn (cS (vc (tv (T.agg (eGrid false g)) rfl) (vc (tv (tN i) rfl) (vc (VEv.bool true) vn))) (LendL.cons (lg okeGrid) (lp rfl (lp rfl ln))) (W_impl_run (n + 1) g i true (by assumption) (by assumption)) rfl rfl) (fD (OF.assign (tv (tN (fromG g i false)) rfl)) rfl rfl (fD (OF.assign (tv (tN (fromG g i true)) rfl)) rfl rfl (VRunD.nil (tn (sq (sr (mO (tN (fromG g i false)) rfl (fO (B.geq (c := (decide (2 ≤ fromG g i false))) (tv (tN (fromG g i false)) rfl) (VEv.int .i64 2) (by exact decN (by omega))) (mO (tB (decide (2 ≤ fromG g i false))) rfl ?_)))))))))))
    refine gw (2 ≤ fromG g i false) (fun fhg25_2 => ?_) fun fhg25_2 => ?_
    · refine offs 2 2 false 25 (dy fhg25_2) rfl rfl rfl ?_
      refine fO (OF.pickT (VEv.tmpB rfl (dy fhg25_2)) (VEv.bool true)) (nt (ct rfl (VRun.region (mO (tN ((slotsN g i).2)) rfl (fO (xinc (tv (tN ((slotsN g i).2)) rfl) (VEv.int .i64 1) (by omega)) (aO (tN ((slotsN g i).2 + 1)) rfl (VRunO.nil (tn (sq (sr (mO (tN (fromG g i false)) rfl ?_)))))))))))
      refine fO (B.geq (c := (decide (2 ≤ fromG g i false))) (tv (tN (fromG g i false)) rfl) (VEv.int .i64 2) (by exact decN (by omega))) (nt (ck (dy fhg25_2) rfl (VRun.region (mO (T.os 4 1 0 ((((slotsN g i).1).map (eSlot true)).length)) rfl (mO (tN ((slotsN g i).2 + 1)) rfl (mO (tN i) rfl (mO (tN (fromG g i false)) rfl (fO (OF.build (l := [(0, (tN ((slotsN g i).2 + 1))), (1, (tB false)), (2, (tN i)), (3, (tN (fromG g i false)))]) (zs := [(tN 0), (tB false), (tN 0), (tN 0)]) (out := [(tN ((slotsN g i).2 + 1)), (tB false), (tN i), (tN (fromG g i false))]) (VEvp.cons (i := 0) (tv (tN ((slotsN g i).2 + 1)) rfl) (VEvp.cons (i := 1) (VEv.bool false) (VEvp.cons (i := 2) (tv (tN i) rfl) (VEvp.cons (i := 3) (tv (tN (fromG g i false)) rfl) VEvp.nil)))) (bc nofun (bc nofun (bc nofun (bc nofun bn)))) Tryz.underlying138 zo138 (fun _ => RL.cons (.int _ _) (RL.cons (.bool _) (RL.cons (.int _ _) (RL.cons (.int _ _) (RL.nil _))))) (by kernel_rfl) (by kernel_rfl)) (kO (OM.buildSlice (l := [(T.agg [(tN ((slotsN g i).2 + 1)), (tB false), (tN i), (tN (fromG g i false))])]) (VEvp.cons (tv (T.agg [(tN ((slotsN g i).2 + 1)), (tB false), (tN i), (tN (fromG g i false))]) rfl) VEvp.nil) rfl (by decide) (bc (nofun) bn) (bc ((bc (rfl) (bc (rfl) (bc (rfl) (bc (rfl) bn))))) bn) (bc (rfl) bn) U123 zo138 (by kernel_rfl) rfl (by rw [sz138]; decide) sz138 (Nat.le_of_ble_eq_true rfl)) (cO (B.append (rows := (((slotsN g i).1).map (eSlot true))) (rows2 := [[(tN ((slotsN g i).2 + 1)), (tB false), (tN i), (tN (fromG g i false))]]) (rows3 := (((slotsN g i).1 ++ [(D.Slot.mk ((((slotsN g i).2 + 1) : Nat) : Int) false ((i : Nat) : Int) ((fromG g i false : Nat) : Int))]).map (eSlot true))) (VDst.own (tv (T.os 4 1 0 ((((slotsN g i).1).map (eSlot true)).length)) rfl) rfl rfl) (VSrc.own (tv (T.os 4 2 0 1) rfl) rfl rfl U123 (bc (bc rfl (bc rfl (bc rfl (bc rfl bn)))) bn)) (by decide) U123 sz138 (by decide) zo138 rfl (of_decide_eq_true (by kernel_rfl)) (by (simp only [List.length_map, List.length_append, List.length_cons, List.length_nil, List.length_replicate, List.length_set, List.length_drop, List.length_take, lim] at *; omega)) ((List.map_append (f := eSlot true) (l₁ := (slotsN g i).1) (l₂ := [(D.Slot.mk ((((slotsN g i).2 + 1) : Nat) : Int) false ((i : Nat) : Int) ((fromG g i false : Nat) : Int))])).symm)) (aO (T.os 4 3 0 ((((slotsN g i).1 ++ [(D.Slot.mk ((((slotsN g i).2 + 1) : Nat) : Int) false ((i : Nat) : Int) ((fromG g i false : Nat) : Int))]).map (eSlot true)).length)) rfl ?_)))))))))))
      refine VRunO.nil (tn (sr (mO (tN (fromG g i true)) rfl (fO (B.geq (c := (decide (2 ≤ fromG g i true))) (tv (tN (fromG g i true)) rfl) (VEv.int .i64 2) (by exact decN (by omega))) (nt ?_)))))
      refine cd (2 ≤ fromG g i true) rfl (fun fhc4 => ?_) fun fhc4 => ?_
      · refine VRun.region ?_
        refine mO (T.os 4 3 0 ((((slotsN g i).1 ++ [(D.Slot.mk ((((slotsN g i).2 + 1) : Nat) : Int) false ((i : Nat) : Int) ((fromG g i false : Nat) : Int))]).map (eSlot true)).length)) rfl (mO (tN ((slotsN g i).2 + 1)) rfl (mO (tN i) rfl (mO (tN (fromG g i true)) rfl (fO (OF.build (l := [(0, (tN ((slotsN g i).2 + 1))), (1, (tB true)), (2, (tN i)), (3, (tN (fromG g i true)))]) (zs := [(tN 0), (tB false), (tN 0), (tN 0)]) (out := [(tN ((slotsN g i).2 + 1)), (tB true), (tN i), (tN (fromG g i true))]) (VEvp.cons (i := 0) (tv (tN ((slotsN g i).2 + 1)) rfl) (VEvp.cons (i := 1) (VEv.bool true) (VEvp.cons (i := 2) (tv (tN i) rfl) (VEvp.cons (i := 3) (tv (tN (fromG g i true)) rfl) VEvp.nil)))) (bc nofun (bc nofun (bc nofun (bc nofun bn)))) Tryz.underlying138 zo138 (fun _ => RL.cons (.int _ _) (RL.cons (.bool _) (RL.cons (.int _ _) (RL.cons (.int _ _) (RL.nil _))))) (by kernel_rfl) (by kernel_rfl)) (kO (OM.buildSlice (l := [(T.agg [(tN ((slotsN g i).2 + 1)), (tB true), (tN i), (tN (fromG g i true))])]) (VEvp.cons (tv (T.agg [(tN ((slotsN g i).2 + 1)), (tB true), (tN i), (tN (fromG g i true))]) rfl) VEvp.nil) rfl (by decide) (bc (nofun) bn) (bc ((bc (rfl) (bc (rfl) (bc (rfl) (bc (rfl) bn))))) bn) (bc (rfl) bn) U123 zo138 (by kernel_rfl) rfl (by rw [sz138]; decide) sz138 (Nat.le_of_ble_eq_true rfl)) (cO (B.append (rows := (((slotsN g i).1 ++ [(D.Slot.mk ((((slotsN g i).2 + 1) : Nat) : Int) false ((i : Nat) : Int) ((fromG g i false : Nat) : Int))]).map (eSlot true))) (rows2 := [[(tN ((slotsN g i).2 + 1)), (tB true), (tN i), (tN (fromG g i true))]]) (rows3 := ((((slotsN g i).1 ++ [(D.Slot.mk ((((slotsN g i).2 + 1) : Nat) : Int) false ((i : Nat) : Int) ((fromG g i false : Nat) : Int))]) ++ [(D.Slot.mk ((((slotsN g i).2 + 1) : Nat) : Int) true ((i : Nat) : Int) ((fromG g i true : Nat) : Int))]).map (eSlot true))) (VDst.own (tv (T.os 4 3 0 ((((slotsN g i).1 ++ [(D.Slot.mk ((((slotsN g i).2 + 1) : Nat) : Int) false ((i : Nat) : Int) ((fromG g i false : Nat) : Int))]).map (eSlot true)).length)) rfl) rfl rfl) (VSrc.own (tv (T.os 4 4 0 1) rfl) rfl rfl U123 (bc (bc rfl (bc rfl (bc rfl (bc rfl bn)))) bn)) (by decide) U123 sz138 (by decide) zo138 rfl (of_decide_eq_true (by kernel_rfl)) (by (simp only [List.length_map, List.length_append, List.length_cons, List.length_nil, List.length_replicate, List.length_set, List.length_drop, List.length_take, lim] at *; omega)) ((List.map_append (f := eSlot true) (l₁ := ((slotsN g i).1 ++ [(D.Slot.mk ((((slotsN g i).2 + 1) : Nat) : Int) false ((i : Nat) : Int) ((fromG g i false : Nat) : Int))])) (l₂ := [(D.Slot.mk ((((slotsN g i).2 + 1) : Nat) : Int) true ((i : Nat) : Int) ((fromG g i true : Nat) : Int))])).symm)) (aO (T.os 4 5 0 (((((slotsN g i).1 ++ [(D.Slot.mk ((((slotsN g i).2 + 1) : Nat) : Int) false ((i : Nat) : Int) ((fromG g i false : Nat) : Int))]) ++ [(D.Slot.mk ((((slotsN g i).2 + 1) : Nat) : Int) true ((i : Nat) : Int) ((fromG g i true : Nat) : Int))]).map (eSlot true)).length)) rfl (VRunO.nil (vinB.n (tn (VRun.region ?_)))))))))))
        refine fO (xinc (tv (tN i) rfl) (VEv.int .i64 1) (by omega)) (mO (tN (i + 1)) rfl (VRunO.nil (tn ?_)))
        have he3 : (((slotsN g i).1 ++ [(D.Slot.mk ((((slotsN g i).2 + 1) : Nat) : Int) false ((i : Nat) : Int) ((fromG g i false : Nat) : Int))]) ++ [(D.Slot.mk ((((slotsN g i).2 + 1) : Nat) : Int) true ((i : Nat) : Int) ((fromG g i true : Nat) : Int))]) = (slotsN g (i + 1)).1 := by (rw [slotsN1, slotsN2]; simp [*]; done)
        refine ⟨(i + 1 : Nat), ?_, ?_, Wk.mk (fun k => if k = 1 then 5 else  k) ?_ ?_ ?_⟩
        · trivial
        · omega
        · exact (b2 (b2 (bc ⟨(congrArg (fun l_ => T.os 4 5 0 (List.map (eSlot true) l_).length) he3), rfl⟩ (bc ⟨(congrArg (T.int .i64) (show ((((slotsN g i).2 + 1) : Nat) : Int) = (((slotsN g (i + 1)).2 : Nat) : Int) from (by (rw [slotsN2]; simp [*]; done)))), rfl⟩ (b2 (b2 bn))))))
        · exact (b3 (bc ⟨(congrArg (fun l_ => some (Obj.rows 4 (List.map (eSlot true) l_))) he3), (lb rfl), rfl⟩ bn))
        · exact nd rfl
      refine sk (vinB.n (tn (VRun.region (fO (xinc (tv (tN i) rfl) (VEv.int .i64 1) (by omega)) (mO (tN (i + 1)) rfl (VRunO.nil (tn ?_)))))))
      have he4 : ((slotsN g i).1 ++ [(D.Slot.mk ((((slotsN g i).2 + 1) : Nat) : Int) false ((i : Nat) : Int) ((fromG g i false : Nat) : Int))]) = (slotsN g (i + 1)).1 := by (rw [slotsN1, slotsN2]; simp [*]; done)
      refine ⟨(i + 1 : Nat), ?_, ?_, Wk.mk (fun k => if k = 1 then 3 else  k) ?_ ?_ ?_⟩
      · trivial
      · omega
      · exact (b2 (b2 (bc ⟨(congrArg (fun l_ => T.os 4 3 0 (List.map (eSlot true) l_).length) he4), rfl⟩ (bc ⟨(congrArg (T.int .i64) (show ((((slotsN g i).2 + 1) : Nat) : Int) = (((slotsN g (i + 1)).2 : Nat) : Int) from (by (rw [slotsN2]; simp [*]; done)))), rfl⟩ (b2 (b2 bn))))))
      · exact (b3 (bc ⟨(congrArg (fun l_ => some (Obj.rows 4 (List.map (eSlot true) l_))) he4), (lb rfl), rfl⟩ bn))
      · exact nd rfl
    refine gF (dz fhg25_2) rfl rfl (OF.move (tv (tN (fromG g i true)) rfl)) (gF (dz fhg25_2) rfl rfl (B.geq (c := (decide (2 ≤ fromG g i true))) (tv (tN (fromG g i true)) rfl) (VEv.int .i64 2) (by exact decN (by omega))) (fO (OF.pickF (VEv.tmpB rfl (dz fhg25_2)) (tv (tB (decide (2 ≤ fromG g i true))) rfl)) (nt ?_)))
    refine cd (2 ≤ fromG g i true) rfl (fun fhc2 => ?_) fun fhc2 => ?_
    · refine VRun.region ?_
      refine mO (tN ((slotsN g i).2)) rfl (fO (xinc (tv (tN ((slotsN g i).2)) rfl) (VEv.int .i64 1) (by omega)) (aO (tN ((slotsN g i).2 + 1)) rfl (VRunO.nil (tn (sq (sr (mO (tN (fromG g i false)) rfl (fO (B.geq (c := (decide (2 ≤ fromG g i false))) (tv (tN (fromG g i false)) rfl) (VEv.int .i64 2) (by exact decN (by omega))) (nt (cg (dz fhg25_2) rfl (sk ?_)))))))))))
      refine tn (sr (mO (tN (fromG g i true)) rfl (fO (B.geq (c := (decide (2 ≤ fromG g i true))) (tv (tN (fromG g i true)) rfl) (VEv.int .i64 2) (by exact decN (by omega))) (nt (ck (dy fhc2) rfl (VRun.region (mO (T.os 4 1 0 ((((slotsN g i).1).map (eSlot true)).length)) rfl (mO (tN ((slotsN g i).2 + 1)) rfl (mO (tN i) rfl (mO (tN (fromG g i true)) rfl (fO (OF.build (l := [(0, (tN ((slotsN g i).2 + 1))), (1, (tB true)), (2, (tN i)), (3, (tN (fromG g i true)))]) (zs := [(tN 0), (tB false), (tN 0), (tN 0)]) (out := [(tN ((slotsN g i).2 + 1)), (tB true), (tN i), (tN (fromG g i true))]) (VEvp.cons (i := 0) (tv (tN ((slotsN g i).2 + 1)) rfl) (VEvp.cons (i := 1) (VEv.bool true) (VEvp.cons (i := 2) (tv (tN i) rfl) (VEvp.cons (i := 3) (tv (tN (fromG g i true)) rfl) VEvp.nil)))) (bc nofun (bc nofun (bc nofun (bc nofun bn)))) Tryz.underlying138 zo138 (fun _ => RL.cons (.int _ _) (RL.cons (.bool _) (RL.cons (.int _ _) (RL.cons (.int _ _) (RL.nil _))))) (by kernel_rfl) (by kernel_rfl)) ?_)))))))))))
      refine kO (OM.buildSlice (l := [(T.agg [(tN ((slotsN g i).2 + 1)), (tB true), (tN i), (tN (fromG g i true))])]) (VEvp.cons (tv (T.agg [(tN ((slotsN g i).2 + 1)), (tB true), (tN i), (tN (fromG g i true))]) rfl) VEvp.nil) rfl (by decide) (bc (nofun) bn) (bc ((bc (rfl) (bc (rfl) (bc (rfl) (bc (rfl) bn))))) bn) (bc (rfl) bn) U123 zo138 (by kernel_rfl) rfl (by rw [sz138]; decide) sz138 (Nat.le_of_ble_eq_true rfl)) (cO (B.append (rows := (((slotsN g i).1).map (eSlot true))) (rows2 := [[(tN ((slotsN g i).2 + 1)), (tB true), (tN i), (tN (fromG g i true))]]) (rows3 := (((slotsN g i).1 ++ [(D.Slot.mk ((((slotsN g i).2 + 1) : Nat) : Int) true ((i : Nat) : Int) ((fromG g i true : Nat) : Int))]).map (eSlot true))) (VDst.own (tv (T.os 4 1 0 ((((slotsN g i).1).map (eSlot true)).length)) rfl) rfl rfl) (VSrc.own (tv (T.os 4 2 0 1) rfl) rfl rfl U123 (bc (bc rfl (bc rfl (bc rfl (bc rfl bn)))) bn)) (by decide) U123 sz138 (by decide) zo138 rfl (of_decide_eq_true (by kernel_rfl)) (by (simp only [List.length_map, List.length_append, List.length_cons, List.length_nil, List.length_replicate, List.length_set, List.length_drop, List.length_take, lim] at *; omega)) ((List.map_append (f := eSlot true) (l₁ := (slotsN g i).1) (l₂ := [(D.Slot.mk ((((slotsN g i).2 + 1) : Nat) : Int) true ((i : Nat) : Int) ((fromG g i true : Nat) : Int))])).symm)) (aO (T.os 4 3 0 ((((slotsN g i).1 ++ [(D.Slot.mk ((((slotsN g i).2 + 1) : Nat) : Int) true ((i : Nat) : Int) ((fromG g i true : Nat) : Int))]).map (eSlot true)).length)) rfl (VRunO.nil (vinB.n (tn (VRun.region (fO (xinc (tv (tN i) rfl) (VEv.int .i64 1) (by omega)) (mO (tN (i + 1)) rfl (VRunO.nil (tn ?_))))))))))
      have he5 : ((slotsN g i).1 ++ [(D.Slot.mk ((((slotsN g i).2 + 1) : Nat) : Int) true ((i : Nat) : Int) ((fromG g i true : Nat) : Int))]) = (slotsN g (i + 1)).1 := by (rw [slotsN1, slotsN2]; simp [*]; done)
      refine ⟨(i + 1 : Nat), ?_, ?_, Wk.mk (fun k => if k = 1 then 3 else  k) ?_ ?_ ?_⟩
      · trivial
      · omega
      · exact (b2 (b2 (bc ⟨(congrArg (fun l_ => T.os 4 3 0 (List.map (eSlot true) l_).length) he5), rfl⟩ (bc ⟨(congrArg (T.int .i64) (show ((((slotsN g i).2 + 1) : Nat) : Int) = (((slotsN g (i + 1)).2 : Nat) : Int) from (by (rw [slotsN2]; simp [*]; done)))), rfl⟩ (b2 (b2 bn))))))
      · exact (b3 (bc ⟨(congrArg (fun l_ => some (Obj.rows 4 (List.map (eSlot true) l_))) he5), (lb rfl), rfl⟩ bn))
      · exact nd rfl
    refine sk (tn (sq (sr (mO (tN (fromG g i false)) rfl (fO (B.geq (c := (decide (2 ≤ fromG g i false))) (tv (tN (fromG g i false)) rfl) (VEv.int .i64 2) (by exact decN (by omega))) (nt (cg (dz fhg25_2) rfl (sk (tn (sr (mO (tN (fromG g i true)) rfl ?_)))))))))))
    refine fO (B.geq (c := (decide (2 ≤ fromG g i true))) (tv (tN (fromG g i true)) rfl) (VEv.int .i64 2) (by exact decN (by omega))) (nt (cg (dz fhc2) rfl (sk (vinB.n (tn (VRun.region (fO (xinc (tv (tN i) rfl) (VEv.int .i64 1) (by omega)) (mO (tN (i + 1)) rfl (VRunO.nil (tn ?_))))))))))
    have he6 : (slotsN g i).1 = (slotsN g (i + 1)).1 := by (rw [slotsN1, slotsN2]; simp [*]; done)
    refine ⟨(i + 1 : Nat), ?_, ?_, Wk.mk (fun k => k) ?_ ?_ ?_⟩
    · trivial
    · omega
    · exact (b2 (b2 (bc ⟨(congrArg (fun l_ => T.os 4 1 0 (List.map (eSlot true) l_).length) he6), rfl⟩ (bc ⟨(congrArg (T.int .i64) (show (((slotsN g i).2 : Nat) : Int) = (((slotsN g (i + 1)).2 : Nat) : Int) from (by (rw [slotsN2]; simp [*]; done)))), rfl⟩ (b2 (b2 bn))))))
    · exact (b3 (bc ⟨(congrArg (fun l_ => some (Obj.rows 4 (List.map (eSlot true) l_))) he6), (lb rfl), rfl⟩ bn))
    · exact nd rfl
  refine VRun.exit (vthn.e (vthn.e (vinB.e (tn (sr (mO (T.os 4 1 0 ((((slotsN g i).1).map (eSlot true)).length)) rfl (aO (T.os 4 1 0 ((((slotsN g i).1).map (eSlot true)).length)) rfl (nt (rt ?_)))))))))
  refine vfin.eq (r' := (T.sl true 4 (((slotsN g i).1).map (eSlot true)))) ?_ (vfin.r (VRes.tmp (t := (T.os 4 1 0 ((((slotsN g i).1).map (eSlot true)).length))) rfl VRes.nil) (Give.os rfl rfl (okeSlot.cleanMap _)))
  show (T.sl true 4 (((slotsN g i).1).map (eSlot true))) = (T.sl true 4 ((slotsG g).map (eSlot true)))
  refine congrArg (fun l_ => T.sl true 4 (List.map (eSlot true) l_)) ?_
  refine slots_end hI1 (.inl hgo) ?_; left; assumption
noncomputable section
def shortG (g : D.Grid) : Prop := ∃ s ∈ slotsG g, s.Length < 3
instance (g : D.Grid) : Decidable (shortG g) := Classical.propDecidable _
end
theorem W_spec_l10Short (n : Nat) (g : D.Grid) (hc : g.Cells.size ≤ maxLen) : Pure (acall Tryz.prog (n + 4)) 134 [(T.agg (eGrid false g))] (tB (decide (shortG g))) := by
  refine Pure.intro (rs := [ResultVar.tmp 2]) Tryz.func134 rfl rfl rfl (E0 := [(0, (T.agg (eGrid false g)))]) rfl ?_
  obtain ⟨hlim, hmx, hmax⟩ := lims
  have hsl := slotsG_len g
  refine sr (kO (B.box (ts := (eGrid false g)) (tv (T.agg (eGrid false g)) rfl) nofun rfl) (fO (OF.assign (VEv.bool false)) (nt (sr (lO (OL.loadOn (us := (eGrid false g)) (tv (T.op 0 0) rfl) rfl st34 sz34 (lb rfl) rfl) (cO (OC.callF (us := [(T.agg (eGrid false g))]) (r := (T.sl true 4 ((slotsG g).map (eSlot true)))) (r' := (T.os 4 1 0 (((slotsG g).map (eSlot true)).length))) (objs := [(Obj.rows 4 ((slotsG g).map (eSlot true)))]) rfl (vc (tv (T.agg (eGrid false g)) rfl) vn) (LendL.cons (lg okeGrid) ln) (W_spec_SlotsOf (n + 0) g (by assumption)) rfl) (aO (T.os 4 1 0 (((slotsG g).map (eSlot true)).length)) rfl (nt (sq (sr (fO (OF.assign (VEv.int .i64 0)) ?_)))))))))))
  refine nt (VRun.block ?_)
  refine VRun.loop (A := Nat) (fun s_ => [(3, (T.os 4 0 0 (((slotsG g).map (eSlot true)).length))), (4, (tN s_))]) (fun s_ => mkO [(0, (Obj.rows 4 ((slotsG g).map (eSlot true))))]) 1 (fun s_ => NoneTo (fun s : D.Slot => s.Length < 3) (slotsG g) s_) (fun s_ => (slotsG g).length - s_) (0 : Nat) ?_ (Wk.mk (fun k => if k = 0 then 1 else  k) ?_ ?_ ?_) ?_
  · exact NoneTo.start _ _
  · exact (b2 (b2 bn))
  · exact (b3 bn)
  · exact nd rfl
  rintro i (hI' : NoneTo (fun s : D.Slot => s.Length < 3) (slotsG g) i)
  show VRun _ _ _ [(3, (T.os 4 0 0 (((slotsG g).map (eSlot true)).length))), (4, (tN i))] (mkO [(0, (Obj.rows 4 ((slotsG g).map (eSlot true))))]) 1 _
  have hI1 := hI'.1
  refine sq (sr (mO (tN i) rfl (mO (T.os 4 0 0 (((slotsG g).map (eSlot true)).length)) rfl (lO (B.lenO (m := (slotsG g).length) (tv (T.os 4 0 0 (((slotsG g).map (eSlot true)).length)) rfl) U123 (List.length_map ..)) (fO (xls' (tv (tN i) rfl) (tv (tN ((slotsG g).length)) rfl)) (nt ?_))))))
  refine cd (i < (slotsG g).length) rfl (fun fhc0 => ?_) fun fhc0 => ?_
  · refine sk ?_
    refine tn (sq (VRun.block (sr (mO (T.os 4 0 0 (((slotsG g).map (eSlot true)).length)) rfl (mO (tN i) rfl ?_)))))
    obtain ⟨x1, hx1⟩ : ∃ x, (slotsG g)[i]? = some x := ⟨_, List.getElem?_eq_getElem (by omega)⟩
    refine fO (B.indexAddrO (i := i) (tv (T.os 4 0 0 (((slotsG g).map (eSlot true)).length)) rfl) (tv (tN i) rfl) rfl (by (simp only [List.length_map]; omega)) U123 sz138 if138) (fO (OF.fieldAddrP (tv (T.orp 4 0 i 0) rfl) fa138_3) (lO (OL.loadP1 (t := (tI x1.Length)) (row := (eSlot true x1)) (tv (T.orp 4 0 i 3) rfl) rfl (map_at _ hx1) rfl rfl st3) (fO (xls (tv (tI x1.Length) rfl) (VEv.int .i64 3)) (nt ?_))))
    refine cd (x1.Length < 3) rfl (fun fhc1 => ?_) fun fhc1 => ?_
    · refine sr ?_
      refine fO (OF.assign (VEv.bool true)) (nt (rt (vinB.r (tr (tr (vinB.r (tr (vb (b' := true) rfl ?_))))))))
      symm; rw [decide_eq_true_eq]; exact ⟨x1, List.mem_of_getElem? hx1, fhc1⟩
    refine sk (vinB.n (tn (VRun.region (mO (tN i) rfl (fO (xinc (tv (tN i) rfl) (VEv.int .i64 1) (by omega)) (aO (tN (i + 1)) rfl (VRunO.nil (tn ?_))))))))
    refine ⟨(i + 1 : Nat), ?_, ?_, Wk.mk (fun k => k) ?_ ?_ ?_⟩
    · exact hI'.next hx1 fhc1
    · omega
    · exact (b2 (b2 bn))
    · exact (b3 bn)
    · exact nd rfl
  refine VRun.exit (vthn.e (vthn.e (vinB.e (tn (sr (fO (OF.assign (VEv.bool false)) (nt (rt (vb (b' := false) rfl ?_)))))))))
  symm; rw [decide_eq_false_iff_not]; rintro ⟨y, hy, hy2⟩; exact hI'.mem fhc0 y hy hy2
end Go.Proofs.YtcccmceoplcciaaGreat.AE
namespace Go.Proofs.YtcccmceoplcciaaGreat.AE
open Go Go.RowKit
set_option linter.unusedVariables false
set_option linter.unusedSimpArgs false
set_option maxRecDepth 20000
set_option maxHeartbeats 2000000
noncomputable section
def stepS (g : D.Grid) (s : D.Slot) : Int := if s.Down = true then g.Cols else 1
def cellsS (g : D.Grid) (s : D.Slot) (n : Nat) : List Int := (List.range n).map fun k => s.Cell + ((k : Nat) : Int) * stepS g s
theorem cellsS_len (g : D.Grid) (s : D.Slot) (n : Nat) : (cellsS g s n).length = n := by simp [cellsS]
theorem cellsS_next (g : D.Grid) (s : D.Slot) (n : Nat) : cellsS g s (n + 1) = cellsS g s n ++ [s.Cell + ((n : Nat) : Int) * stepS g s] := by
  simp [cellsS, List.range_succ]
def slotOk (g : D.Grid) (s : D.Slot) : Prop := gridOk g ∧ (0 ≤ s.Cell ∧ s.Cell ≤ 36) ∧ (0 ≤ s.Length ∧ s.Length ≤ 6)
theorem runN_le {ok : Nat → Prop} [DecidablePred ok] : ∀ f n, runN ok f n ≤ n + f
  | 0, n => Nat.le_refl _
  | f + 1, n => by
    simp only [runN]
    split
    · have := runN_le (ok := ok) f (n + 1)
      omega
    · omega
theorem fromG_le (g : D.Grid) (cell : Nat) (down : Bool) : fromG g cell down ≤ 6 := by
  unfold fromG fromA fromD
  split <;> split <;> first | omega | (have := runN_le (ok := slD g cell) 6 0; omega) | (have := runN_le (ok := slA g cell) 6 0; omega)
theorem slotsN_ok (g : D.Grid) (hg : gridOk g) : ∀ i, i ≤ g.Cells.size → ∀ s ∈ (slotsN g i).1, slotOk g s
  | 0, _, s, hs => by simp [slotsN] at hs
  | i + 1, hi, s, hs => by
    have hsz := hg.size
    rw [slotsN1, List.mem_append, List.mem_append] at hs
    rcases hs with (hs | hs) | hs
    · exact slotsN_ok g hg i (by omega) s hs
    · split at hs
      · obtain rfl := List.mem_singleton.1 hs
        have := fromG_le g i false
        exact ⟨hg, by simp only; omega, by simp only; omega⟩
      · cases hs
    · split at hs
      · obtain rfl := List.mem_singleton.1 hs
        have := fromG_le g i true
        exact ⟨hg, by simp only; omega, by simp only; omega⟩
      · cases hs
theorem slotsG_ok {g : D.Grid} {s : D.Slot} (hs : s ∈ slotsG g) : slotOk g s := by
  unfold slotsG at hs
  split at hs
  · exact slotsN_ok g ‹_› _ (Nat.le_refl _) s hs
  · cases hs
end
theorem W_impl_cells (n : Nat) (g : D.Grid) (s : D.Slot) (hs : slotOk g s) : Pure (acall Tryz.prog (n + 1)) 178 [(T.agg (eGrid false g)), (T.agg (eSlot false s))] (T.sl true 1 ((cellsS g s s.Length.toNat).map (eInt true))) := by
  refine Pure.intro (rs := [ResultVar.tmp 4]) Tryz.func178 rfl rfl rfl (E0 := [(0, (T.agg (eGrid false g))), (1, (T.agg (eSlot false s)))]) rfl ?_
  obtain ⟨hlim, hmx, hmax⟩ := lims
  obtain ⟨hg, hc, hl⟩ := hs
  have hB := hg.2.1
  refine sr (kO (B.box (ts := (eGrid false g)) (tv (T.agg (eGrid false g)) rfl) nofun rfl) (kO (B.box (ts := (eSlot false s)) (tv (T.agg (eSlot false s)) rfl) nofun rfl) (fO (OF.assign VEv.nils) (nt (sr (fO (OF.assign (VEv.int .i64 1)) (nt (sq (sr (lf (tB s.Down) rfl fa138_1 rfl rfl st4 (nt ?_)))))))))))
  refine VRun.cond (tv (tB s.Down) rfl) (fun hc0 => ?_) (fun hc0 => ?_)
  · have fhc0 : s.Down = true := hc0
    refine VRun.region (lf (tI g.Cols) rfl fa34_1 rfl rfl st3 (aO (tI g.Cols) rfl (VRunO.nil (tn (sr (fO (OF.assign VEv.nils) (nt (sq (sr (lf (tI s.Length) rfl fa138_3 rfl rfl st3 (fO (OF.move (VEv.int .i64 0)) ?_)))))))))))
    refine nt (VRun.block (VRun.wk (Wk.phantom 6 1 rfl) ?_))
    have he1 : [] = ((cellsS g s 0).map (eInt true)) := by rfl
    refine VRun.loop (A := Nat) (fun s_ => [(3, (T.op 0 0)), (4, T.nils), (5, (tI g.Cols)), (6, (T.os 1 1 0 (((cellsS g s s_).map (eInt true)).length))), (13, (tI s.Length)), (14, (tN s_))]) (fun s_ => mkO [(0, (Obj.cells (eSlot false s))), (1, (Obj.rows 1 ((cellsS g s s_).map (eInt true))))]) 2 (fun s_ => s_ ≤ s.Length.toNat) (fun s_ => s.Length.toNat - s_) (0 : Nat) ?_ (Wk.mk (fun k => if k = 0 then 1 else if k = 1 then 2 else  k) ?_ ?_ ?_) ?_
    · (simp; done)
    · exact (b2 (b2 (b2 (bc ⟨(congrArg (fun n_ => T.os 1 2 0 n_) (show 0 = ((cellsS g s 0).map (eInt true)).length from (by rfl))), rfl⟩ (b2 (b2 bn))))))
    · exact (b3 (bc ⟨(congrArg (fun l_ => some (Obj.rows 1 l_)) he1), (lb rfl), rfl⟩ bn))
    · exact nd rfl
    rintro i (hI' : i ≤ s.Length.toNat)
    show VRun _ _ _ [(3, (T.op 0 0)), (4, T.nils), (5, (tI g.Cols)), (6, (T.os 1 1 0 (((cellsS g s i).map (eInt true)).length))), (13, (tI s.Length)), (14, (tN i))] (mkO [(0, (Obj.cells (eSlot false s))), (1, (Obj.rows 1 ((cellsS g s i).map (eInt true))))]) 2 _
    have hI1 := hI'
    have hN := mulN (n := i) (c := g.Cols) (by omega) hB.1 hB.2
    have hcl := cellsS_len g s i
    refine sr (fO (xls (tv (tN i) rfl) (tv (tI s.Length) rfl)) (nt (sq ?_)))
    refine cd (((i : Nat) : Int) < s.Length) rfl (fun fhc1 => ?_) fun fhc1 => ?_
    · refine sk ?_
      refine tn (sq (VRun.block (sr (mO (tN i) rfl (aO (tN i) rfl (nt (VRun.region (mO (T.os 1 1 0 (((cellsS g s i).map (eInt true)).length)) rfl (lf (tI s.Cell) rfl fa138_2 rfl rfl st3 (mO (tN i) rfl (mO (tI g.Cols) rfl ?_)))))))))))
      refine fO (B.mul (n := (((i : Nat) : Int) * g.Cols)) (tv (tN i) rfl) (tv (tI g.Cols) rfl) (by (refine mulWn ?_ ?_ ?_ <;> omega))) (fO (B.add (n := (s.Cell + (((i : Nat) : Int) * g.Cols))) (tv (tI s.Cell) rfl) (tv (tI (((i : Nat) : Int) * g.Cols)) rfl) (by (rw [wrap64 (by omega)]; done))) (kO (OM.buildSlice (l := [(tI (s.Cell + (((i : Nat) : Int) * g.Cols)))]) (VEvp.cons (tv (tI (s.Cell + (((i : Nat) : Int) * g.Cols))) rfl) VEvp.nil) rfl (by decide) (bc (nofun) bn) (bc ((bc (rfl) bn)) bn) (bc (rfl) bn) U25 zo3 (by kernel_rfl) rfl (by rw [sz3]; decide) sz3 (Nat.le_of_ble_eq_true rfl)) (cO (B.append (rows := ((cellsS g s i).map (eInt true))) (rows2 := [[(tI (s.Cell + (((i : Nat) : Int) * g.Cols)))]]) (rows3 := ((cellsS g s i ++ [(s.Cell + (((i : Nat) : Int) * g.Cols))]).map (eInt true))) (VDst.own (tv (T.os 1 1 0 (((cellsS g s i).map (eInt true)).length)) rfl) rfl rfl) (VSrc.own (tv (T.os 1 2 0 1) rfl) rfl rfl U25 (bc (bc rfl bn) bn)) (by decide) U25 sz3 (by decide) zo3 rfl (of_decide_eq_true (by kernel_rfl)) (by (simp only [List.length_map, List.length_append, List.length_cons, List.length_nil, List.length_replicate, List.length_set, List.length_drop, List.length_take, lim] at *; omega)) ((List.map_append (f := eInt true) (l₁ := cellsS g s i) (l₂ := [(s.Cell + (((i : Nat) : Int) * g.Cols))])).symm)) (aO (T.os 1 3 0 (((cellsS g s i ++ [(s.Cell + (((i : Nat) : Int) * g.Cols))]).map (eInt true)).length)) rfl (VRunO.nil (vinB.n (tn (VRun.region (fO (xinc (tv (tN i) rfl) (VEv.int .i64 1) (by omega)) (mO (tN (i + 1)) rfl (VRunO.nil ?_)))))))))))
      refine tn ?_
      have he2 : (cellsS g s i ++ [(s.Cell + (((i : Nat) : Int) * g.Cols))]) = cellsS g s (i + 1) := by rw [cellsS_next, stepS, if_pos fhc0]
      refine ⟨(i + 1 : Nat), ?_, ?_, Wk.mk (fun k => if k = 1 then 3 else  k) ?_ ?_ ?_⟩
      · omega
      · omega
      · exact (b2 (b2 (b2 (bc ⟨(congrArg (fun l_ => T.os 1 3 0 (List.map (eInt true) l_).length) he2), rfl⟩ (b2 (b2 bn))))))
      · exact (b3 (bc ⟨(congrArg (fun l_ => some (Obj.rows 1 (List.map (eInt true) l_))) he2), (lb rfl), rfl⟩ bn))
      · exact nd rfl
    refine VRun.exit (vthn.e (vthn.e (vinB.e (tn (sr (mO (T.os 1 1 0 (((cellsS g s i).map (eInt true)).length)) rfl (aO (T.os 1 1 0 (((cellsS g s i).map (eInt true)).length)) rfl (nt (rt ?_)))))))))
    refine vfin.eq (r' := (T.sl true 1 ((cellsS g s i).map (eInt true)))) ?_ (vfin.r (VRes.tmp (t := (T.os 1 1 0 (((cellsS g s i).map (eInt true)).length))) rfl VRes.nil) (Give.os rfl rfl (okInt.cleanMap _)))
    show (T.sl true 1 ((cellsS g s i).map (eInt true))) = (T.sl true 1 ((cellsS g s s.Length.toNat).map (eInt true)))
    refine congrArg (fun l_ => T.sl true 1 (List.map (eInt true) l_)) ?_
    rw [show i = s.Length.toNat from by omega]
  have fhc0 : s.Down = false := hc0
  refine sk (tn (sr (fO (OF.assign VEv.nils) (nt (sq (sr (lf (tI s.Length) rfl fa138_3 rfl rfl st3 (fO (OF.move (VEv.int .i64 0)) (nt (VRun.block (VRun.wk (Wk.phantom 6 1 rfl) ?_)))))))))))
  have he3 : [] = ((cellsS g s 0).map (eInt true)) := by rfl
  refine VRun.loop (A := Nat) (fun s_ => [(3, (T.op 0 0)), (4, T.nils), (5, (tN 1)), (6, (T.os 1 1 0 (((cellsS g s s_).map (eInt true)).length))), (13, (tI s.Length)), (14, (tN s_))]) (fun s_ => mkO [(0, (Obj.cells (eSlot false s))), (1, (Obj.rows 1 ((cellsS g s s_).map (eInt true))))]) 2 (fun s_ => s_ ≤ s.Length.toNat) (fun s_ => s.Length.toNat - s_) (0 : Nat) ?_ (Wk.mk (fun k => if k = 0 then 1 else if k = 1 then 2 else  k) ?_ ?_ ?_) ?_
  · (simp; done)
  · exact (b2 (b2 (b2 (bc ⟨(congrArg (fun n_ => T.os 1 2 0 n_) (show 0 = ((cellsS g s 0).map (eInt true)).length from (by rfl))), rfl⟩ (b2 (b2 bn))))))
  · exact (b3 (bc ⟨(congrArg (fun l_ => some (Obj.rows 1 l_)) he3), (lb rfl), rfl⟩ bn))
  · exact nd rfl
  rintro i (hI' : i ≤ s.Length.toNat)
  show VRun _ _ _ [(3, (T.op 0 0)), (4, T.nils), (5, (tN 1)), (6, (T.os 1 1 0 (((cellsS g s i).map (eInt true)).length))), (13, (tI s.Length)), (14, (tN i))] (mkO [(0, (Obj.cells (eSlot false s))), (1, (Obj.rows 1 ((cellsS g s i).map (eInt true))))]) 2 _
  have hI1 := hI'
  have hN := mulN (n := i) (c := g.Cols) (by omega) hB.1 hB.2
  have hcl := cellsS_len g s i
  refine sr (fO (xls (tv (tN i) rfl) (tv (tI s.Length) rfl)) (nt (sq ?_)))
  refine cd (((i : Nat) : Int) < s.Length) rfl (fun fhc1 => ?_) fun fhc1 => ?_
  · refine sk ?_
    refine tn (sq (VRun.block (sr (mO (tN i) rfl (aO (tN i) rfl (nt (VRun.region (mO (T.os 1 1 0 (((cellsS g s i).map (eInt true)).length)) rfl (lf (tI s.Cell) rfl fa138_2 rfl rfl st3 (mO (tN i) rfl (mO (tN 1) rfl ?_)))))))))))
    refine fO (B.mul (n := (((i * 1) : Nat) : Int)) (tv (tN i) rfl) (tv (tN 1) rfl) (by (rw [wrap64 (by omega)]; omega))) (fO (B.add (n := (s.Cell + (((i * 1) : Nat) : Int))) (tv (tI s.Cell) rfl) (tv (tN (i * 1)) rfl) (by (rw [wrap64 (by omega)]; done))) (kO (OM.buildSlice (l := [(tI (s.Cell + (((i * 1) : Nat) : Int)))]) (VEvp.cons (tv (tI (s.Cell + (((i * 1) : Nat) : Int))) rfl) VEvp.nil) rfl (by decide) (bc (nofun) bn) (bc ((bc (rfl) bn)) bn) (bc (rfl) bn) U25 zo3 (by kernel_rfl) rfl (by rw [sz3]; decide) sz3 (Nat.le_of_ble_eq_true rfl)) (cO (B.append (rows := ((cellsS g s i).map (eInt true))) (rows2 := [[(tI (s.Cell + (((i * 1) : Nat) : Int)))]]) (rows3 := ((cellsS g s i ++ [(s.Cell + (((i * 1) : Nat) : Int))]).map (eInt true))) (VDst.own (tv (T.os 1 1 0 (((cellsS g s i).map (eInt true)).length)) rfl) rfl rfl) (VSrc.own (tv (T.os 1 2 0 1) rfl) rfl rfl U25 (bc (bc rfl bn) bn)) (by decide) U25 sz3 (by decide) zo3 rfl (of_decide_eq_true (by kernel_rfl)) (by (simp only [List.length_map, List.length_append, List.length_cons, List.length_nil, List.length_replicate, List.length_set, List.length_drop, List.length_take, lim] at *; omega)) ((List.map_append (f := eInt true) (l₁ := cellsS g s i) (l₂ := [(s.Cell + (((i * 1) : Nat) : Int))])).symm)) (aO (T.os 1 3 0 (((cellsS g s i ++ [(s.Cell + (((i * 1) : Nat) : Int))]).map (eInt true)).length)) rfl (VRunO.nil (vinB.n (tn (VRun.region (fO (xinc (tv (tN i) rfl) (VEv.int .i64 1) (by omega)) (mO (tN (i + 1)) rfl (VRunO.nil ?_)))))))))))
    refine tn ?_
    have he4 : (cellsS g s i ++ [(s.Cell + (((i * 1) : Nat) : Int))]) = cellsS g s (i + 1) := by (rw [cellsS_next, stepS, fhc0]; rfl)
    refine ⟨(i + 1 : Nat), ?_, ?_, Wk.mk (fun k => if k = 1 then 3 else  k) ?_ ?_ ?_⟩
    · omega
    · omega
    · exact (b2 (b2 (b2 (bc ⟨(congrArg (fun l_ => T.os 1 3 0 (List.map (eInt true) l_).length) he4), rfl⟩ (b2 (b2 bn))))))
    · exact (b3 (bc ⟨(congrArg (fun l_ => some (Obj.rows 1 (List.map (eInt true) l_))) he4), (lb rfl), rfl⟩ bn))
    · exact nd rfl
  refine VRun.exit (vthn.e (vthn.e (vinB.e (tn (sr (mO (T.os 1 1 0 (((cellsS g s i).map (eInt true)).length)) rfl (aO (T.os 1 1 0 (((cellsS g s i).map (eInt true)).length)) rfl (nt (rt ?_)))))))))
  refine vfin.eq (r' := (T.sl true 1 ((cellsS g s i).map (eInt true)))) ?_ (vfin.r (VRes.tmp (t := (T.os 1 1 0 (((cellsS g s i).map (eInt true)).length))) rfl VRes.nil) (Give.os rfl rfl (okInt.cleanMap _)))
  show (T.sl true 1 ((cellsS g s i).map (eInt true))) = (T.sl true 1 ((cellsS g s s.Length.toNat).map (eInt true)))
  refine congrArg (fun l_ => T.sl true 1 (List.map (eInt true) l_)) ?_
  rw [show i = s.Length.toNat from by omega]
noncomputable section
def layG (g : D.Grid) : List (List Int) := (slotsG g).map fun s => cellsS g s s.Length.toNat
theorem layG_next {g : D.Grid} {i : Nat} {s : D.Slot} (h : (slotsG g)[i]? = some s) : (layG g).take (i + 1) = (layG g).take i ++ [cellsS g s s.Length.toNat] := by
  unfold layG
  rw [List.take_add_one, List.getElem?_map, h]
  rfl
theorem layG_len (g : D.Grid) : (layG g).length = (slotsG g).length := by simp [layG]
end
theorem W_impl_layout (n : Nat) (g : D.Grid) (hc : g.Cells.size ≤ maxLen) : Pure (acall Tryz.prog (n + 4)) 148 [(T.agg (eGrid false g))] (T.sl true 1 ((layG g).map ((eSl 1 eInt) true))) := by
  refine Pure.intro (rs := [ResultVar.tmp 2]) Tryz.func148 rfl rfl rfl (E0 := [(0, (T.agg (eGrid false g)))]) rfl ?_
  obtain ⟨hlim, hmx, hmax⟩ := lims
  have hsl := slotsG_len g
  have hll := layG_len g
  refine sr (kO (B.box (ts := (eGrid false g)) (tv (T.agg (eGrid false g)) rfl) nofun rfl) (fO (OF.assign VEv.nils) (nt (sr (fO (OF.assign VEv.nils) (nt (sq (sr (lO (OL.loadOn (us := (eGrid false g)) (tv (T.op 0 0) rfl) rfl st34 sz34 (lb rfl) rfl) (cO (OC.callF (us := [(T.agg (eGrid false g))]) (r := (T.sl true 4 ((slotsG g).map (eSlot true)))) (r' := (T.os 4 1 0 (((slotsG g).map (eSlot true)).length))) (objs := [(Obj.rows 4 ((slotsG g).map (eSlot true)))]) rfl (vc (tv (T.agg (eGrid false g)) rfl) vn) (LendL.cons (lg okeGrid) ln) (W_impl_SlotsOf (n + 0) g (by assumption)) rfl) (lO (B.lenO (m := (slotsG g).length) (tv (T.os 4 1 0 (((slotsG g).map (eSlot true)).length)) rfl) U123 (List.length_map ..)) ?_)))))))))))
  refine fO (OF.move (VEv.int .i64 0)) (nt (VRun.block (VRun.wk (Wk.phantom 3 1 rfl) ?_)))
  have he1 : [] = (((layG g).take 0).map ((eSl 1 eInt) true)) := by rfl
  refine VRun.loop (A := Nat) (fun s_ => [(1, (T.op 0 0)), (2, T.nils), (3, (T.os 1 2 0 ((((layG g).take s_).map ((eSl 1 eInt) true)).length))), (7, (T.os 4 1 0 (((slotsG g).map (eSlot true)).length))), (8, (tN ((slotsG g).length))), (9, (tN s_))]) (fun s_ => mkO [(0, (Obj.cells (eGrid false g))), (1, (Obj.rows 4 ((slotsG g).map (eSlot true)))), (2, (Obj.rows 1 (((layG g).take s_).map ((eSl 1 eInt) true))))]) 3 (fun s_ => s_ ≤ (slotsG g).length) (fun s_ => (slotsG g).length - s_) (0 : Nat) ?_ (Wk.mk (fun k => k) ?_ ?_ ?_) ?_
  · (simp; done)
  · exact (b2 (b2 (bc ⟨(congrArg (fun n_ => T.os 1 2 0 n_) (show 0 = (((layG g).take 0).map ((eSl 1 eInt) true)).length from (by rfl))), rfl⟩ (b2 (b2 (b2 bn))))))
  · exact (b3 (b3 (bc ⟨(congrArg (fun l_ => some (Obj.rows 1 l_)) he1), (lb rfl), rfl⟩ bn)))
  · exact nd rfl
  rintro i (hI' : i ≤ (slotsG g).length)
  show VRun _ _ _ [(1, (T.op 0 0)), (2, T.nils), (3, (T.os 1 2 0 ((((layG g).take i).map ((eSl 1 eInt) true)).length))), (7, (T.os 4 1 0 (((slotsG g).map (eSlot true)).length))), (8, (tN ((slotsG g).length))), (9, (tN i))] (mkO [(0, (Obj.cells (eGrid false g))), (1, (Obj.rows 4 ((slotsG g).map (eSlot true)))), (2, (Obj.rows 1 (((layG g).take i).map ((eSl 1 eInt) true))))]) 3 _
  have hI1 := hI'
  refine sr (fO (xls' (tv (tN i) rfl) (tv (tN ((slotsG g).length)) rfl)) (nt (sq ?_)))
  refine cd (i < (slotsG g).length) rfl (fun fhc0 => ?_) fun fhc0 => ?_
  · refine sk ?_
    refine tn (sq (VRun.block (sr ?_)))
    obtain ⟨x1, hx1⟩ : ∃ x, (slotsG g)[i]? = some x := ⟨_, List.getElem?_eq_getElem (by omega)⟩
    refine fO (B.indexAddrO (i := i) (tv (T.os 4 1 0 (((slotsG g).map (eSlot true)).length)) rfl) (tv (tN i) rfl) rfl (by (simp only [List.length_map]; omega)) U123 sz138 if138) (lO (OL.loadPn (us := (eSlot false x1)) (row := (eSlot true x1)) (tv (T.orp 4 1 i 0) rfl) rfl (map_at _ hx1) st138 sz138 (lb rfl) rfl (bc rfl (bc rfl (bc rfl (bc rfl bn))))) (kO (B.alloc (t := (T.agg [(tN 0), (tB false), (tN 0), (tN 0)])) (ts := [(tN 0), (tB false), (tN 0), (tN 0)]) zo138 zc138 nofun (fun _ => .agg _ _ rfl (RLof (RL.cons (.int _ _) (RL.cons (.bool _) (RL.cons (.int _ _) (RL.cons (.int _ _) (RL.nil _))))))) rfl) (cO (B.storeO (us := (eSlot false x1)) (ws := (eSlot false x1)) (tv (T.op 3 0) rfl) (tv (T.agg (eSlot false x1)) rfl) nofun rfl rfl (lb rfl) if138 sz138 (bc rfl (bc rfl (bc rfl (bc rfl bn)))) rfl) (nt (VRun.region (mO (T.os 1 2 0 ((((layG g).take i).map ((eSl 1 eInt) true)).length)) rfl (lO (OL.loadOn (us := (eGrid false g)) (tv (T.op 0 0) rfl) rfl st34 sz34 (lb rfl) rfl) (lO (OL.loadOn (us := (eSlot false x1)) (tv (T.op 3 0) rfl) rfl st138 sz138 (lb rfl) rfl) (cO (OC.callF (us := [(T.agg (eGrid false g)), (T.agg (eSlot false x1))]) (r := (T.sl true 1 ((cellsS g x1 x1.Length.toNat).map (eInt true)))) (r' := (T.os 1 4 0 (((cellsS g x1 x1.Length.toNat).map (eInt true)).length))) (objs := [(Obj.rows 1 ((cellsS g x1 x1.Length.toNat).map (eInt true)))]) rfl (vc (tv (T.agg (eGrid false g)) rfl) (vc (tv (T.agg (eSlot false x1)) rfl) vn)) (LendL.cons (lg okeGrid) (LendL.cons (lg okeSlot) ln)) (W_impl_cells (n + 2) g x1 (by exact slotsG_ok (List.mem_of_getElem? hx1))) rfl) ?_)))))))))
    refine B.sliceB (t := (T.os 1 4 0 (((cellsS g x1 x1.Length.toNat).map (eInt true)).length))) (us := [(T.os 1 4 0 (((cellsS g x1 x1.Length.toNat).map (eInt true)).length))]) (rows := [[(T.sl true 1 ((cellsS g x1 x1.Length.toNat).map (eInt true)))]]) VWant.always (VEvp.cons (tv (T.os 1 4 0 (((cellsS g x1 x1.Length.toNat).map (eInt true)).length)) rfl) VEvp.nil) nofun rfl (Bury.os rfl rfl Bury.nil (by decide)) rfl (bc rfl bn) rfl U150 zo25 (by kernel_rfl) rfl (by rw [sz25]; decide) sz25 (Nat.le_of_ble_eq_true rfl) ?_
    refine cO (B.append (rows := (((layG g).take i).map ((eSl 1 eInt) true))) (rows2 := [[(T.sl true 1 ((cellsS g x1 x1.Length.toNat).map (eInt true)))]]) (rows3 := (((layG g).take i ++ [cellsS g x1 x1.Length.toNat]).map ((eSl 1 eInt) true))) (VDst.own (tv (T.os 1 2 0 ((((layG g).take i).map ((eSl 1 eInt) true)).length)) rfl) rfl rfl) (VSrc.own (tv (T.os 1 5 0 1) rfl) rfl rfl U150 (bc (bc rfl bn) bn)) (by decide) U150 sz25 (by decide) zo25 rfl (of_decide_eq_true (by kernel_rfl)) (by (rw [List.length_map, List.length_take]; simp only [List.length_cons, List.length_nil]; omega)) ((List.map_append (f := (eSl 1 eInt) true) (l₁ := (layG g).take i) (l₂ := [cellsS g x1 x1.Length.toNat])).symm)) (aO (T.os 1 6 0 ((((layG g).take i ++ [cellsS g x1 x1.Length.toNat]).map ((eSl 1 eInt) true)).length)) rfl (VRunO.nil (vinB.n (tn (VRun.region (fO (xinc (tv (tN i) rfl) (VEv.int .i64 1) (by omega)) (mO (tN (i + 1)) rfl (VRunO.nil (tn ?_)))))))))
    have he2 : ((layG g).take i ++ [cellsS g x1 x1.Length.toNat]) = (layG g).take (i + 1) := by exact (layG_next hx1).symm
    refine ⟨(i + 1 : Nat), ?_, ?_, Wk.mk (fun k => if k = 2 then 6 else  k) ?_ ?_ ?_⟩
    · trivial
    · omega
    · exact (b2 (b2 (bc ⟨(congrArg (fun l_ => T.os 1 6 0 (List.map ((eSl 1 eInt) true) l_).length) he2), rfl⟩ (b2 (b2 (b2 bn))))))
    · exact (b3 (b3 (bc ⟨(congrArg (fun l_ => some (Obj.rows 1 (List.map ((eSl 1 eInt) true) l_))) he2), (lb rfl), rfl⟩ bn)))
    · exact nd rfl
  refine VRun.exit (vthn.e (vthn.e (vinB.e (tn (sr (mO (T.os 1 2 0 ((((layG g).take i).map ((eSl 1 eInt) true)).length)) rfl (aO (T.os 1 2 0 ((((layG g).take i).map ((eSl 1 eInt) true)).length)) rfl (nt (rt ?_)))))))))
  refine vfin.eq (r' := (T.sl true 1 (((layG g).take i).map ((eSl 1 eInt) true)))) ?_ (vfin.r (VRes.tmp (t := (T.os 1 2 0 ((((layG g).take i).map ((eSl 1 eInt) true)).length))) rfl VRes.nil) (Give.os rfl rfl ((okSl okInt).cleanMap _)))
  show (T.sl true 1 (((layG g).take i).map ((eSl 1 eInt) true))) = (T.sl true 1 ((layG g).map ((eSl 1 eInt) true)))
  refine congrArg (fun l_ => T.sl true 1 (List.map ((eSl 1 eInt) true) l_)) ?_
  rw [List.take_of_length_le (by omega)]
end Go.Proofs.YtcccmceoplcciaaGreat.AE
namespace Go.Proofs.YtcccmceoplcciaaGreat.AE
open Go Go.RowKit
set_option linter.unusedVariables false
set_option linter.unusedSimpArgs false
set_option maxRecDepth 20000
set_option maxHeartbeats 2000000
noncomputable section
theorem slotsN_cell (g : D.Grid) : ∀ i, ∀ s ∈ (slotsN g i).1, s.Cell < ((i : Nat) : Int)
  | 0, s, hs => by simp [slotsN] at hs
  | i + 1, s, hs => by
    rw [slotsN1, List.mem_append, List.mem_append] at hs
    rcases hs with (hs | hs) | hs
    · have := slotsN_cell g i s hs
      omega
    · split at hs
      · obtain rfl := List.mem_singleton.1 hs
        simp only; omega
      · cases hs
    · split at hs
      · obtain rfl := List.mem_singleton.1 hs
        simp only; omega
      · cases hs
theorem slotsN_nodup (g : D.Grid) : ∀ i, (slotsN g i).1.Nodup
  | 0 => by simp [slotsN]
  | i + 1 => by
    have h := slotsN_cell g i
    rw [slotsN1, List.nodup_append, List.nodup_append]
    refine ⟨⟨slotsN_nodup g i, by split <;> simp, fun a ha b hb e => ?_⟩, by split <;> simp, fun a ha b hb e => ?_⟩
    · split at hb
      · obtain rfl := List.mem_singleton.1 hb
        have := h a ha
        rw [e] at this
        simp only at this
        omega
      · cases hb
    · split at hb
      · obtain rfl := List.mem_singleton.1 hb
        rcases List.mem_append.1 ha with ha | ha
        · have := h a ha
          rw [e] at this
          simp only at this
          omega
        · split at ha
          · obtain rfl := List.mem_singleton.1 ha
            cases e
          · cases ha
      · cases hb
theorem slotsG_nodup (g : D.Grid) : (slotsG g).Nodup := by
  unfold slotsG
  split
  · exact slotsN_nodup g _
  · simp
def hitN (g : D.Grid) (s : D.Slot) (i : Nat) : List Int := if s ∈ (slotsG g).take i then cellsS g s s.Length.toNat else []
theorem hit_no {g : D.Grid} {s x : D.Slot} {i : Nat} (h : (slotsG g)[i]? = some x) (hn : ¬ x = s) : hitN g s (i + 1) = hitN g s i := by
  unfold hitN
  rw [List.take_add_one, h]
  simp [show ¬ s = x from fun e => hn e.symm]
theorem hit_zero {g : D.Grid} {s x : D.Slot} {i : Nat} (h : (slotsG g)[i]? = some x) (hn : x = s) : hitN g s i = [] := by
  subst hn
  refine if_neg fun hm => ?_
  have hd := slotsG_nodup g
  have hi := (List.getElem?_eq_some_iff.1 h).1
  rw [← List.take_append_drop i (slotsG g), List.nodup_append] at hd
  refine hd.2.2 x hm x ?_ rfl
  rw [List.drop_eq_getElem_cons hi, (List.getElem?_eq_some_iff.1 h).2]
  exact List.mem_cons_self
theorem hit_yes {g : D.Grid} {s x : D.Slot} {i : Nat} (h : (slotsG g)[i]? = some x) (hn : x = s) : hitN g s (i + 1) = cellsS g s s.Length.toNat := by
  subst hn
  refine if_pos ?_
  rw [List.take_add_one, h]
  simp
theorem hit_end {g : D.Grid} {s x : D.Slot} {i k : Nat} (h : (slotsG g)[i]? = some x) (hn : x = s) (h1 : ¬ ((k : Nat) : Int) < s.Length) (h2 : k ≤ s.Length.toNat) : cellsS g s k = hitN g s (i + 1) := by
  rw [hit_yes h hn, show k = s.Length.toNat by omega]
theorem hit_all (g : D.Grid) (s : D.Slot) {i : Nat} (h : (slotsG g).length ≤ i) : hitN g s i = if s ∈ slotsG g then cellsS g s s.Length.toNat else [] := by
  rw [hitN, List.take_of_length_le h]
end
theorem W_spec_CellsOf (n : Nat) (g : D.Grid) (s : D.Slot) (hc : g.Cells.size ≤ maxLen) : Pure (acall Tryz.prog (n + 4)) 124 [(T.agg (eGrid false g)), (T.agg (eSlot false s))] (T.sl true 1 ((if s ∈ slotsG g then cellsS g s s.Length.toNat else []).map (eInt true))) := by
  refine Pure.intro (rs := [ResultVar.tmp 4]) Tryz.func124 rfl rfl rfl (E0 := [(0, (T.agg (eGrid false g))), (1, (T.agg (eSlot false s)))]) rfl ?_
  obtain ⟨hlim, hmx, hmax⟩ := lims
  have hsl := slotsG_len g
  refine sr (kO (B.box (ts := (eGrid false g)) (tv (T.agg (eGrid false g)) rfl) nofun rfl) (kO (B.box (ts := (eSlot false s)) (tv (T.agg (eSlot false s)) rfl) nofun rfl) (fO (OF.assign VEv.nils) (nt (sr (kO (OM.slice0 U25 zo3 (by kernel_rfl) rfl (by rw [sz3]; decide) sz3) (aO (T.os 1 2 0 0) rfl (nt (sr (lO (OL.loadOn (us := (eGrid false g)) (tv (T.op 0 0) rfl) rfl st34 sz34 (lb rfl) rfl) (cO (OC.callF (us := [(T.agg (eGrid false g))]) (r := (T.sl true 4 ((slotsG g).map (eSlot true)))) (r' := (T.os 4 3 0 (((slotsG g).map (eSlot true)).length))) (objs := [(Obj.rows 4 ((slotsG g).map (eSlot true)))]) rfl (vc (tv (T.agg (eGrid false g)) rfl) vn) (LendL.cons (lg okeGrid) ln) (W_spec_SlotsOf (n + 0) g (by assumption)) rfl) ?_)))))))))))
  refine aO (T.os 4 3 0 (((slotsG g).map (eSlot true)).length)) rfl (nt (sq (sr (fO (OF.assign (VEv.int .i64 0)) (nt (VRun.block ?_))))))
  have he1 : [] = ((hitN g s 0).map (eInt true)) := by rfl
  refine VRun.loop (A := Nat) (fun s_ => [(2, (T.op 0 0)), (3, (T.op 1 0)), (4, T.nils), (5, (T.os 1 3 0 (((hitN g s s_).map (eInt true)).length))), (6, (T.os 4 2 0 (((slotsG g).map (eSlot true)).length))), (7, (tN s_))]) (fun s_ => mkO [(0, (Obj.cells (eGrid false g))), (1, (Obj.cells (eSlot false s))), (2, (Obj.rows 4 ((slotsG g).map (eSlot true)))), (3, (Obj.rows 1 ((hitN g s s_).map (eInt true))))]) 4 (fun s_ => s_ ≤ (slotsG g).length) (fun s_ => (slotsG g).length - s_) (0 : Nat) ?_ (Wk.mk (fun k => if k = 2 then 3 else if k = 3 then 2 else  k) ?_ ?_ ?_) ?_
  · (simp; done)
  · exact (b2 (b2 (b2 (bc ⟨(congrArg (fun n_ => T.os 1 2 0 n_) (show 0 = ((hitN g s 0).map (eInt true)).length from (by rfl))), rfl⟩ (b2 (b2 bn))))))
  · exact (b3 (b3 (b3 (bc ⟨(congrArg (fun l_ => some (Obj.rows 1 l_)) he1), (lb rfl), rfl⟩ bn))))
  · exact nd rfl
  rintro i (hI' : i ≤ (slotsG g).length)
  show VRun _ _ _ [(2, (T.op 0 0)), (3, (T.op 1 0)), (4, T.nils), (5, (T.os 1 3 0 (((hitN g s i).map (eInt true)).length))), (6, (T.os 4 2 0 (((slotsG g).map (eSlot true)).length))), (7, (tN i))] (mkO [(0, (Obj.cells (eGrid false g))), (1, (Obj.cells (eSlot false s))), (2, (Obj.rows 4 ((slotsG g).map (eSlot true)))), (3, (Obj.rows 1 ((hitN g s i).map (eInt true))))]) 4 _
  have hI1 := hI'
  refine sq (sr (mO (tN i) rfl (mO (T.os 4 2 0 (((slotsG g).map (eSlot true)).length)) rfl (lO (B.lenO (m := (slotsG g).length) (tv (T.os 4 2 0 (((slotsG g).map (eSlot true)).length)) rfl) U123 (List.length_map ..)) (fO (xls' (tv (tN i) rfl) (tv (tN ((slotsG g).length)) rfl)) (nt ?_))))))
  refine cd (i < (slotsG g).length) rfl (fun fhc0 => ?_) fun fhc0 => ?_
  · refine sk ?_
    refine tn (sq (VRun.block (sq (sq (VRun.draw (B := [[], [], [1, 0], [0, 1, 2], [], [4, 2, 1, 0, 3]]) (by kernel_rfl) (by kernel_rfl) (mD (T.os 4 2 0 (((slotsG g).map (eSlot true)).length)) rfl rfl (mD (tN i) rfl rfl ?_)))))))
    obtain ⟨x1, hx1⟩ : ∃ x, (slotsG g)[i]? = some x := ⟨_, List.getElem?_eq_getElem (by omega)⟩
    refine fD (B.indexAddrO (i := i) (tv (T.os 4 2 0 (((slotsG g).map (eSlot true)).length)) rfl) (tv (tN i) rfl) rfl (by (simp only [List.length_map]; omega)) U123 sz138 if138) rfl rfl (lD (OL.loadPn (us := (eSlot false x1)) (row := (eSlot true x1)) (tv (T.orp 4 2 i 0) rfl) rfl (map_at _ hx1) st138 sz138 (lb rfl) rfl (bc rfl (bc rfl (bc rfl (bc rfl bn))))) rfl rfl (lD (OL.loadOn (us := (eSlot false s)) (tv (T.op 1 0) rfl) rfl st138 sz138 (lb rfl) rfl) rfl rfl (fD (B.neq138 (a := x1) (b := s) (m := false) (m' := false) (tv (T.agg (eSlot false x1)) rfl) (tv (T.agg (eSlot false s)) rfl)) rfl rfl (VRunD.nil (tn ?_)))))
    refine cn (x1 = s) rfl (fun fhc1 => ?_) fun fhc1 => ?_
    · refine VRun.exit ?_
      refine vthn.e (vinB.e (tn (VRun.region (mO (tN i) rfl (fO (xinc (tv (tN i) rfl) (VEv.int .i64 1) (by omega)) (aO (tN (i + 1)) rfl (VRunO.nil (tn ?_))))))))
      have he2 : hitN g s i = hitN g s (i + 1) := by exact (hit_no hx1 fhc1).symm
      refine ⟨(i + 1 : Nat), ?_, ?_, Wk.mk (fun k => k) ?_ ?_ ?_⟩
      · trivial
      · omega
      · exact (b2 (b2 (b2 (bc ⟨(congrArg (fun l_ => T.os 1 3 0 (List.map (eInt true) l_).length) he2), rfl⟩ (b2 (b2 bn))))))
      · exact (b3 (b3 (b3 (bc ⟨(congrArg (fun l_ => some (Obj.rows 1 (List.map (eInt true) l_))) he2), (lb rfl), rfl⟩ bn))))
      · exact nd rfl
    have hok : slotOk g s := fhc1 ▸ slotsG_ok (List.mem_of_getElem? hx1)
    obtain ⟨hg, hcc, hll⟩ := hok
    have hB := hg.2.1
    refine sk (tn (sr (fO (OF.assign (VEv.int .i64 0)) (nt (VRun.block ?_)))))
    have he3 : hitN g s i = cellsS g s 0 := by (rw [hit_zero hx1 fhc1]; rfl)
    refine VRun.loop (A := Nat) (fun s_ => [(2, (T.op 0 0)), (3, (T.op 1 0)), (4, T.nils), (5, (T.os 1 3 0 (((cellsS g s s_).map (eInt true)).length))), (6, (T.os 4 2 0 (((slotsG g).map (eSlot true)).length))), (7, (tN i)), (8, (tN s_))]) (fun s_ => mkO [(0, (Obj.cells (eGrid false g))), (1, (Obj.cells (eSlot false s))), (2, (Obj.rows 4 ((slotsG g).map (eSlot true)))), (3, (Obj.rows 1 ((cellsS g s s_).map (eInt true))))]) 4 (fun s_ => s_ ≤ s.Length.toNat) (fun s_ => s.Length.toNat - s_) (0 : Nat) ?_ (Wk.mk (fun k => k) ?_ ?_ ?_) ?_
    · (simp; done)
    · exact (b2 (b2 (b2 (bc ⟨(congrArg (fun l_ => T.os 1 3 0 (List.map (eInt true) l_).length) he3), rfl⟩ (b2 (b2 (b2 bn)))))))
    · exact (b3 (b3 (b3 (bc ⟨(congrArg (fun l_ => some (Obj.rows 1 (List.map (eInt true) l_))) he3), (lb rfl), rfl⟩ bn))))
    · exact nd rfl
    rintro k (hI' : k ≤ s.Length.toNat)
    show VRun _ _ _ [(2, (T.op 0 0)), (3, (T.op 1 0)), (4, T.nils), (5, (T.os 1 3 0 (((cellsS g s k).map (eInt true)).length))), (6, (T.os 4 2 0 (((slotsG g).map (eSlot true)).length))), (7, (tN i)), (8, (tN k))] (mkO [(0, (Obj.cells (eGrid false g))), (1, (Obj.cells (eSlot false s))), (2, (Obj.rows 4 ((slotsG g).map (eSlot true)))), (3, (Obj.rows 1 ((cellsS g s k).map (eInt true))))]) 4 _
    have hJ1 := hI'
    have hN := mulN (n := k) (c := g.Cols) (by omega) hB.1 hB.2
    have hcl := cellsS_len g s k
    refine sq (sr (mO (tN k) rfl (lf (tI s.Length) rfl fa138_3 rfl rfl st3 (fO (xls (tv (tN k) rfl) (tv (tI s.Length) rfl)) (nt ?_)))))
    refine cd (((k : Nat) : Int) < s.Length) rfl (fun fhc2 => ?_) fun fhc2 => ?_
    · refine sk ?_
      refine tn (sq (VRun.block (sr (lf (tB s.Down) rfl fa138_1 rfl rfl st4 (nt ?_)))))
      refine VRun.cond (tv (tB s.Down) rfl) (fun hc3 => ?_) (fun hc3 => ?_)
      · have fhc3 : s.Down = true := hc3
        refine VRun.region (mO (T.os 1 3 0 (((cellsS g s k).map (eInt true)).length)) rfl (lf (tI s.Cell) rfl fa138_2 rfl rfl st3 (mO (tN k) rfl (lf (tI g.Cols) rfl fa34_1 rfl rfl st3 (fO (B.mul (n := (((k : Nat) : Int) * g.Cols)) (tv (tN k) rfl) (tv (tI g.Cols) rfl) (by (refine mulWn ?_ ?_ ?_ <;> omega))) (fO (B.add (n := (s.Cell + (((k : Nat) : Int) * g.Cols))) (tv (tI s.Cell) rfl) (tv (tI (((k : Nat) : Int) * g.Cols)) rfl) (by (rw [wrap64 (by omega)]; done))) (kO (OM.buildSlice (l := [(tI (s.Cell + (((k : Nat) : Int) * g.Cols)))]) (VEvp.cons (tv (tI (s.Cell + (((k : Nat) : Int) * g.Cols))) rfl) VEvp.nil) rfl (by decide) (bc (nofun) bn) (bc ((bc (rfl) bn)) bn) (bc (rfl) bn) U25 zo3 (by kernel_rfl) rfl (by rw [sz3]; decide) sz3 (Nat.le_of_ble_eq_true rfl)) (cO (B.append (rows := ((cellsS g s k).map (eInt true))) (rows2 := [[(tI (s.Cell + (((k : Nat) : Int) * g.Cols)))]]) (rows3 := ((cellsS g s k ++ [(s.Cell + (((k : Nat) : Int) * g.Cols))]).map (eInt true))) (VDst.own (tv (T.os 1 3 0 (((cellsS g s k).map (eInt true)).length)) rfl) rfl rfl) (VSrc.own (tv (T.os 1 4 0 1) rfl) rfl rfl U25 (bc (bc rfl bn) bn)) (by decide) U25 sz3 (by decide) zo3 rfl (of_decide_eq_true (by kernel_rfl)) (by (simp only [List.length_map, List.length_append, List.length_cons, List.length_nil, List.length_replicate, List.length_set, List.length_drop, List.length_take, lim] at *; omega)) ((List.map_append (f := eInt true) (l₁ := cellsS g s k) (l₂ := [(s.Cell + (((k : Nat) : Int) * g.Cols))])).symm)) (aO (T.os 1 5 0 (((cellsS g s k ++ [(s.Cell + (((k : Nat) : Int) * g.Cols))]).map (eInt true)).length)) rfl (VRunO.nil (vinB.n ?_)))))))))))
        refine tn (VRun.region (mO (tN k) rfl (fO (xinc (tv (tN k) rfl) (VEv.int .i64 1) (by omega)) (aO (tN (k + 1)) rfl (VRunO.nil (tn ?_))))))
        have he4 : (cellsS g s k ++ [(s.Cell + (((k : Nat) : Int) * g.Cols))]) = cellsS g s (k + 1) := by rw [cellsS_next, stepS, if_pos fhc3]
        refine ⟨(k + 1 : Nat), ?_, ?_, Wk.mk (fun k => if k = 3 then 5 else  k) ?_ ?_ ?_⟩
        · omega
        · omega
        · exact (b2 (b2 (b2 (bc ⟨(congrArg (fun l_ => T.os 1 5 0 (List.map (eInt true) l_).length) he4), rfl⟩ (b2 (b2 (b2 bn)))))))
        · exact (b3 (b3 (b3 (bc ⟨(congrArg (fun l_ => some (Obj.rows 1 (List.map (eInt true) l_))) he4), (lb rfl), rfl⟩ bn))))
        · exact nd rfl
      have fhc3 : s.Down = false := hc3
      refine VRun.region (mO (T.os 1 3 0 (((cellsS g s k).map (eInt true)).length)) rfl (lf (tI s.Cell) rfl fa138_2 rfl rfl st3 (mO (tN k) rfl (fO (B.add (n := (s.Cell + ((k : Nat) : Int))) (tv (tI s.Cell) rfl) (tv (tN k) rfl) (by (rw [wrap64 (by omega)]; done))) (kO (OM.buildSlice (l := [(tI (s.Cell + ((k : Nat) : Int)))]) (VEvp.cons (tv (tI (s.Cell + ((k : Nat) : Int))) rfl) VEvp.nil) rfl (by decide) (bc (nofun) bn) (bc ((bc (rfl) bn)) bn) (bc (rfl) bn) U25 zo3 (by kernel_rfl) rfl (by rw [sz3]; decide) sz3 (Nat.le_of_ble_eq_true rfl)) (cO (B.append (rows := ((cellsS g s k).map (eInt true))) (rows2 := [[(tI (s.Cell + ((k : Nat) : Int)))]]) (rows3 := ((cellsS g s k ++ [(s.Cell + ((k : Nat) : Int))]).map (eInt true))) (VDst.own (tv (T.os 1 3 0 (((cellsS g s k).map (eInt true)).length)) rfl) rfl rfl) (VSrc.own (tv (T.os 1 4 0 1) rfl) rfl rfl U25 (bc (bc rfl bn) bn)) (by decide) U25 sz3 (by decide) zo3 rfl (of_decide_eq_true (by kernel_rfl)) (by (simp only [List.length_map, List.length_append, List.length_cons, List.length_nil, List.length_replicate, List.length_set, List.length_drop, List.length_take, lim] at *; omega)) ((List.map_append (f := eInt true) (l₁ := cellsS g s k) (l₂ := [(s.Cell + ((k : Nat) : Int))])).symm)) (aO (T.os 1 5 0 (((cellsS g s k ++ [(s.Cell + ((k : Nat) : Int))]).map (eInt true)).length)) rfl (VRunO.nil (vinB.n (tn (VRun.region ?_)))))))))))
      refine mO (tN k) rfl (fO (xinc (tv (tN k) rfl) (VEv.int .i64 1) (by omega)) (aO (tN (k + 1)) rfl (VRunO.nil (tn ?_))))
      have he5 : (cellsS g s k ++ [(s.Cell + ((k : Nat) : Int))]) = cellsS g s (k + 1) := by (rw [cellsS_next, stepS, fhc3]; simp; done)
      refine ⟨(k + 1 : Nat), ?_, ?_, Wk.mk (fun k => if k = 3 then 5 else  k) ?_ ?_ ?_⟩
      · omega
      · omega
      · exact (b2 (b2 (b2 (bc ⟨(congrArg (fun l_ => T.os 1 5 0 (List.map (eInt true) l_).length) he5), rfl⟩ (b2 (b2 (b2 bn)))))))
      · exact (b3 (b3 (b3 (bc ⟨(congrArg (fun l_ => some (Obj.rows 1 (List.map (eInt true) l_))) he5), (lb rfl), rfl⟩ bn))))
      · exact nd rfl
    refine VRun.exit (vthn.e (vthn.e (vinB.e (vinB.n (tn (VRun.region (mO (tN i) rfl (fO (xinc (tv (tN i) rfl) (VEv.int .i64 1) (by omega)) (aO (tN (i + 1)) rfl (VRunO.nil (tn ?_)))))))))))
    have he6 : cellsS g s k = hitN g s (i + 1) := by exact hit_end hx1 fhc1 fhc2 hJ1
    refine ⟨(i + 1 : Nat), ?_, ?_, Wk.mk (fun k => k) ?_ ?_ ?_⟩
    · trivial
    · omega
    · exact (b2 (b2 (b2 (bc ⟨(congrArg (fun l_ => T.os 1 3 0 (List.map (eInt true) l_).length) he6), rfl⟩ (b2 (b2 bn))))))
    · exact (b3 (b3 (b3 (bc ⟨(congrArg (fun l_ => some (Obj.rows 1 (List.map (eInt true) l_))) he6), (lb rfl), rfl⟩ bn))))
    · exact nd rfl
  refine VRun.exit (vthn.e (vthn.e (vinB.e (tn (sr (mO (T.os 1 3 0 (((hitN g s i).map (eInt true)).length)) rfl (aO (T.os 1 3 0 (((hitN g s i).map (eInt true)).length)) rfl (nt (rt ?_)))))))))
  refine vfin.eq (r' := (T.sl true 1 ((hitN g s i).map (eInt true)))) ?_ (vfin.r (VRes.tmp (t := (T.os 1 3 0 (((hitN g s i).map (eInt true)).length))) rfl VRes.nil) (Give.os rfl rfl (okInt.cleanMap _)))
  show (T.sl true 1 ((hitN g s i).map (eInt true))) = (T.sl true 1 ((if s ∈ slotsG g then cellsS g s s.Length.toNat else []).map (eInt true)))
  refine congrArg (fun l_ => T.sl true 1 (List.map (eInt true) l_)) ?_
  exact hit_all g s (by omega)
end Go.Proofs.YtcccmceoplcciaaGreat.AE
namespace Go.Proofs.YtcccmceoplcciaaGreat.AE
open Go Go.RowKit
set_option linter.unusedVariables false
set_option linter.unusedSimpArgs false
set_option maxRecDepth 20000
set_option maxHeartbeats 2000000
noncomputable section
def inS (g : D.Grid) (c : Int) (s : D.Slot) : Prop := c ∈ cellsS g s s.Length.toNat
instance (g : D.Grid) (c : Int) (s : D.Slot) : Decidable (inS g c s) := Classical.propDecidable _
def atL (g : D.Grid) (c : Int) : List D.Slot → Nat → List Int
  | [], _ => []
  | s :: r, n => (if inS g c s then [((n : Nat) : Int)] else []) ++ atL g c r (n + 1)
theorem atL_snoc (g : D.Grid) (c : Int) (s : D.Slot) : ∀ (l : List D.Slot) (n : Nat), atL g c (l ++ [s]) n = atL g c l n ++ (if inS g c s then [((n + l.length : Nat) : Int)] else [])
  | [], n => by simp [atL]
  | x :: r, n => by
    rw [List.cons_append, atL, atL, atL_snoc g c s r (n + 1), List.append_assoc]
    simp only [List.length_cons, show n + 1 + r.length = n + (r.length + 1) by omega]
def atG (g : D.Grid) (c : Int) (i : Nat) : List Int := atL g c ((slotsG g).take i) 0
theorem atG_next {g : D.Grid} {c : Int} {i : Nat} {s : D.Slot} (h : (slotsG g)[i]? = some s) : atG g c (i + 1) = atG g c i ++ (if inS g c s then [((i : Nat) : Int)] else []) := by
  have hi := (List.getElem?_eq_some_iff.1 h).1
  unfold atG
  rw [List.take_add_one, h, Option.toList_some, atL_snoc]
  simp [Nat.min_eq_left (Nat.le_of_lt hi)]
theorem atL_len (g : D.Grid) (c : Int) : ∀ (l : List D.Slot) (n : Nat), (atL g c l n).length ≤ l.length
  | [], n => by simp [atL]
  | x :: r, n => by
    have := atL_len g c r (n + 1)
    rw [atL, List.length_append, List.length_cons]
    split <;> simp only [List.length_cons, List.length_nil] <;> omega
theorem atG_len (g : D.Grid) (c : Int) (i : Nat) : (atG g c i).length ≤ (slotsG g).length := by
  have := atL_len g c ((slotsG g).take i) 0
  rw [List.length_take] at this
  unfold atG
  omega
theorem cof_in {g : D.Grid} {i : Nat} {s : D.Slot} (h : (slotsG g)[i]? = some s) : (if s ∈ slotsG g then cellsS g s s.Length.toNat else []) = cellsS g s s.Length.toNat := if_pos (List.mem_of_getElem? h)
theorem cof_len (g : D.Grid) (s : D.Slot) : (if s ∈ slotsG g then cellsS g s s.Length.toNat else []).length ≤ 6 := by
  split
  · rename_i h
    rw [cellsS_len]
    have := (slotsG_ok h).2.2.2
    omega
  · simp
end
theorem W_spec_SlotsAt (n : Nat) (g : D.Grid) (c : Int) (hc : g.Cells.size ≤ maxLen) : Pure (acall Tryz.prog (n + 5)) 159 [(T.agg (eGrid false g)), (tI c)] (T.sl true 1 ((atG g c (slotsG g).length).map (eInt true))) := by
  refine Pure.intro (rs := [ResultVar.tmp 4]) Tryz.func159 rfl rfl rfl (E0 := [(0, (T.agg (eGrid false g))), (1, (tI c))]) rfl ?_
  obtain ⟨hlim, hmx, hmax⟩ := lims
  have hsl := slotsG_len g
  refine sr (kO (B.box (ts := (eGrid false g)) (tv (T.agg (eGrid false g)) rfl) nofun rfl) (fO (OF.assign VEv.nils) (nt (sr (kO (OM.slice0 U25 zo3 (by kernel_rfl) rfl (by rw [sz3]; decide) sz3) (aO (T.os 1 1 0 0) rfl (nt (sr (lO (OL.loadOn (us := (eGrid false g)) (tv (T.op 0 0) rfl) rfl st34 sz34 (lb rfl) rfl) (cO (OC.callF (us := [(T.agg (eGrid false g))]) (r := (T.sl true 4 ((slotsG g).map (eSlot true)))) (r' := (T.os 4 2 0 (((slotsG g).map (eSlot true)).length))) (objs := [(Obj.rows 4 ((slotsG g).map (eSlot true)))]) rfl (vc (tv (T.agg (eGrid false g)) rfl) vn) (LendL.cons (lg okeGrid) ln) (W_spec_SlotsOf (n + 1) g (by assumption)) rfl) (aO (T.os 4 2 0 (((slotsG g).map (eSlot true)).length)) rfl ?_)))))))))))
  refine nt (sq (sr (fO (OF.assign (VEv.int .i64 0)) (nt (VRun.block ?_)))))
  have he1 : [] = ((atG g c 0).map (eInt true)) := by rfl
  refine VRun.loop (A := Nat) (fun s_ => [(1, (tI c)), (2, (T.op 0 0)), (4, T.nils), (5, (T.os 1 2 0 (((atG g c s_).map (eInt true)).length))), (6, (T.os 4 1 0 (((slotsG g).map (eSlot true)).length))), (7, (tN s_))]) (fun s_ => mkO [(0, (Obj.cells (eGrid false g))), (1, (Obj.rows 4 ((slotsG g).map (eSlot true)))), (2, (Obj.rows 1 ((atG g c s_).map (eInt true))))]) 3 (fun s_ => s_ ≤ (slotsG g).length) (fun s_ => (slotsG g).length - s_) (0 : Nat) ?_ (Wk.mk (fun k => if k = 1 then 2 else if k = 2 then 1 else  k) ?_ ?_ ?_) ?_
  · (simp; done)
  · exact (b2 (b2 (b2 (bc ⟨(congrArg (fun n_ => T.os 1 1 0 n_) (show 0 = ((atG g c 0).map (eInt true)).length from (by rfl))), rfl⟩ (b2 (b2 bn))))))
  · exact (b3 (b3 (bc ⟨(congrArg (fun l_ => some (Obj.rows 1 l_)) he1), (lb rfl), rfl⟩ bn)))
  · exact nd rfl
  rintro i (hI' : i ≤ (slotsG g).length)
  show VRun _ _ _ [(1, (tI c)), (2, (T.op 0 0)), (4, T.nils), (5, (T.os 1 2 0 (((atG g c i).map (eInt true)).length))), (6, (T.os 4 1 0 (((slotsG g).map (eSlot true)).length))), (7, (tN i))] (mkO [(0, (Obj.cells (eGrid false g))), (1, (Obj.rows 4 ((slotsG g).map (eSlot true)))), (2, (Obj.rows 1 ((atG g c i).map (eInt true))))]) 3 _
  have hI1 := hI'
  have hal := atG_len g c i
  refine sq (sr (mO (tN i) rfl (mO (T.os 4 1 0 (((slotsG g).map (eSlot true)).length)) rfl (lO (B.lenO (m := (slotsG g).length) (tv (T.os 4 1 0 (((slotsG g).map (eSlot true)).length)) rfl) U123 (List.length_map ..)) (fO (xls' (tv (tN i) rfl) (tv (tN ((slotsG g).length)) rfl)) (nt ?_))))))
  refine cd (i < (slotsG g).length) rfl (fun fhc0 => ?_) fun fhc0 => ?_
  · refine sk ?_
    refine tn (sq (VRun.block (sq (VRun.draw (B := [[], [], [], [2, 1], [1, 2, 3], [3, 2, 1, 4, 0], [], [6, 0, 4, 1, 2, 3, 5]]) (by kernel_rfl) (by kernel_rfl) (lD (OL.loadOn (us := (eGrid false g)) (tv (T.op 0 0) rfl) rfl st34 sz34 (lb rfl) rfl) rfl rfl (mD (T.os 4 1 0 (((slotsG g).map (eSlot true)).length)) rfl rfl (mD (tN i) rfl rfl ?_)))))))
    obtain ⟨x1, hx1⟩ : ∃ x, (slotsG g)[i]? = some x := ⟨_, List.getElem?_eq_getElem (by omega)⟩
    refine fD (B.indexAddrO (i := i) (tv (T.os 4 1 0 (((slotsG g).map (eSlot true)).length)) rfl) (tv (tN i) rfl) rfl (by (simp only [List.length_map]; omega)) U123 sz138 if138) rfl rfl (lD (OL.loadPn (us := (eSlot false x1)) (row := (eSlot true x1)) (tv (T.orp 4 1 i 0) rfl) rfl (map_at _ hx1) st138 sz138 (lb rfl) rfl (bc rfl (bc rfl (bc rfl (bc rfl bn))))) rfl rfl (VRunD.quiet (bi := [3, 2, 1, 4, 0]) rfl VWant.always rfl rfl rfl bn (OC.callF (us := [(T.agg (eGrid false g)), (T.agg (eSlot false x1))]) (r := (T.sl true 1 ((if x1 ∈ slotsG g then cellsS g x1 x1.Length.toNat else []).map (eInt true)))) (r' := (T.os 1 3 0 (((if x1 ∈ slotsG g then cellsS g x1 x1.Length.toNat else []).map (eInt true)).length))) (objs := [(Obj.rows 1 ((if x1 ∈ slotsG g then cellsS g x1 x1.Length.toNat else []).map (eInt true)))]) rfl (vc (tv (T.agg (eGrid false g)) rfl) (vc (tv (T.agg (eSlot false x1)) rfl) vn)) (LendL.cons (lg okeGrid) (LendL.cons (lg okeSlot) ln)) (W_spec_CellsOf (n + 0) g x1 (by assumption)) rfl) (mD (tI c) rfl rfl (VRunD.quiet (bi := [6, 0, 4, 1, 2, 3, 5]) rfl VWant.always rfl rfl rfl bn (cS (us := [(rd 1 eInt (if x1 ∈ slotsG g then cellsS g x1 x1.Length.toNat else [])), (tI c)]) (vc (tv (T.os 1 3 0 (((if x1 ∈ slotsG g then cellsS g x1 x1.Length.toNat else []).map (eInt true)).length)) rfl) (vc (tv (tI c) rfl) vn)) (LendL.cons (Lend.os rfl rfl (okInt.fzMap _ _)) (lp rfl ln)) (W_spec_l8Has (n + 3) (if x1 ∈ slotsG g then cellsS g x1 x1.Length.toNat else []) c (by exact Nat.le_trans (cof_len g _) (by decide))) rfl rfl) (VRunD.nil (tn ?_))))))
    refine cd (c ∈ (if x1 ∈ slotsG g then cellsS g x1 x1.Length.toNat else [])) rfl (fun fhc1 => ?_) fun fhc1 => ?_
    · rw [cof_in hx1] at fhc1
      have q1 : inS g c x1 := fhc1
      refine VRun.region (mO (T.os 1 2 0 (((atG g c i).map (eInt true)).length)) rfl (mO (tN i) rfl (kO (OM.buildSlice (l := [(tN i)]) (VEvp.cons (tv (tN i) rfl) VEvp.nil) rfl (by decide) (bc (nofun) bn) (bc ((bc (rfl) bn)) bn) (bc (rfl) bn) U25 zo3 (by kernel_rfl) rfl (by rw [sz3]; decide) sz3 (Nat.le_of_ble_eq_true rfl)) (cO (B.append (rows := ((atG g c i).map (eInt true))) (rows2 := [[(tN i)]]) (rows3 := ((atG g c i ++ [((i : Nat) : Int)]).map (eInt true))) (VDst.own (tv (T.os 1 2 0 (((atG g c i).map (eInt true)).length)) rfl) rfl rfl) (VSrc.own (tv (T.os 1 4 0 1) rfl) rfl rfl U25 (bc (bc rfl bn) bn)) (by decide) U25 sz3 (by decide) zo3 rfl (of_decide_eq_true (by kernel_rfl)) (by (simp only [List.length_map, List.length_append, List.length_cons, List.length_nil, List.length_replicate, List.length_set, List.length_drop, List.length_take, lim] at *; omega)) ((List.map_append (f := eInt true) (l₁ := atG g c i) (l₂ := [((i : Nat) : Int)])).symm)) (aO (T.os 1 5 0 (((atG g c i ++ [((i : Nat) : Int)]).map (eInt true)).length)) rfl (VRunO.nil (vinB.n (tn (VRun.region (mO (tN i) rfl (fO (xinc (tv (tN i) rfl) (VEv.int .i64 1) (by omega)) ?_)))))))))))
      refine aO (tN (i + 1)) rfl (VRunO.nil (tn ?_))
      have he2 : (atG g c i ++ [((i : Nat) : Int)]) = atG g c (i + 1) := by rw [atG_next hx1, if_pos q1]
      refine ⟨(i + 1 : Nat), ?_, ?_, Wk.mk (fun k => if k = 2 then 5 else  k) ?_ ?_ ?_⟩
      · trivial
      · omega
      · exact (b2 (b2 (b2 (bc ⟨(congrArg (fun l_ => T.os 1 5 0 (List.map (eInt true) l_).length) he2), rfl⟩ (b2 (b2 bn))))))
      · exact (b3 (b3 (bc ⟨(congrArg (fun l_ => some (Obj.rows 1 (List.map (eInt true) l_))) he2), (lb rfl), rfl⟩ bn)))
      · exact nd rfl
    rw [cof_in hx1] at fhc1
    have q1 : ¬ inS g c x1 := fhc1
    refine sk (vinB.n (tn (VRun.region (mO (tN i) rfl (fO (xinc (tv (tN i) rfl) (VEv.int .i64 1) (by omega)) (aO (tN (i + 1)) rfl (VRunO.nil (tn ?_))))))))
    have he3 : atG g c i = atG g c (i + 1) := by rw [atG_next hx1, if_neg q1, List.append_nil]
    refine ⟨(i + 1 : Nat), ?_, ?_, Wk.mk (fun k => k) ?_ ?_ ?_⟩
    · trivial
    · omega
    · exact (b2 (b2 (b2 (bc ⟨(congrArg (fun l_ => T.os 1 2 0 (List.map (eInt true) l_).length) he3), rfl⟩ (b2 (b2 bn))))))
    · exact (b3 (b3 (bc ⟨(congrArg (fun l_ => some (Obj.rows 1 (List.map (eInt true) l_))) he3), (lb rfl), rfl⟩ bn)))
    · exact nd rfl
  refine VRun.exit (vthn.e (vthn.e (vinB.e (tn (sr (mO (T.os 1 2 0 (((atG g c i).map (eInt true)).length)) rfl (aO (T.os 1 2 0 (((atG g c i).map (eInt true)).length)) rfl (nt (rt ?_)))))))))
  refine vfin.eq (r' := (T.sl true 1 ((atG g c i).map (eInt true)))) ?_ (vfin.r (VRes.tmp (t := (T.os 1 2 0 (((atG g c i).map (eInt true)).length))) rfl VRes.nil) (Give.os rfl rfl (okInt.cleanMap _)))
  show (T.sl true 1 ((atG g c i).map (eInt true))) = (T.sl true 1 ((atG g c (slotsG g).length).map (eInt true)))
  refine congrArg (fun l_ => T.sl true 1 (List.map (eInt true) l_)) ?_
  rw [show i = (slotsG g).length from by omega]
noncomputable section
theorem lay_at {g : D.Grid} {i : Nat} {x : List Int} (h : (layG g)[i]? = some x) : ∃ s, (slotsG g)[i]? = some s ∧ x = cellsS g s s.Length.toNat := by
  unfold layG at h
  rw [List.getElem?_map] at h
  obtain ⟨s, h1, h2⟩ := Option.map_eq_some_iff.1 h
  exact ⟨s, h1, h2.symm⟩
theorem lay_len {g : D.Grid} {s : D.Slot} {i : Nat} (h : (slotsG g)[i]? = some s) : (cellsS g s s.Length.toNat).length ≤ 6 := by
  rw [cellsS_len]
  have := (slotsG_ok (List.mem_of_getElem? h)).2.2.2
  omega
end
theorem W_impl_SlotsAt (n : Nat) (g : D.Grid) (c : Int) (hc : g.Cells.size ≤ maxLen) : Pure (acall Tryz.prog (n + 5)) 186 [(T.agg (eGrid false g)), (tI c)] (T.sl true 1 ((atG g c (slotsG g).length).map (eInt true))) := by
  refine Pure.intro (rs := [ResultVar.tmp 4]) Tryz.func186 rfl rfl rfl (E0 := [(0, (T.agg (eGrid false g))), (1, (tI c))]) rfl ?_
  obtain ⟨hlim, hmx, hmax⟩ := lims
  have hsl := slotsG_len g
  have hll := layG_len g
  refine sr (kO (B.box (ts := (eGrid false g)) (tv (T.agg (eGrid false g)) rfl) nofun rfl) (fO (OF.assign VEv.nils) (nt (sr (fO (OF.assign VEv.nils) (nt (sq (sr (lO (OL.loadOn (us := (eGrid false g)) (tv (T.op 0 0) rfl) rfl st34 sz34 (lb rfl) rfl) (cO (OC.callF (us := [(T.agg (eGrid false g))]) (r := (T.sl true 1 ((layG g).map ((eSl 1 eInt) true)))) (r' := (T.os 1 1 0 (((layG g).map ((eSl 1 eInt) true)).length))) (objs := [(Obj.rows 1 ((layG g).map ((eSl 1 eInt) true)))]) rfl (vc (tv (T.agg (eGrid false g)) rfl) vn) (LendL.cons (lg okeGrid) ln) (W_impl_layout (n + 0) g (by assumption)) rfl) (lO (B.lenO (m := (layG g).length) (tv (T.os 1 1 0 (((layG g).map ((eSl 1 eInt) true)).length)) rfl) U150 (List.length_map ..)) ?_)))))))))))
  refine fO (OF.move (VEv.int .i64 0)) (nt (VRun.block (VRun.wk (Wk.freeze (sz := 1) (k := 1) (rows' := ((layG g).map ((eSl 1 eInt) false))) [9] (bc rfl bn) rfl rfl ((okSl okInt).fzMap _ _)) (VRun.wk (Wk.phantom 5 1 rfl) ?_))))
  have he1 : [] = ((atG g c 0).map (eInt true)) := by rfl
  refine VRun.loop (A := Nat) (fun s_ => [(1, (tI c)), (4, T.nils), (5, (T.os 1 0 0 (((atG g c s_).map (eInt true)).length))), (9, (rd 1 (eSl 1 eInt) (layG g))), (10, (tN ((layG g).length))), (11, (tN s_))]) (fun s_ => mkO [(0, (Obj.rows 1 ((atG g c s_).map (eInt true))))]) 1 (fun s_ => s_ ≤ (layG g).length) (fun s_ => (layG g).length - s_) (0 : Nat) ?_ (Wk.mk (fun k => if k = 0 then 2 else  k) ?_ ?_ ?_) ?_
  · (simp; done)
  · exact (b2 (b2 (bc ⟨(congrArg (fun n_ => T.os 1 2 0 n_) (show 0 = ((atG g c 0).map (eInt true)).length from (by rfl))), rfl⟩ (b2 (b2 (b2 bn))))))
  · exact (bc ⟨(congrArg (fun l_ => some (Obj.rows 1 l_)) he1), (lb rfl), rfl⟩ bn)
  · exact nd rfl
  rintro i (hI' : i ≤ (layG g).length)
  show VRun _ _ _ [(1, (tI c)), (4, T.nils), (5, (T.os 1 0 0 (((atG g c i).map (eInt true)).length))), (9, (rd 1 (eSl 1 eInt) (layG g))), (10, (tN ((layG g).length))), (11, (tN i))] (mkO [(0, (Obj.rows 1 ((atG g c i).map (eInt true))))]) 1 _
  have hI1 := hI'
  have hal := atG_len g c i
  refine sr (fO (xls' (tv (tN i) rfl) (tv (tN ((layG g).length)) rfl)) (nt (sq ?_)))
  refine cd (i < (layG g).length) rfl (fun fhc0 => ?_) fun fhc0 => ?_
  · refine sk ?_
    refine tn (sq (VRun.block (sr (mO (tN i) rfl ?_))))
    obtain ⟨x1, hx1⟩ : ∃ x, (layG g)[i]? = some x := ⟨_, List.getElem?_eq_getElem (by omega)⟩
    obtain ⟨y1, hy1, hq1⟩ := lay_at hx1
    refine fO (OF.indexAddrR (row := ((eSl 1 eInt) false x1)) (i := i) (tv (rd 1 (eSl 1 eInt) (layG g)) rfl) (tv (tN i) rfl) rfl (map_at _ hx1) U150 sz25 if25) (lO (OL.loadR1 (t := (rd 1 eInt x1)) (tv (T.rp [(rd 1 eInt x1)]) rfl) rfl st25) (aO (tN i) rfl (aO (rd 1 eInt x1) rfl (nt (sr (mO (rd 1 eInt x1) rfl (mO (tI c) rfl (cO (cS (vc (tv (rd 1 eInt x1) rfl) (vc (tv (tI c) rfl) vn)) (lps rfl) (W_slices_Contains_int_int_ (n + 2) x1 c (by (rw [hq1]; exact Nat.le_trans (lay_len hy1) (by decide)))) rfl rfl) (nt ?_)))))))))
    refine cd (c ∈ x1) rfl (fun fhc1 => ?_) fun fhc1 => ?_
    · have q1 : inS g c y1 := by rw [inS, ← hq1]; exact fhc1
      refine VRun.region (mO (T.os 1 0 0 (((atG g c i).map (eInt true)).length)) rfl (mO (tN i) rfl (kO (OM.buildSlice (l := [(tN i)]) (VEvp.cons (tv (tN i) rfl) VEvp.nil) rfl (by decide) (bc (nofun) bn) (bc ((bc (rfl) bn)) bn) (bc (rfl) bn) U25 zo3 (by kernel_rfl) rfl (by rw [sz3]; decide) sz3 (Nat.le_of_ble_eq_true rfl)) (cO (B.append (rows := ((atG g c i).map (eInt true))) (rows2 := [[(tN i)]]) (rows3 := ((atG g c i ++ [((i : Nat) : Int)]).map (eInt true))) (VDst.own (tv (T.os 1 0 0 (((atG g c i).map (eInt true)).length)) rfl) rfl rfl) (VSrc.own (tv (T.os 1 1 0 1) rfl) rfl rfl U25 (bc (bc rfl bn) bn)) (by decide) U25 sz3 (by decide) zo3 rfl (of_decide_eq_true (by kernel_rfl)) (by (simp only [List.length_map, List.length_append, List.length_cons, List.length_nil, List.length_replicate, List.length_set, List.length_drop, List.length_take, lim] at *; omega)) ((List.map_append (f := eInt true) (l₁ := atG g c i) (l₂ := [((i : Nat) : Int)])).symm)) (aO (T.os 1 2 0 (((atG g c i ++ [((i : Nat) : Int)]).map (eInt true)).length)) rfl (VRunO.nil (vinB.n (tn (VRun.region (fO (xinc (tv (tN i) rfl) (VEv.int .i64 1) (by omega)) (mO (tN (i + 1)) rfl ?_)))))))))))
      refine VRunO.nil (tn ?_)
      have he2 : (atG g c i ++ [((i : Nat) : Int)]) = atG g c (i + 1) := by rw [atG_next hy1, if_pos q1]
      refine ⟨(i + 1 : Nat), ?_, ?_, Wk.mk (fun k => if k = 0 then 2 else  k) ?_ ?_ ?_⟩
      · trivial
      · omega
      · exact (b2 (b2 (bc ⟨(congrArg (fun l_ => T.os 1 2 0 (List.map (eInt true) l_).length) he2), rfl⟩ (b2 (b2 (b2 bn))))))
      · exact (bc ⟨(congrArg (fun l_ => some (Obj.rows 1 (List.map (eInt true) l_))) he2), (lb rfl), rfl⟩ bn)
      · exact nd rfl
    have q1 : ¬ inS g c y1 := by rw [inS, ← hq1]; exact fhc1
    refine sk (vinB.n (tn (VRun.region (fO (xinc (tv (tN i) rfl) (VEv.int .i64 1) (by omega)) (mO (tN (i + 1)) rfl (VRunO.nil (tn ?_)))))))
    have he3 : atG g c i = atG g c (i + 1) := by rw [atG_next hy1, if_neg q1, List.append_nil]
    refine ⟨(i + 1 : Nat), ?_, ?_, Wk.mk (fun k => k) ?_ ?_ ?_⟩
    · trivial
    · omega
    · exact (b2 (b2 (bc ⟨(congrArg (fun l_ => T.os 1 0 0 (List.map (eInt true) l_).length) he3), rfl⟩ (b2 (b2 (b2 bn))))))
    · exact (bc ⟨(congrArg (fun l_ => some (Obj.rows 1 (List.map (eInt true) l_))) he3), (lb rfl), rfl⟩ bn)
    · exact nd rfl
  refine VRun.exit (vthn.e (vthn.e (vinB.e (tn (sr (mO (T.os 1 0 0 (((atG g c i).map (eInt true)).length)) rfl (aO (T.os 1 0 0 (((atG g c i).map (eInt true)).length)) rfl (nt (rt ?_)))))))))
  refine vfin.eq (r' := (T.sl true 1 ((atG g c i).map (eInt true)))) ?_ (vfin.r (VRes.tmp (t := (T.os 1 0 0 (((atG g c i).map (eInt true)).length))) rfl VRes.nil) (Give.os rfl rfl (okInt.cleanMap _)))
  show (T.sl true 1 ((atG g c i).map (eInt true))) = (T.sl true 1 ((atG g c (slotsG g).length).map (eInt true)))
  refine congrArg (fun l_ => T.sl true 1 (List.map (eInt true) l_)) ?_
  rw [show i = (slotsG g).length from by omega]
noncomputable section
def chk (g : D.Grid) (c : Int) : Prop := (atG g c (slotsG g).length).length = 2
instance (g : D.Grid) (c : Int) : Decidable (chk g c) := Classical.propDecidable _
end
theorem W_spec_IsChecked (n : Nat) (g : D.Grid) (c : Int) (hc : g.Cells.size ≤ maxLen) : Pure (acall Tryz.prog (n + 6)) 183 [(T.agg (eGrid false g)), (tI c)] (tB (decide (chk g c))) := by
  refine Pure.intro (rs := [ResultVar.tmp 4]) Tryz.func183 rfl rfl rfl (E0 := [(0, (T.agg (eGrid false g))), (1, (tI c))]) rfl ?_
  obtain ⟨hlim, hmx, hmax⟩ := lims
  refine sr (kO (B.box (ts := (eGrid false g)) (tv (T.agg (eGrid false g)) rfl) nofun rfl) (fO (OF.assign (VEv.bool false)) (nt (sr (lO (OL.loadOn (us := (eGrid false g)) (tv (T.op 0 0) rfl) rfl st34 sz34 (lb rfl) rfl) (mO (tI c) rfl (cO (OC.callF (us := [(T.agg (eGrid false g)), (tI c)]) (r := (T.sl true 1 ((atG g c (slotsG g).length).map (eInt true)))) (r' := (T.os 1 1 0 (((atG g c (slotsG g).length).map (eInt true)).length))) (objs := [(Obj.rows 1 ((atG g c (slotsG g).length).map (eInt true)))]) rfl (vc (tv (T.agg (eGrid false g)) rfl) (vc (tv (tI c) rfl) vn)) (LendL.cons (lg okeGrid) (lp rfl ln)) (W_spec_SlotsAt (n + 0) g c (by assumption)) rfl) (lO (B.lenO (m := (atG g c (slotsG g).length).length) (tv (T.os 1 1 0 (((atG g c (slotsG g).length).map (eInt true)).length)) rfl) U25 (List.length_map ..)) (fO (B.eql (c := (decide ((atG g c (slotsG g).length).length = 2))) (tv (tN ((atG g c (slotsG g).length).length)) rfl) (VEv.int .i64 2) (decN (by omega))) (aO (tB (decide ((atG g c (slotsG g).length).length = 2))) rfl (nt ?_)))))))))))
  refine rt (vb (b' := (decide ((atG g c (slotsG g).length).length = 2))) rfl ?_)
  exact decN Iff.rfl
theorem W_impl_IsChecked (n : Nat) (g : D.Grid) (c : Int) (hc : g.Cells.size ≤ maxLen) : Pure (acall Tryz.prog (n + 6)) 162 [(T.agg (eGrid false g)), (tI c)] (tB (decide (chk g c))) := by
  refine Pure.intro (rs := [ResultVar.tmp 4]) Tryz.func162 rfl rfl rfl (E0 := [(0, (T.agg (eGrid false g))), (1, (tI c))]) rfl ?_
  obtain ⟨hlim, hmx, hmax⟩ := lims
  refine sr (kO (B.box (ts := (eGrid false g)) (tv (T.agg (eGrid false g)) rfl) nofun rfl) (fO (OF.assign (VEv.bool false)) (nt (sr (lO (OL.loadOn (us := (eGrid false g)) (tv (T.op 0 0) rfl) rfl st34 sz34 (lb rfl) rfl) (mO (tI c) rfl (cO (OC.callF (us := [(T.agg (eGrid false g)), (tI c)]) (r := (T.sl true 1 ((atG g c (slotsG g).length).map (eInt true)))) (r' := (T.os 1 1 0 (((atG g c (slotsG g).length).map (eInt true)).length))) (objs := [(Obj.rows 1 ((atG g c (slotsG g).length).map (eInt true)))]) rfl (vc (tv (T.agg (eGrid false g)) rfl) (vc (tv (tI c) rfl) vn)) (LendL.cons (lg okeGrid) (lp rfl ln)) (W_impl_SlotsAt (n + 0) g c (by assumption)) rfl) (lO (B.lenO (m := (atG g c (slotsG g).length).length) (tv (T.os 1 1 0 (((atG g c (slotsG g).length).map (eInt true)).length)) rfl) U25 (List.length_map ..)) (fO (B.eql (c := (decide ((atG g c (slotsG g).length).length = 2))) (tv (tN ((atG g c (slotsG g).length).length)) rfl) (VEv.int .i64 2) (decN (by omega))) (aO (tB (decide ((atG g c (slotsG g).length).length = 2))) rfl (nt ?_)))))))))))
  refine rt (vb (b' := (decide ((atG g c (slotsG g).length).length = 2))) rfl ?_)
  exact decN Iff.rfl
end Go.Proofs.YtcccmceoplcciaaGreat.AE
namespace Go.Proofs.YtcccmceoplcciaaGreat.AE
open Go Go.RowKit
set_option linter.unusedVariables false
set_option linter.unusedSimpArgs false
set_option maxRecDepth 20000
set_option maxHeartbeats 2000000
noncomputable section
def nUn (g : D.Grid) (l : List Int) : Nat := (l.filter fun c => !decide (chk g c)).length
theorem nUn_le (g : D.Grid) (l : List Int) : nUn g l ≤ l.length := List.length_filter_le _ _
theorem nUn_next {g : D.Grid} {l : List Int} {i : Nat} {x : Int} (h : l[i]? = some x) : nUn g (l.take (i + 1)) = nUn g (l.take i) + (if chk g x then 0 else 1) := by
  unfold nUn
  rw [List.take_add_one, h, List.filter_append, List.length_append]
  by_cases hc : chk g x <;> simp [hc]
def unG (g : D.Grid) (slot : Int) : Int := if 0 ≤ slot then (match (slotsG g)[slot.toNat]? with | some s => ((nUn g (cellsS g s s.Length.toNat) : Nat) : Int) | none => -1) else -1
theorem unG_no {g : D.Grid} {slot : Int} (h : ¬ (0 ≤ slot ∧ slot < (((slotsG g).length : Nat) : Int))) : unG g slot = -1 := by
  unfold unG
  by_cases h1 : 0 ≤ slot
  · rw [if_pos h1, List.getElem?_eq_none (by omega)]
  · rw [if_neg h1]
theorem unG_at {g : D.Grid} {slot : Int} {s : D.Slot} (h1 : 0 ≤ slot) (h : (slotsG g)[slot.toNat]? = some s) : unG g slot = ((nUn g (cellsS g s s.Length.toNat) : Nat) : Int) := by
  unfold unG
  rw [if_pos h1, h]
theorem take_all {α : Type} {l : List α} {i : Nat} (h1 : i ≤ l.length) (h2 : ¬ i < l.length) : l.take i = l := List.take_of_length_le (by omega)
theorem take_len_le {α : Type} (l : List α) (i : Nat) : (l.take i).length ≤ i := by rw [List.length_take]; omega
end
theorem W_spec_UncheckedIn (n : Nat) (g : D.Grid) (slot : Int) (hc : g.Cells.size ≤ maxLen) : Pure (acall Tryz.prog (n + 7)) 158 [(T.agg (eGrid false g)), (tI slot)] (tI (unG g slot)) := by
  refine Pure.intro (rs := [ResultVar.tmp 4]) Tryz.func158 rfl rfl rfl (E0 := [(0, (T.agg (eGrid false g))), (1, (tI slot))]) rfl ?_
  obtain ⟨hlim, hmx, hmax⟩ := lims
  have hsl := slotsG_len g
  refine sr (kO (B.box (ts := (eGrid false g)) (tv (T.agg (eGrid false g)) rfl) nofun rfl) (fO (OF.assign (VEv.int .i64 0)) (nt (sr (lO (OL.loadOn (us := (eGrid false g)) (tv (T.op 0 0) rfl) rfl st34 sz34 (lb rfl) rfl) (cO (OC.callF (us := [(T.agg (eGrid false g))]) (r := (T.sl true 4 ((slotsG g).map (eSlot true)))) (r' := (T.os 4 1 0 (((slotsG g).map (eSlot true)).length))) (objs := [(Obj.rows 4 ((slotsG g).map (eSlot true)))]) rfl (vc (tv (T.agg (eGrid false g)) rfl) vn) (LendL.cons (lg okeGrid) ln) (W_spec_SlotsOf (n + 3) g (by assumption)) rfl) (aO (T.os 4 1 0 (((slotsG g).map (eSlot true)).length)) rfl (nt (sq (sr (mO (tI slot) rfl ?_)))))))))))
  refine mO (T.os 4 1 0 (((slotsG g).map (eSlot true)).length)) rfl (lO (B.lenO (m := (slotsG g).length) (tv (T.os 4 1 0 (((slotsG g).map (eSlot true)).length)) rfl) U123 (List.length_map ..)) (fO (B.sub (n := ((((slotsG g).length : Nat) : Int) - 1)) (tv (tN ((slotsG g).length)) rfl) (VEv.int .i64 1) (by (rw [wrap64 (by omega)]; done))) (cO (cS (vc (tv (tI slot) rfl) (vc (VEv.int .i64 0) (vc (tv (tI ((((slotsG g).length : Nat) : Int) - 1)) rfl) vn))) (lps rfl) (W_spec_l1In (n + 5) slot 0 ((((slotsG g).length : Nat) : Int) - 1) ) rfl rfl) (fO (xnot (tv (tB (decide (0 ≤ slot ∧ slot ≤ ((((slotsG g).length : Nat) : Int) - 1)))) rfl)) (nt ?_)))))
  refine cn (0 ≤ slot ∧ slot ≤ ((((slotsG g).length : Nat) : Int) - 1)) rfl (fun fhc0 => ?_) fun fhc0 => ?_
  · refine sr ?_
    refine fO (OF.assign (VEv.int .i64 (-1))) (nt (rt (tr (vi (n' := (-1)) rfl ?_))))
    exact (unG_no (by omega)).symm
  have hs0 : 0 ≤ slot := by omega
  refine sk (tn (sq (VRun.draw (B := [[], [], [], [2, 1], [1, 2, 3], [3, 2, 1, 4, 0], [0, 4, 1, 2, 3, 5]]) (by kernel_rfl) (by kernel_rfl) (lD (OL.loadOn (us := (eGrid false g)) (tv (T.op 0 0) rfl) rfl st34 sz34 (lb rfl) rfl) rfl rfl (mD (T.os 4 1 0 (((slotsG g).map (eSlot true)).length)) rfl rfl (mD (tI slot) rfl rfl ?_))))))
  obtain ⟨x1, hx1⟩ : ∃ x, (slotsG g)[(Int.toNat slot)]? = some x := ⟨_, List.getElem?_eq_getElem (by omega)⟩
  refine fD (B.indexAddrO (i := (Int.toNat slot)) (tv (T.os 4 1 0 (((slotsG g).map (eSlot true)).length)) rfl) (tv (tI slot) rfl) (by omega) (by (simp only [List.length_map]; omega)) U123 sz138 if138) rfl rfl (lD (OL.loadPn (us := (eSlot false x1)) (row := (eSlot true x1)) (tv (T.orp 4 1 (Int.toNat slot) 0) rfl) rfl (map_at _ hx1) st138 sz138 (lb rfl) rfl (bc rfl (bc rfl (bc rfl (bc rfl bn))))) rfl rfl (VRunD.quiet (bi := [3, 2, 1, 4, 0]) rfl VWant.always rfl rfl rfl bn (OC.callF (us := [(T.agg (eGrid false g)), (T.agg (eSlot false x1))]) (r := (T.sl true 1 ((if x1 ∈ slotsG g then cellsS g x1 x1.Length.toNat else []).map (eInt true)))) (r' := (T.os 1 2 0 (((if x1 ∈ slotsG g then cellsS g x1 x1.Length.toNat else []).map (eInt true)).length))) (objs := [(Obj.rows 1 ((if x1 ∈ slotsG g then cellsS g x1 x1.Length.toNat else []).map (eInt true)))]) rfl (vc (tv (T.agg (eGrid false g)) rfl) (vc (tv (T.agg (eSlot false x1)) rfl) vn)) (LendL.cons (lg okeGrid) (LendL.cons (lg okeSlot) ln)) (W_spec_CellsOf (n + 2) g x1 (by assumption)) rfl) (fD (OF.assign (tv (T.os 1 2 0 (((if x1 ∈ slotsG g then cellsS g x1 x1.Length.toNat else []).map (eInt true)).length)) rfl)) rfl rfl (VRunD.nil (tn (sr (fO (OF.assign (VEv.int .i64 0)) (nt (sq (sr (fO (OF.assign (VEv.int .i64 0)) ?_)))))))))))
  refine nt (VRun.block ?_)
  refine VRun.loop (A := Nat × Nat) (fun s_ => [(2, (T.op 0 0)), (4, (tN 0)), (6, (T.os 1 1 0 (((if x1 ∈ slotsG g then cellsS g x1 x1.Length.toNat else []).map (eInt true)).length))), (7, (tN s_.2)), (8, (tN s_.1))]) (fun s_ => mkO [(0, (Obj.cells (eGrid false g))), (1, (Obj.rows 1 ((if x1 ∈ slotsG g then cellsS g x1 x1.Length.toNat else []).map (eInt true))))]) 2 (fun s_ => s_.1 ≤ (if x1 ∈ slotsG g then cellsS g x1 x1.Length.toNat else []).length ∧ s_.2 = nUn g ((if x1 ∈ slotsG g then cellsS g x1 x1.Length.toNat else []).take s_.1)) (fun s_ => (if x1 ∈ slotsG g then cellsS g x1 x1.Length.toNat else []).length - s_.1) ((0, 0) : Nat × Nat) ?_ (Wk.mk (fun k => if k = 1 then 2 else  k) ?_ ?_ ?_) ?_
  · exact ⟨Nat.zero_le _, rfl⟩
  · exact (b2 (b2 (b2 (b2 (b2 bn)))))
  · exact (b3 (b3 bn))
  · exact nd rfl
  rintro ⟨i, m⟩ (hI' : i ≤ (if x1 ∈ slotsG g then cellsS g x1 x1.Length.toNat else []).length ∧ m = nUn g ((if x1 ∈ slotsG g then cellsS g x1 x1.Length.toNat else []).take i))
  show VRun _ _ _ [(2, (T.op 0 0)), (4, (tN 0)), (6, (T.os 1 1 0 (((if x1 ∈ slotsG g then cellsS g x1 x1.Length.toNat else []).map (eInt true)).length))), (7, (tN m)), (8, (tN i))] (mkO [(0, (Obj.cells (eGrid false g))), (1, (Obj.rows 1 ((if x1 ∈ slotsG g then cellsS g x1 x1.Length.toNat else []).map (eInt true))))]) 2 _
  have hI1 := hI'.1
  have hl6 := cof_len g x1
  have hn6 := nUn_le g ((if x1 ∈ slotsG g then cellsS g x1 x1.Length.toNat else []).take i)
  have ht6 := take_len_le (if x1 ∈ slotsG g then cellsS g x1 x1.Length.toNat else []) i
  have hI2 := hI'.2
  refine sq (sr (mO (tN i) rfl (mO (T.os 1 1 0 (((if x1 ∈ slotsG g then cellsS g x1 x1.Length.toNat else []).map (eInt true)).length)) rfl (lO (B.lenO (m := (if x1 ∈ slotsG g then cellsS g x1 x1.Length.toNat else []).length) (tv (T.os 1 1 0 (((if x1 ∈ slotsG g then cellsS g x1 x1.Length.toNat else []).map (eInt true)).length)) rfl) U25 (List.length_map ..)) (fO (xls' (tv (tN i) rfl) (tv (tN ((if x1 ∈ slotsG g then cellsS g x1 x1.Length.toNat else []).length)) rfl)) (nt ?_))))))
  refine cd (i < (if x1 ∈ slotsG g then cellsS g x1 x1.Length.toNat else []).length) rfl (fun fhc1 => ?_) fun fhc1 => ?_
  · refine sk ?_
    refine tn (sq (VRun.block (sq (VRun.draw (B := [[], [], [], [2, 1], [1, 2, 3], [3, 2, 1, 4, 0], [0, 4, 1, 2, 3, 5]]) (by kernel_rfl) (by kernel_rfl) (lD (OL.loadOn (us := (eGrid false g)) (tv (T.op 0 0) rfl) rfl st34 sz34 (lb rfl) rfl) rfl rfl (mD (T.os 1 1 0 (((if x1 ∈ slotsG g then cellsS g x1 x1.Length.toNat else []).map (eInt true)).length)) rfl rfl (mD (tN i) rfl rfl ?_)))))))
    obtain ⟨x2, hx2⟩ : ∃ x, (if x1 ∈ slotsG g then cellsS g x1 x1.Length.toNat else [])[i]? = some x := ⟨_, List.getElem?_eq_getElem (by omega)⟩
    refine fD (B.indexAddrO (i := i) (tv (T.os 1 1 0 (((if x1 ∈ slotsG g then cellsS g x1 x1.Length.toNat else []).map (eInt true)).length)) rfl) (tv (tN i) rfl) rfl (by (simp only [List.length_map]; omega)) U25 sz3 if3) rfl rfl (lD (OL.loadP1 (t := (tI x2)) (row := (eInt true x2)) (tv (T.orp 1 1 i 0) rfl) rfl (map_at _ hx2) rfl rfl st3) rfl rfl (VRunD.quiet (bi := [3, 2, 1, 4, 0]) rfl VWant.always rfl rfl rfl bn (cS (vc (tv (T.agg (eGrid false g)) rfl) (vc (tv (tI x2) rfl) vn)) (LendL.cons (lg okeGrid) (lp rfl ln)) (W_spec_IsChecked (n + 0) g x2 (by assumption)) rfl rfl) (fD (xnot (tv (tB (decide (chk g x2))) rfl)) rfl rfl (VRunD.nil (tn ?_)))))
    refine cn (chk g x2) rfl (fun fhc2 => ?_) fun fhc2 => ?_
    · refine VRun.region ?_
      refine mO (tN m) rfl (fO (xinc (tv (tN m) rfl) (VEv.int .i64 1) (by omega)) (aO (tN (m + 1)) rfl (VRunO.nil (vinB.n (tn (VRun.region (mO (tN i) rfl (fO (xinc (tv (tN i) rfl) (VEv.int .i64 1) (by omega)) (aO (tN (i + 1)) rfl (VRunO.nil (tn ?_)))))))))))
      refine ⟨((i + 1, m + (if chk g x2 then 0 else 1)) : Nat × Nat), ?_, ?_, Wk.mk (fun k => k) ?_ ?_ ?_⟩
      · exact ⟨by omega, by rw [nUn_next hx2, ← hI2]⟩
      · omega
      · exact (b2 (b2 (b2 (bc ⟨(congrArg (T.int .i64) (show (((m + 1) : Nat) : Int) = (((m + (if chk g x2 then 0 else 1)) : Nat) : Int) from (by (rw [if_neg fhc2]; done)))), rfl⟩ (b2 bn)))))
      · exact (b3 (b3 bn))
      · exact nd rfl
    refine sk (vinB.n (tn (VRun.region (mO (tN i) rfl (fO (xinc (tv (tN i) rfl) (VEv.int .i64 1) (by omega)) (aO (tN (i + 1)) rfl (VRunO.nil (tn ?_))))))))
    refine ⟨((i + 1, m + (if chk g x2 then 0 else 1)) : Nat × Nat), ?_, ?_, Wk.mk (fun k => k) ?_ ?_ ?_⟩
    · exact ⟨by omega, by rw [nUn_next hx2, ← hI2]⟩
    · omega
    · exact (b2 (b2 (b2 (bc ⟨(congrArg (T.int .i64) (show ((m : Nat) : Int) = (((m + (if chk g x2 then 0 else 1)) : Nat) : Int) from (by (rw [if_pos fhc2]; omega)))), rfl⟩ (b2 bn)))))
    · exact (b3 (b3 bn))
    · exact nd rfl
  refine VRun.exit (vthn.e (vthn.e (vinB.e (tn (sr (mO (tN m) rfl (aO (tN m) rfl (nt (rt (vi (n' := ((m : Nat) : Int)) rfl ?_))))))))))
  rw [unG_at hs0 hx1, hI2, take_all hI1 fhc1, cof_in hx1]
theorem W_impl_UncheckedIn (n : Nat) (g : D.Grid) (slot : Int) (hc : g.Cells.size ≤ maxLen) : Pure (acall Tryz.prog (n + 7)) 138 [(T.agg (eGrid false g)), (tI slot)] (tI (unG g slot)) := by
  refine Pure.intro (rs := [ResultVar.tmp 4]) Tryz.func138 rfl rfl rfl (E0 := [(0, (T.agg (eGrid false g))), (1, (tI slot))]) rfl ?_
  obtain ⟨hlim, hmx, hmax⟩ := lims
  have hsl := slotsG_len g
  have hll := layG_len g
  refine sr (kO (B.box (ts := (eGrid false g)) (tv (T.agg (eGrid false g)) rfl) nofun rfl) (fO (OF.assign (VEv.int .i64 0)) (nt (sr (lO (OL.loadOn (us := (eGrid false g)) (tv (T.op 0 0) rfl) rfl st34 sz34 (lb rfl) rfl) (cO (OC.callF (us := [(T.agg (eGrid false g))]) (r := (T.sl true 1 ((layG g).map ((eSl 1 eInt) true)))) (r' := (T.os 1 1 0 (((layG g).map ((eSl 1 eInt) true)).length))) (objs := [(Obj.rows 1 ((layG g).map ((eSl 1 eInt) true)))]) rfl (vc (tv (T.agg (eGrid false g)) rfl) vn) (LendL.cons (lg okeGrid) ln) (W_impl_layout (n + 2) g (by assumption)) rfl) (aO (T.os 1 1 0 (((layG g).map ((eSl 1 eInt) true)).length)) rfl (nt (sq (sr (mO (tI slot) rfl ?_)))))))))))
  refine mO (T.os 1 1 0 (((layG g).map ((eSl 1 eInt) true)).length)) rfl (lO (B.lenO (m := (layG g).length) (tv (T.os 1 1 0 (((layG g).map ((eSl 1 eInt) true)).length)) rfl) U150 (List.length_map ..)) (cO (cS (vc (tv (tI slot) rfl) (vc (tv (tN ((layG g).length)) rfl) vn)) (lps rfl) (W_impl_at (n + 5) slot (((layG g).length : Nat) : Int) ) rfl rfl) (fO (xnot (tv (tB (decide (0 ≤ slot ∧ slot < (((layG g).length : Nat) : Int)))) rfl)) (nt ?_))))
  refine cn (0 ≤ slot ∧ slot < (((layG g).length : Nat) : Int)) rfl (fun fhc0 => ?_) fun fhc0 => ?_
  · refine sr ?_
    refine fO (OF.assign (VEv.int .i64 (-1))) (nt (rt (tr (vi (n' := (-1)) rfl ?_))))
    exact (unG_no (by omega)).symm
  refine sk (tn (sr (fO (OF.assign (VEv.int .i64 0)) (nt (sq (VRun.wk (Wk.freeze (sz := 1) (k := 1) (rows' := ((layG g).map ((eSl 1 eInt) false))) [5, 10, 12] (bc rfl (bc rfl (bc rfl bn))) rfl rfl ((okSl okInt).fzMap _ _)) ?_))))))
  have hs0 : 0 ≤ slot := by omega
  refine sr (mO (rd 1 (eSl 1 eInt) (layG g)) rfl (mO (tI slot) rfl ?_))
  obtain ⟨x1, hx1⟩ : ∃ x, (layG g)[(Int.toNat slot)]? = some x := ⟨_, List.getElem?_eq_getElem (by omega)⟩
  obtain ⟨y1, hy1, hq1⟩ := lay_at hx1
  refine fO (OF.indexAddrR (row := ((eSl 1 eInt) false x1)) (i := (Int.toNat slot)) (tv (rd 1 (eSl 1 eInt) (layG g)) rfl) (tv (tI slot) rfl) (by omega) (map_at _ hx1) U150 sz25 if25) (lO (OL.loadR1 (t := (rd 1 eInt x1)) (tv (T.rp [(rd 1 eInt x1)]) rfl) rfl st25) (lO (B.lenR (m := x1.length) (tv (rd 1 eInt x1) rfl) U25 (List.length_map ..)) (fO (OF.move (VEv.int .i64 0)) (nt (VRun.block ?_)))))
  refine VRun.loop (A := Nat × Nat) (fun s_ => [(2, (T.op 0 0)), (4, (tN 0)), (6, (tN s_.2)), (19, (rd 1 eInt x1)), (20, (tN x1.length)), (21, (tN s_.1))]) (fun s_ => mkO [(0, (Obj.cells (eGrid false g)))]) 1 (fun s_ => s_.1 ≤ x1.length ∧ s_.2 = nUn g (x1.take s_.1)) (fun s_ => x1.length - s_.1) ((0, 0) : Nat × Nat) ?_ (Wk.mk (fun k => k) ?_ ?_ ?_) ?_
  · exact ⟨Nat.zero_le _, rfl⟩
  · exact (b2 (b2 (b2 (b2 (b2 (b2 bn))))))
  · exact (b3 bn)
  · exact nd rfl
  rintro ⟨i, m⟩ (hI' : i ≤ x1.length ∧ m = nUn g (x1.take i))
  show VRun _ _ _ [(2, (T.op 0 0)), (4, (tN 0)), (6, (tN m)), (19, (rd 1 eInt x1)), (20, (tN x1.length)), (21, (tN i))] (mkO [(0, (Obj.cells (eGrid false g)))]) 1 _
  have hI1 := hI'.1
  have hl6 := lay_len hy1
  rw [← hq1] at hl6
  have hn6 := nUn_le g (x1.take i)
  have ht6 := take_len_le x1 i
  have hI2 := hI'.2
  refine sr (fO (xls' (tv (tN i) rfl) (tv (tN x1.length) rfl)) (nt (sq ?_)))
  refine cd (i < x1.length) rfl (fun fhc1 => ?_) fun fhc1 => ?_
  · refine sk ?_
    refine tn (sq (VRun.block (sr ?_)))
    obtain ⟨x2, hx2⟩ : ∃ x, x1[i]? = some x := ⟨_, List.getElem?_eq_getElem (by omega)⟩
    skip
    refine fO (OF.indexAddrR (row := (eInt false x2)) (i := i) (tv (rd 1 eInt x1) rfl) (tv (tN i) rfl) rfl (map_at _ hx2) U25 sz3 if3) (lO (OL.loadR1 (t := (tI x2)) (tv (T.rp [(tI x2)]) rfl) rfl st3) (aO (tI x2) rfl (nt (sr (lO (OL.loadOn (us := (eGrid false g)) (tv (T.op 0 0) rfl) rfl st34 sz34 (lb rfl) rfl) (mO (tI x2) rfl (cO (cS (vc (tv (T.agg (eGrid false g)) rfl) (vc (tv (tI x2) rfl) vn)) (LendL.cons (lg okeGrid) (lp rfl ln)) (W_impl_IsChecked (n + 0) g x2 (by assumption)) rfl rfl) (fO (xnot (tv (tB (decide (chk g x2))) rfl)) (nt ?_)))))))))
    refine cn (chk g x2) rfl (fun fhc2 => ?_) fun fhc2 => ?_
    · refine VRun.region ?_
      refine mO (tN m) rfl (fO (xinc (tv (tN m) rfl) (VEv.int .i64 1) (by omega)) (aO (tN (m + 1)) rfl (VRunO.nil (vinB.n (tn (VRun.region (fO (xinc (tv (tN i) rfl) (VEv.int .i64 1) (by omega)) (mO (tN (i + 1)) rfl (VRunO.nil (tn ?_))))))))))
      refine ⟨((i + 1, m + (if chk g x2 then 0 else 1)) : Nat × Nat), ?_, ?_, Wk.mk (fun k => k) ?_ ?_ ?_⟩
      · exact ⟨by omega, by rw [nUn_next hx2, ← hI2]⟩
      · omega
      · exact (b2 (b2 (bc ⟨(congrArg (T.int .i64) (show (((m + 1) : Nat) : Int) = (((m + (if chk g x2 then 0 else 1)) : Nat) : Int) from (by (rw [if_neg fhc2]; done)))), rfl⟩ (b2 (b2 (b2 bn))))))
      · exact (b3 bn)
      · exact nd rfl
    refine sk (vinB.n (tn (VRun.region (fO (xinc (tv (tN i) rfl) (VEv.int .i64 1) (by omega)) (mO (tN (i + 1)) rfl (VRunO.nil (tn ?_)))))))
    refine ⟨((i + 1, m + (if chk g x2 then 0 else 1)) : Nat × Nat), ?_, ?_, Wk.mk (fun k => k) ?_ ?_ ?_⟩
    · exact ⟨by omega, by rw [nUn_next hx2, ← hI2]⟩
    · omega
    · exact (b2 (b2 (bc ⟨(congrArg (T.int .i64) (show ((m : Nat) : Int) = (((m + (if chk g x2 then 0 else 1)) : Nat) : Int) from (by (rw [if_pos fhc2]; omega)))), rfl⟩ (b2 (b2 (b2 bn))))))
    · exact (b3 bn)
    · exact nd rfl
  refine VRun.exit (vthn.e (vthn.e (vinB.e (tn (sr (mO (tN m) rfl (aO (tN m) rfl (nt (rt (vi (n' := ((m : Nat) : Int)) rfl ?_))))))))))
  rw [unG_at hs0 hy1, hI2, take_all hI1 fhc1, hq1]
end Go.Proofs.YtcccmceoplcciaaGreat.AE
namespace Go.Proofs.YtcccmceoplcciaaGreat.AE
open Go Go.RowKit
set_option linter.unusedVariables false
set_option linter.unusedSimpArgs false
set_option maxRecDepth 20000
set_option maxHeartbeats 2000000
noncomputable section
def badS (g : D.Grid) (i : Nat) (s : D.Slot) : Prop := s.Length < 2 * unG g ((i : Nat) : Int)
def inAny (g : D.Grid) (c : Int) : Prop := ∃ s ∈ slotsG g, inS g c s
def loneC (g : D.Grid) (c : Nat) : Prop := bAt g.Cells c = 46 ∧ ¬ inAny g ((c : Nat) : Int)
def aloneG (g : D.Grid) : Prop := (∃ i s, (slotsG g)[i]? = some s ∧ badS g i s) ∨ ∃ c, c < g.Cells.size ∧ gridOk g ∧ loneC g c
instance (g : D.Grid) : Decidable (aloneG g) := Classical.propDecidable _
theorem atL_mem (g : D.Grid) (c : Int) : ∀ (l : List D.Slot) (n : Nat), (atL g c l n).length = 0 ↔ ¬ ∃ s ∈ l, inS g c s
  | [], n => by simp [atL]
  | x :: r, n => by
    have := atL_mem g c r (n + 1)
    rw [atL, List.length_append]
    by_cases h : inS g c x
    · rw [if_pos h]; simp [h]
    · rw [if_neg h, List.length_nil, Nat.zero_add, this]; simp [h]
theorem atG_none {g : D.Grid} {c : Int} : (atG g c (slotsG g).length).length = 0 ↔ ¬ inAny g c := by
  unfold atG
  rw [List.take_length]
  exact atL_mem g c _ _
theorem unG_bd (g : D.Grid) (i : Int) : -1 ≤ unG g i ∧ unG g i ≤ 6 := by
  unfold unG
  split
  · split
    · rename_i s hs
      have h1 := nUn_le g (cellsS g s s.Length.toNat)
      have h2 := lay_len hs
      omega
    · omega
  · omega
def NoBad (g : D.Grid) (i : Nat) : Prop := i ≤ (slotsG g).length ∧ ∀ j s, j < i → (slotsG g)[j]? = some s → ¬ badS g j s
theorem NoBad.start (g : D.Grid) : NoBad g 0 := ⟨Nat.zero_le _, fun j s hj => by omega⟩
theorem NoBad.next {g : D.Grid} {i : Nat} {s : D.Slot} (h : NoBad g i) (hx : (slotsG g)[i]? = some s) (hn : ¬ badS g i s) : NoBad g (i + 1) := by
  have := (List.getElem?_eq_some_iff.1 hx).1
  refine ⟨by omega, fun j y hj hy => ?_⟩
  rcases Nat.lt_or_ge j i with h1 | h1
  · exact h.2 j y h1 hy
  · obtain rfl : j = i := by omega
    rw [hx] at hy
    exact Option.some.inj hy ▸ hn
theorem alone_no {g : D.Grid} {i : Nat} (h : NoBad g i) (hi : ¬ i < (slotsG g).length) (h2 : ∀ c, c < g.Cells.size → ¬ (gridOk g ∧ loneC g c)) : ¬ aloneG g := by
  rintro (⟨j, s, h3, h4⟩ | ⟨c, h3, h4⟩)
  · have := (List.getElem?_eq_some_iff.1 h3).1
    exact h.2 j s (by omega) h3 h4
  · exact h2 c h3 h4
def mapOf (m : List (Int × Int)) (p : Int → Prop) : Prop := ∀ c, (p c → mget m c = 1) ∧ (¬ p c → mget m c = 0)
def inTo (g : D.Grid) (i : Nat) (c : Int) : Prop := ∃ x ∈ (layG g).take i, c ∈ x
theorem inTo_zero (g : D.Grid) (c : Int) : ¬ inTo g 0 c := by rintro ⟨x, hx, _⟩; simp at hx
theorem inTo_next {g : D.Grid} {i : Nat} {x : List Int} (h : (layG g)[i]? = some x) (c : Int) : inTo g (i + 1) c ↔ inTo g i c ∨ c ∈ x := by
  unfold inTo
  rw [List.take_add_one, h]
  constructor
  · rintro ⟨y, hy, hc⟩
    rcases List.mem_append.1 hy with hy | hy
    · exact .inl ⟨y, hy, hc⟩
    · obtain rfl := List.mem_singleton.1 hy
      exact .inr hc
  · rintro (⟨y, hy, hc⟩ | hc)
    · exact ⟨y, List.mem_append_left _ hy, hc⟩
    · exact ⟨x, List.mem_append_right _ (by simp), hc⟩
theorem inTo_all {g : D.Grid} {i : Nat} (h : ¬ i < (layG g).length) (c : Int) : inTo g i c ↔ inAny g c := by
  unfold inTo inAny
  rw [List.take_of_length_le (by omega)]
  unfold layG inS
  constructor
  · rintro ⟨x, hx, hc⟩
    obtain ⟨s, hs, rfl⟩ := List.mem_map.1 hx
    exact ⟨s, hs, hc⟩
  · rintro ⟨s, hs, hc⟩
    exact ⟨_, List.mem_map.2 ⟨s, hs, rfl⟩, hc⟩
theorem mapOf.congr {m : List (Int × Int)} {p q : Int → Prop} (h : mapOf m p) (e : ∀ c, p c ↔ q c) : mapOf m q := fun c => by rw [← e c]; exact h c
theorem mapOf.put {m : List (Int × Int)} {p : Int → Prop} {n : Int} (h : mapOf m p) : mapOf (mput m n 1) (fun c => p c ∨ c = n) := fun c => by
  rw [mget_put]
  by_cases e : c = n
  · rw [if_pos e]; exact ⟨fun _ => rfl, fun h2 => absurd (.inr e) h2⟩
  · rw [if_neg e]
    exact ⟨fun h2 => (h c).1 (h2.resolve_right e), fun h2 => (h c).2 fun h3 => h2 (.inl h3)⟩
theorem mem_take_next {l : List Int} {i : Nat} {x : Int} (h : l[i]? = some x) (c : Int) : c ∈ l.take (i + 1) ↔ c ∈ l.take i ∨ c = x := by
  rw [List.take_add_one, h]
  simp
def openF (f : ByteArray) (c : Nat) : Prop := ¬ (97 ≤ bAt f c ∧ bAt f c ≤ 122)
def aloneF (g : D.Grid) (f : ByteArray) : Prop := ∃ c, c < g.Cells.size ∧ loneC g c ∧ openF f c
instance (g : D.Grid) (f : ByteArray) : Decidable (aloneF g f) := Classical.propDecidable _
end
theorem W_spec_l10Alone (n : Nat) (g : D.Grid) (hc : g.Cells.size ≤ maxLen) : Pure (acall Tryz.prog (n + 8)) 135 [(T.agg (eGrid false g))] (tB (decide (aloneG g))) := by
  refine Pure.intro (rs := [ResultVar.tmp 2]) Tryz.func135 rfl rfl rfl (E0 := [(0, (T.agg (eGrid false g)))]) rfl ?_
  obtain ⟨hlim, hmx, hmax⟩ := lims
  have hsl := slotsG_len g
  refine sr (kO (B.box (ts := (eGrid false g)) (tv (T.agg (eGrid false g)) rfl) nofun rfl) (fO (OF.assign (VEv.bool false)) (nt (sr (lO (OL.loadOn (us := (eGrid false g)) (tv (T.op 0 0) rfl) rfl st34 sz34 (lb rfl) rfl) (cO (OC.callF (us := [(T.agg (eGrid false g))]) (r := (T.sl true 4 ((slotsG g).map (eSlot true)))) (r' := (T.os 4 1 0 (((slotsG g).map (eSlot true)).length))) (objs := [(Obj.rows 4 ((slotsG g).map (eSlot true)))]) rfl (vc (tv (T.agg (eGrid false g)) rfl) vn) (LendL.cons (lg okeGrid) ln) (W_spec_SlotsOf (n + 4) g (by assumption)) rfl) (aO (T.os 4 1 0 (((slotsG g).map (eSlot true)).length)) rfl (nt (sq (sr (fO (OF.assign (VEv.int .i64 0)) ?_)))))))))))
  refine nt (VRun.block ?_)
  refine VRun.loop (A := Nat) (fun s_ => [(1, (T.op 0 0)), (3, (T.os 4 1 0 (((slotsG g).map (eSlot true)).length))), (4, (tN s_))]) (fun s_ => mkO [(0, (Obj.cells (eGrid false g))), (1, (Obj.rows 4 ((slotsG g).map (eSlot true))))]) 2 (fun s_ => NoBad g s_) (fun s_ => (slotsG g).length - s_) (0 : Nat) ?_ (Wk.mk (fun k => k) ?_ ?_ ?_) ?_
  · exact NoBad.start _
  · exact (b2 (b2 (b2 bn)))
  · exact (b3 (b3 bn))
  · exact nd rfl
  rintro i (hI' : NoBad g i)
  show VRun _ _ _ [(1, (T.op 0 0)), (3, (T.os 4 1 0 (((slotsG g).map (eSlot true)).length))), (4, (tN i))] (mkO [(0, (Obj.cells (eGrid false g))), (1, (Obj.rows 4 ((slotsG g).map (eSlot true))))]) 2 _
  have hI1 := hI'.1
  have hNB := hI'
  have hub := unG_bd g ((i : Nat) : Int)
  refine sq (sr (mO (tN i) rfl (mO (T.os 4 1 0 (((slotsG g).map (eSlot true)).length)) rfl (lO (B.lenO (m := (slotsG g).length) (tv (T.os 4 1 0 (((slotsG g).map (eSlot true)).length)) rfl) U123 (List.length_map ..)) (fO (xls' (tv (tN i) rfl) (tv (tN ((slotsG g).length)) rfl)) (nt ?_))))))
  refine cd (i < (slotsG g).length) rfl (fun fhc0 => ?_) fun fhc0 => ?_
  · refine sk ?_
    refine tn (sq (VRun.block (sq (VRun.draw (B := [[], [], [1, 0], [0, 1, 2], [], [], [5, 4], [4, 5, 6], [6, 5, 4, 7], [7, 4, 5, 6, 8, 2, 1, 0, 3]]) (by kernel_rfl) (by kernel_rfl) (lD (OL.loadOn (us := (eGrid false g)) (tv (T.op 0 0) rfl) rfl st34 sz34 (lb rfl) rfl) rfl rfl (mD (tN i) rfl rfl (VRunD.quiet (bi := [1, 0]) rfl VWant.always rfl rfl rfl bn (cS (vc (tv (T.agg (eGrid false g)) rfl) (vc (tv (tN i) rfl) vn)) (LendL.cons (lg okeGrid) (lp rfl ln)) (W_spec_UncheckedIn (n + 0) g ((i : Nat) : Int) (by assumption)) rfl rfl) (fD (B.mul (n := (2 * unG g ((i : Nat) : Int))) (VEv.int .i64 2) (tv (tI (unG g ((i : Nat) : Int))) rfl) (by (rw [wrap64 (by omega)]; done))) rfl rfl (mD (T.os 4 1 0 (((slotsG g).map (eSlot true)).length)) rfl rfl (mD (tN i) rfl rfl ?_))))))))))
    obtain ⟨x1, hx1⟩ : ∃ x, (slotsG g)[i]? = some x := ⟨_, List.getElem?_eq_getElem (by omega)⟩
    refine fD (B.indexAddrO (i := i) (tv (T.os 4 1 0 (((slotsG g).map (eSlot true)).length)) rfl) (tv (tN i) rfl) rfl (by (simp only [List.length_map]; omega)) U123 sz138 if138) rfl rfl (fD (OF.fieldAddrP (tv (T.orp 4 1 i 0) rfl) fa138_3) rfl rfl (lD (OL.loadP1 (t := (tI x1.Length)) (row := (eSlot true x1)) (tv (T.orp 4 1 i 3) rfl) rfl (map_at _ hx1) rfl rfl st3) rfl rfl (fD (xgt (tv (tI (2 * unG g ((i : Nat) : Int))) rfl) (tv (tI x1.Length) rfl)) rfl rfl (VRunD.nil (tn ?_)))))
    refine cd (x1.Length < (2 * unG g ((i : Nat) : Int))) rfl (fun fhc1 => ?_) fun fhc1 => ?_
    · have q1 : badS g i x1 := by unfold badS; omega
      refine sr (fO (OF.assign (VEv.bool true)) (nt (rt (vinB.r (tr (tr (vinB.r (tr (vb (b' := true) rfl ?_)))))))))
      symm; rw [decide_eq_true_eq]; exact .inl ⟨i, x1, hx1, q1⟩
    have q1 : ¬ badS g i x1 := by unfold badS; omega
    refine sk (vinB.n (tn (VRun.region (mO (tN i) rfl (fO (xinc (tv (tN i) rfl) (VEv.int .i64 1) (by omega)) (aO (tN (i + 1)) rfl (VRunO.nil (tn ?_))))))))
    refine ⟨(i + 1 : Nat), ?_, ?_, Wk.mk (fun k => k) ?_ ?_ ?_⟩
    · exact hI'.next hx1 q1
    · omega
    · exact (b2 (b2 (b2 bn)))
    · exact (b3 (b3 bn))
    · exact nd rfl
  refine VRun.exit (vthn.e (vthn.e (vinB.e (tn (sq (sr (fO (OF.assign (VEv.int .i64 0)) (nt (VRun.block ?_)))))))))
  refine VRun.loop (A := Nat) (fun s_ => [(1, (T.op 0 0)), (5, (tN s_))]) (fun s_ => mkO [(0, (Obj.cells (eGrid false g)))]) 1 (fun s_ => s_ ≤ g.Cells.size ∧ ∀ c, c < s_ → ¬ (gridOk g ∧ loneC g c)) (fun s_ => g.Cells.size - s_) (0 : Nat) ?_ (Wk.mk (fun k => k) ?_ ?_ ?_) ?_
  · exact ⟨Nat.zero_le _, fun c hc => by omega⟩
  · exact (b2 (b2 bn))
  · exact (b3 bn)
  · exact nd rfl
  rintro k (hI' : k ≤ g.Cells.size ∧ ∀ c, c < k → ¬ (gridOk g ∧ loneC g c))
  show VRun _ _ _ [(1, (T.op 0 0)), (5, (tN k))] (mkO [(0, (Obj.cells (eGrid false g)))]) 1 _
  have hJ1 := hI'.1
  refine sq (sr (mO (tN k) rfl (lf (tS g.Cells) rfl fa34_2 rfl rfl st9 (lO (B.lenS (tv (tS g.Cells) rfl) U9) (fO (xls' (tv (tN k) rfl) (tv (tN g.Cells.size) rfl)) (nt ?_))))))
  refine cd (k < g.Cells.size) rfl (fun fhc2 => ?_) fun fhc2 => ?_
  · refine sk ?_
    refine tn (sq (VRun.block (sr (lO (OL.loadOn (us := (eGrid false g)) (tv (T.op 0 0) rfl) rfl st34 sz34 (lb rfl) rfl) (mO (tN k) rfl (cO (cS (vc (tv (T.agg (eGrid false g)) rfl) (vc (tv (tN k) rfl) vn)) (LendL.cons (lg okeGrid) (lp rfl ln)) (W_spec_IsWhite (n + 4) g ((k : Nat) : Int) (by assumption)) rfl rfl) (mO (tB (decide (gridOk g ∧ (0 ≤ ((k : Nat) : Int) ∧ ((k : Nat) : Int) ≤ ((g.Cells.size : Nat) : Int) - 1) ∧ bAt g.Cells (Int.toNat ((k : Nat) : Int)) = 46))) rfl ?_)))))))
    refine gw (gridOk g ∧ (0 ≤ ((k : Nat) : Int) ∧ ((k : Nat) : Int) ≤ ((g.Cells.size : Nat) : Int) - 1) ∧ bAt g.Cells (Int.toNat ((k : Nat) : Int)) = 46) (fun fhg34_1 => ?_) fun fhg34_1 => ?_
    · refine gL (dy fhg34_1) rfl rfl (OL.loadOn (us := (eGrid false g)) (tv (T.op 0 0) rfl) rfl st34 sz34 (lb rfl) rfl) ?_
      refine gF (dy fhg34_1) rfl rfl (OF.move (tv (tN k) rfl)) (VRunO.chain (VWant.on rfl rfl (dy fhg34_1)) (OC.callF (us := [(T.agg (eGrid false g)), (tN k)]) (r := (T.sl true 1 ((atG g ((k : Nat) : Int) (slotsG g).length).map (eInt true)))) (r' := (T.os 1 1 0 (((atG g ((k : Nat) : Int) (slotsG g).length).map (eInt true)).length))) (objs := [(Obj.rows 1 ((atG g ((k : Nat) : Int) (slotsG g).length).map (eInt true)))]) rfl (vc (tv (T.agg (eGrid false g)) rfl) (vc (tv (tN k) rfl) vn)) (LendL.cons (lg okeGrid) (lp rfl ln)) (W_spec_SlotsAt (n + 2) g ((k : Nat) : Int) (by assumption)) rfl) (gL (dy fhg34_1) rfl rfl (B.lenO (m := (atG g ((k : Nat) : Int) (slotsG g).length).length) (tv (T.os 1 1 0 (((atG g ((k : Nat) : Int) (slotsG g).length).map (eInt true)).length)) rfl) U25 (List.length_map ..)) (gF (dy fhg34_1) rfl rfl (B.eql (c := (decide ((atG g ((k : Nat) : Int) (slotsG g).length).length = 0))) (tv (tN ((atG g ((k : Nat) : Int) (slotsG g).length).length)) rfl) (VEv.int .i64 0) (decN (by omega))) (fO (OF.pickT (VEv.tmpB rfl (dy fhg34_1)) (tv (tB (decide ((atG g ((k : Nat) : Int) (slotsG g).length).length = 0))) rfl)) (nt ?_)))))
      refine cd ((atG g ((k : Nat) : Int) (slotsG g).length).length = 0) rfl (fun fhc3 => ?_) fun fhc3 => ?_
      · refine sr ?_
        refine fO (OF.assign (VEv.bool true)) (nt (rt (vinB.r (tr (tr (vinB.r (tr (vb (b' := true) rfl ?_))))))))
        symm; rw [decide_eq_true_eq]; exact .inr ⟨k, fhc2, fhg34_1.1, fhg34_1.2.2, atG_none.1 fhc3⟩
      refine sk (vinB.n (tn (VRun.region (mO (tN k) rfl (fO (xinc (tv (tN k) rfl) (VEv.int .i64 1) (by omega)) (aO (tN (k + 1)) rfl (VRunO.nil (tn ?_))))))))
      refine ⟨(k + 1 : Nat), ?_, ?_, Wk.mk (fun k => k) ?_ ?_ ?_⟩
      · exact allNext (ok := fun c => ¬ (gridOk g ∧ loneC g c)) hI' fhc2 (fun h => fhc3 (atG_none.2 h.2.2))
      · omega
      · exact (b2 (b2 bn))
      · exact (b3 bn)
      · exact nd rfl
    refine offs 5 3 true 34 (dz fhg34_1) rfl rfl rfl (fO (OF.pickF (VEv.tmpB rfl (dz fhg34_1)) (VEv.bool false)) (nt (cf rfl (sk (vinB.n (tn (VRun.region (mO (tN k) rfl (fO (xinc (tv (tN k) rfl) (VEv.int .i64 1) (by omega)) (aO (tN (k + 1)) rfl (VRunO.nil ?_)))))))))))
    refine tn ?_
    refine ⟨(k + 1 : Nat), ?_, ?_, Wk.mk (fun k => k) ?_ ?_ ?_⟩
    · exact allNext (ok := fun c => ¬ (gridOk g ∧ loneC g c)) hI' fhc2 (fun h => fhg34_1 ⟨h.1, ⟨by omega, by omega⟩, h.2.1⟩)
    · omega
    · exact (b2 (b2 bn))
    · exact (b3 bn)
    · exact nd rfl
  refine VRun.exit (vthn.e (vthn.e (vinB.e (tn (sr (fO (OF.assign (VEv.bool false)) (nt (rt (vb (b' := false) rfl ?_)))))))))
  symm; rw [decide_eq_false_iff_not]; exact alone_no hNB fhc0 (allEnd (ok := fun c => ¬ (gridOk g ∧ loneC g c)) hI' fhc2)
theorem W_impl_alone (n : Nat) (g : D.Grid) (f : ByteArray) (hc : g.Cells.size ≤ maxLen) (hf : g.Cells.size ≤ f.size) : Pure (acall Tryz.prog (n + 5)) 139 [(T.agg (eGrid false g)), (tS f)] (tB (decide (aloneF g f))) := by
  refine Pure.intro (rs := [ResultVar.tmp 4]) Tryz.func139 rfl rfl rfl (E0 := [(0, (T.agg (eGrid false g))), (1, (tS f))]) rfl ?_
  obtain ⟨hlim, hmx, hmax⟩ := lims
  have hsl := slotsG_len g
  have hll := layG_len g
  refine sr (kO (B.box (ts := (eGrid false g)) (tv (T.agg (eGrid false g)) rfl) nofun rfl) (fO (OF.assign (VEv.bool false)) (nt (sr (kO B.makeMap (aO (T.om 1) rfl (nt (sq (sr (lO (OL.loadOn (us := (eGrid false g)) (tv (T.op 0 0) rfl) rfl st34 sz34 (lb rfl) rfl) (cO (OC.callF (us := [(T.agg (eGrid false g))]) (r := (T.sl true 1 ((layG g).map ((eSl 1 eInt) true)))) (r' := (T.os 1 2 0 (((layG g).map ((eSl 1 eInt) true)).length))) (objs := [(Obj.rows 1 ((layG g).map ((eSl 1 eInt) true)))]) rfl (vc (tv (T.agg (eGrid false g)) rfl) vn) (LendL.cons (lg okeGrid) ln) (W_impl_layout (n + 0) g (by assumption)) rfl) ?_)))))))))))
  refine lO (B.lenO (m := (layG g).length) (tv (T.os 1 2 0 (((layG g).map ((eSl 1 eInt) true)).length)) rfl) U150 (List.length_map ..)) (fO (OF.move (VEv.int .i64 0)) (nt (VRun.block (VRun.wk (Wk.freeze (sz := 1) (k := 2) (rows' := ((layG g).map ((eSl 1 eInt) false))) [13] (bc rfl bn) rfl rfl ((okSl okInt).fzMap _ _)) ?_))))
  have he1 : ([] : List (Int × Int)) = [] := by rfl
  refine VRun.loop (A := Nat × (List (Int × Int))) (fun s_ => [(1, (tS f)), (2, (T.op 0 0)), (4, (tB false)), (5, (T.om 1)), (13, (rd 1 (eSl 1 eInt) (layG g))), (14, (tN ((layG g).length))), (15, (tN s_.1))]) (fun s_ => mkO [(0, (Obj.cells (eGrid false g))), (1, (Obj.map (eM s_.2)))]) 2 (fun s_ => s_.1 ≤ (layG g).length ∧ mapOf s_.2 (inTo g s_.1)) (fun s_ => (layG g).length - s_.1) ((0, []) : Nat × (List (Int × Int))) ?_ (Wk.mk (fun k => k) ?_ ?_ ?_) ?_
  · exact ⟨Nat.zero_le _, fun c => ⟨fun h => absurd h (inTo_zero g c), fun _ => rfl⟩⟩
  · exact (b2 (b2 (b2 (b2 (b2 (b2 (b2 bn)))))))
  · exact (b3 (bc ⟨(congrArg (fun l_ => some (Obj.map (eM l_))) he1), (lb rfl), rfl⟩ bn))
  · exact nd rfl
  rintro ⟨i, m⟩ (hI' : i ≤ (layG g).length ∧ mapOf m (inTo g i))
  show VRun _ _ _ [(1, (tS f)), (2, (T.op 0 0)), (4, (tB false)), (5, (T.om 1)), (13, (rd 1 (eSl 1 eInt) (layG g))), (14, (tN ((layG g).length))), (15, (tN i))] (mkO [(0, (Obj.cells (eGrid false g))), (1, (Obj.map (eM m)))]) 2 _
  have hI1 := hI'.1
  have hM := hI'.2
  refine sr (fO (xls' (tv (tN i) rfl) (tv (tN ((layG g).length)) rfl)) (nt (sq ?_)))
  refine cd (i < (layG g).length) rfl (fun fhc0 => ?_) fun fhc0 => ?_
  · refine sk ?_
    refine tn (sq (VRun.block (sr ?_)))
    obtain ⟨x1, hx1⟩ : ∃ x, (layG g)[i]? = some x := ⟨_, List.getElem?_eq_getElem (by omega)⟩
    obtain ⟨y1, hy1, hq1⟩ := lay_at hx1
    refine fO (OF.indexAddrR (row := ((eSl 1 eInt) false x1)) (i := i) (tv (rd 1 (eSl 1 eInt) (layG g)) rfl) (tv (tN i) rfl) rfl (map_at _ hx1) U150 sz25 if25) (lO (OL.loadR1 (t := (rd 1 eInt x1)) (tv (T.rp [(rd 1 eInt x1)]) rfl) rfl st25) (aO (rd 1 eInt x1) rfl (nt (sr (mO (rd 1 eInt x1) rfl (lO (B.lenR (m := x1.length) (tv (rd 1 eInt x1) rfl) U25 (List.length_map ..)) (fO (OF.move (VEv.int .i64 0)) (nt (VRun.block ?_)))))))))
    refine VRun.loop (A := Nat × (List (Int × Int))) (fun s_ => [(1, (tS f)), (2, (T.op 0 0)), (4, (tB false)), (5, (T.om 1)), (13, (rd 1 (eSl 1 eInt) (layG g))), (14, (tN ((layG g).length))), (15, (tN i)), (19, (rd 1 eInt x1)), (20, (tN x1.length)), (21, (tN s_.1))]) (fun s_ => mkO [(0, (Obj.cells (eGrid false g))), (1, (Obj.map (eM s_.2)))]) 2 (fun s_ => s_.1 ≤ x1.length ∧ mapOf s_.2 (fun c => inTo g i c ∨ c ∈ x1.take s_.1)) (fun s_ => x1.length - s_.1) ((0, m) : Nat × (List (Int × Int))) ?_ (Wk.mk (fun k => k) ?_ ?_ ?_) ?_
    · exact ⟨Nat.zero_le _, hM.congr fun c => by simp⟩
    · exact (b2 (b2 (b2 (b2 (b2 (b2 (b2 (b2 (b2 (b2 bn))))))))))
    · exact (b3 (b3 bn))
    · exact nd rfl
    rintro ⟨k, w⟩ (hI' : k ≤ x1.length ∧ mapOf w (fun c => inTo g i c ∨ c ∈ x1.take k))
    show VRun _ _ _ [(1, (tS f)), (2, (T.op 0 0)), (4, (tB false)), (5, (T.om 1)), (13, (rd 1 (eSl 1 eInt) (layG g))), (14, (tN ((layG g).length))), (15, (tN i)), (19, (rd 1 eInt x1)), (20, (tN x1.length)), (21, (tN k))] (mkO [(0, (Obj.cells (eGrid false g))), (1, (Obj.map (eM w)))]) 2 _
    have hJ1 := hI'.1
    have hl6 := lay_len hy1
    rw [← hq1] at hl6
    refine sr (fO (xls' (tv (tN k) rfl) (tv (tN x1.length) rfl)) (nt (sq ?_)))
    refine cd (k < x1.length) rfl (fun fhc1 => ?_) fun fhc1 => ?_
    · refine sk ?_
      refine tn (sq (VRun.block (sr ?_)))
      obtain ⟨x2, hx2⟩ : ∃ x, x1[k]? = some x := ⟨_, List.getElem?_eq_getElem (by omega)⟩
      skip
      refine fO (OF.indexAddrR (row := (eInt false x2)) (i := k) (tv (rd 1 eInt x1) rfl) (tv (tN k) rfl) rfl (map_at _ hx2) U25 sz3 if3) (lO (OL.loadR1 (t := (tI x2)) (tv (T.rp [(tI x2)]) rfl) rfl st3) (aO (tI x2) rfl (nt (VRun.region (mO (T.om 1) rfl (mO (tI x2) rfl (cO (B.mapSet (l := w) (l' := (mput w x2 1)) (tv (T.om 1) rfl) (tv (tI x2) rfl) (VEv.int .i64 1) rfl U160 U3 rfl) (VRunO.nil (vinB.n (tn (VRun.region ?_)))))))))))
      refine fO (xinc (tv (tN k) rfl) (VEv.int .i64 1) (by omega)) (mO (tN (k + 1)) rfl (VRunO.nil (tn ?_)))
      refine ⟨((k + 1, mput w x2 1) : Nat × (List (Int × Int))), ?_, ?_, Wk.mk (fun k => k) ?_ ?_ ?_⟩
      · exact ⟨by omega, hI'.2.put.congr fun c => by rw [mem_take_next hx2, or_assoc]⟩
      · omega
      · exact (b2 (b2 (b2 (b2 (b2 (b2 (b2 (b2 (b2 (b2 bn))))))))))
      · exact (b3 (b3 bn))
      · exact nd rfl
    refine VRun.exit (vthn.e (vthn.e (vinB.e (vinB.n (tn (VRun.region (fO (xinc (tv (tN i) rfl) (VEv.int .i64 1) (by omega)) (mO (tN (i + 1)) rfl (VRunO.nil (tn ?_))))))))))
    refine ⟨((i + 1, w) : Nat × (List (Int × Int))), ?_, ?_, Wk.mk (fun k => k) ?_ ?_ ?_⟩
    · exact ⟨by omega, hI'.2.congr fun c => by rw [inTo_next hx1, List.take_of_length_le (by omega)]⟩
    · omega
    · exact (b2 (b2 (b2 (b2 (b2 (b2 (b2 bn)))))))
    · exact (b3 (b3 bn))
    · exact nd rfl
  refine VRun.exit (vthn.e (vthn.e (vinB.e (tn (sq (sr (lf (tS g.Cells) rfl fa34_2 rfl rfl st9 (lO (B.lenS (tv (tS g.Cells) rfl) U9) (fO (OF.move (VEv.int .i64 0)) (nt (VRun.block ?_)))))))))))
  refine VRun.loop (A := Nat) (fun s_ => [(1, (tS f)), (2, (T.op 0 0)), (5, (T.om 1)), (31, (tN g.Cells.size)), (32, (tN s_))]) (fun s_ => mkO [(0, (Obj.cells (eGrid false g))), (1, (Obj.map (eM m)))]) 2 (fun s_ => s_ ≤ g.Cells.size ∧ ∀ j, j < s_ → ¬ (loneC g j ∧ openF f j)) (fun s_ => g.Cells.size - s_) (0 : Nat) ?_ (Wk.mk (fun k => k) ?_ ?_ ?_) ?_
  · exact ⟨Nat.zero_le _, fun c hc => by omega⟩
  · exact (b2 (b2 (b2 (b2 (b2 bn)))))
  · exact (b3 (b3 bn))
  · exact nd rfl
  rintro c (hI' : c ≤ g.Cells.size ∧ ∀ j, j < c → ¬ (loneC g j ∧ openF f j))
  show VRun _ _ _ [(1, (tS f)), (2, (T.op 0 0)), (5, (T.om 1)), (31, (tN g.Cells.size)), (32, (tN c))] (mkO [(0, (Obj.cells (eGrid false g))), (1, (Obj.map (eM m)))]) 2 _
  have hJ1 := hI'.1
  refine sr (fO (xls' (tv (tN c) rfl) (tv (tN g.Cells.size) rfl)) (nt (sq ?_)))
  refine cd (c < g.Cells.size) rfl (fun fhc2 => ?_) fun fhc2 => ?_
  · refine sk ?_
    refine tn (sq (VRun.block (sr (mO (tN c) rfl (aO (tN c) rfl (nt (sr (lf (tS g.Cells) rfl fa34_2 rfl rfl st9 (mO (tN c) rfl ?_)))))))))
    have hb2 : c < g.Cells.size := (by omega)
    refine fO (xix (tv (tS g.Cells) rfl) (tv (tN c) rfl) hb2 U9) (fO (xeq (tv (T.int .u8 (bAt g.Cells c)) rfl) (VEv.int .u8 46)) (mO (tB (decide (bAt g.Cells c = 46))) rfl ?_))
    refine gw (bAt g.Cells c = 46) (fun fhg40_3 => ?_) fun fhg40_3 => ?_
    · refine gF (dy fhg40_3) rfl rfl (OF.move (tv (T.om 1) rfl)) ?_
      refine gF (dy fhg40_3) rfl rfl (OF.move (tv (tN c) rfl)) (gL (dy fhg40_3) rfl rfl (B.mapGet (l := m) (n := ((c : Nat) : Int)) (tv (T.om 1) rfl) (tv (tN c) rfl) rfl U160 U3 zo3) (gF (dy fhg40_3) rfl rfl (xeq (tv (tI (mget m ((c : Nat) : Int))) rfl) (VEv.int .i64 0)) (fO (OF.pickT (VEv.tmpB rfl (dy fhg40_3)) (tv (tB (decide (mget m ((c : Nat) : Int) = 0))) rfl)) (mO (tB (decide (mget m ((c : Nat) : Int) = 0))) rfl ?_))))
      refine gw (mget m ((c : Nat) : Int) = 0) (fun fhg46_4 => ?_) fun fhg46_4 => ?_
      · refine gF (dy fhg46_4) rfl rfl (OF.move (tv (tS f) rfl)) ?_
        refine gF (dy fhg46_4) rfl rfl (OF.move (tv (tN c) rfl)) ?_
        have hb5 : c < f.size := (by omega)
        refine gF (dy fhg46_4) rfl rfl (xix (tv (tS f) rfl) (tv (tN c) rfl) hb5 U9) (VRunO.chain (VWant.on rfl rfl (dy fhg46_4)) (cS (vc (tv (T.int .u8 (bAt f c)) rfl) vn) (lps rfl) (W_impl_isLetter (n + 3) (bAt f c) ) rfl rfl) (gF (dy fhg46_4) rfl rfl (xnot (tv (tB (decide (97 ≤ (bAt f c) ∧ (bAt f c) ≤ 122))) rfl)) (fO (OF.pickT (VEv.tmpB rfl (dy fhg46_4)) (tv (tB (!(decide (97 ≤ (bAt f c) ∧ (bAt f c) ≤ 122)))) rfl)) (nt ?_))))
        refine cn (97 ≤ (bAt f c) ∧ (bAt f c) ≤ 122) rfl (fun fhc3 => ?_) fun fhc3 => ?_
        · refine sr ?_
          refine fO (OF.assign (VEv.bool true)) (nt (rt (vinB.r (tr (tr (vinB.r (tr (vb (b' := true) rfl ?_))))))))
          symm; rw [decide_eq_true_eq]; refine ⟨c, fhc2, ⟨?_, fun h => ?_⟩, ?_⟩
          · omega
          · have hq := (hM ((c : Nat) : Int)).1 ((inTo_all fhc0 _).2 h); omega
          · unfold openF; omega
        refine sk (vinB.n (tn (VRun.region (fO (xinc (tv (tN c) rfl) (VEv.int .i64 1) (by omega)) (mO (tN (c + 1)) rfl (VRunO.nil (tn ?_)))))))
        refine ⟨(c + 1 : Nat), ?_, ?_, Wk.mk (fun k => k) ?_ ?_ ?_⟩
        · refine allNext (ok := fun j => ¬ (loneC g j ∧ openF f j)) hI' fhc2 ?_
          rintro ⟨⟨a1, a2⟩, a3⟩
          have hq := (hM ((c : Nat) : Int)).2 (fun h => a2 ((inTo_all fhc0 _).1 h))
          unfold openF at a3; omega
        · omega
        · exact (b2 (b2 (b2 (b2 (b2 bn)))))
        · exact (b3 (b3 bn))
        · exact nd rfl
      refine offs 5 11 true 46 (dz fhg46_4) rfl rfl rfl (fO (OF.pickF (VEv.tmpB rfl (dz fhg46_4)) (VEv.bool false)) (nt (cf rfl (sk (vinB.n (tn (VRun.region (fO (xinc (tv (tN c) rfl) (VEv.int .i64 1) (by omega)) (mO (tN (c + 1)) rfl (VRunO.nil (tn ?_)))))))))))
      refine ⟨(c + 1 : Nat), ?_, ?_, Wk.mk (fun k => k) ?_ ?_ ?_⟩
      · refine allNext (ok := fun j => ¬ (loneC g j ∧ openF f j)) hI' fhc2 ?_
        rintro ⟨⟨a1, a2⟩, a3⟩
        have hq := (hM ((c : Nat) : Int)).2 (fun h => a2 ((inTo_all fhc0 _).1 h))
        unfold openF at a3; omega
      · omega
      · exact (b2 (b2 (b2 (b2 (b2 bn)))))
      · exact (b3 (b3 bn))
      · exact nd rfl
    refine offs 4 5 true 40 (dz fhg40_3) rfl rfl rfl (fO (OF.pickF (VEv.tmpB rfl (dz fhg40_3)) (VEv.bool false)) (mO (tB false) rfl (offs 5 11 true 46 (b := false) rfl rfl rfl rfl (fO (OF.pickF (tv (tB false) rfl) (VEv.bool false)) (nt (cf rfl (sk (vinB.n (tn (VRun.region (fO (xinc (tv (tN c) rfl) (VEv.int .i64 1) (by omega)) ?_)))))))))))
    refine mO (tN (c + 1)) rfl (VRunO.nil (tn ?_))
    refine ⟨(c + 1 : Nat), ?_, ?_, Wk.mk (fun k => k) ?_ ?_ ?_⟩
    · refine allNext (ok := fun j => ¬ (loneC g j ∧ openF f j)) hI' fhc2 ?_
      rintro ⟨⟨a1, a2⟩, a3⟩
      have hq := (hM ((c : Nat) : Int)).2 (fun h => a2 ((inTo_all fhc0 _).1 h))
      unfold openF at a3; omega
    · omega
    · exact (b2 (b2 (b2 (b2 (b2 bn)))))
    · exact (b3 (b3 bn))
    · exact nd rfl
  refine VRun.exit (vthn.e (vthn.e (vinB.e (tn (sr (fO (OF.assign (VEv.bool false)) (nt (rt (vb (b' := false) rfl ?_)))))))))
  symm; rw [decide_eq_false_iff_not]; rintro ⟨c, h1, h2, h3⟩; exact hI'.2 c (by omega) ⟨h2, h3⟩
end Go.Proofs.YtcccmceoplcciaaGreat.AE
