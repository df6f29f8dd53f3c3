/- A part of what the row of FnExactIsDraft uses. Conditions: as each theorem states. -/
import Derived.Test.YtjclbdgjkecbeaaZFnExactIsDraftc
namespace Go.Proofs.Ytjclbdgjkecbeaa.AE
open Go Go.RowKit
set_option linter.unusedVariables false
set_option linter.unusedSimpArgs false
set_option maxRecDepth 20000
set_option maxHeartbeats 2000000
noncomputable section
def gOk (s : ByteArray) (j : Nat) : Prop := bAt s j = 35 ∨ bAt s j = 46
def gridOk (g : D.Grid) : Prop := (2 ≤ g.Rows ∧ g.Rows ≤ 6) ∧ (2 ≤ g.Cols ∧ g.Cols ≤ 6) ∧ ((g.Cells.size : Nat) : Int) = g.Rows * g.Cols ∧ ∀ j, j < g.Cells.size → gOk g.Cells j
instance (g : D.Grid) : Decidable (gridOk g) := Classical.propDecidable _
theorem mulB {a b : Int} (h1 : 2 ≤ a) (h2 : a ≤ 6) (h3 : 2 ≤ b) (h4 : b ≤ 6) : 4 ≤ a * b ∧ a * b ≤ 36 := by
  have e1 : 2 * 2 ≤ a * b := Int.mul_le_mul h1 h3 (by decide) (by omega)
  have e2 : a * b ≤ 6 * 6 := Int.mul_le_mul h2 h4 (by omega) (by decide)
  omega
theorem mulW {a b : Int} (h1 : 2 ≤ a) (h2 : a ≤ 6) (h3 : 2 ≤ b) (h4 : b ≤ 6) : IntKind.i64.wrap (a * b) = a * b := by
  have := mulB h1 h2 h3 h4
  rw [wrap64 (by omega)]
theorem gridOk.size {g : D.Grid} (h : gridOk g) : 4 ≤ g.Cells.size ∧ g.Cells.size ≤ 36 := by
  have := mulB h.1.1 h.1.2 h.2.1.1 h.2.1.2
  have := h.2.2.1
  omega
end
theorem W_spec_IsGrid (n : Nat) (g : D.Grid) (hc : g.Cells.size ≤ maxLen) : Pure (acall Try.prog (n + 2)) 67 [(T.agg (eGrid false g))] (tB (decide (gridOk g))) := by
  refine Pure.intro (rs := [ResultVar.tmp 2]) Try.func67 rfl rfl rfl (E0 := [(0, (T.agg (eGrid false g)))]) rfl ?_
  obtain ⟨hlim, hmx, hmax⟩ := lims
  refine sr (kO (B.box (ts := (eGrid false g)) (tv (T.agg (eGrid false g)) rfl) nofun rfl) (fO (OF.assign (VEv.bool false)) (nt (sq (sr (fO (OF.fieldAddrO (tv (T.op 0 0) rfl) fa29_0) (lO (OL.loadO1 (t := (tI g.Rows)) (tv (T.op 0 0) rfl) rfl rfl st3) (cO (cS (vc (tv (tI g.Rows) rfl) (vc (VEv.int .i64 2) (vc (VEv.int .i64 6) VEvs.nil))) (lp rfl (lp rfl (lp rfl (LendL.nil)))) (W_spec_l1In (n + 0) g.Rows 2 6 ) rfl rfl) (fO (B.not (c := (!(decide (2 ≤ g.Rows ∧ g.Rows ≤ 6)))) (tv (tB (decide (2 ≤ g.Rows ∧ g.Rows ≤ 6))) rfl) rfl) (mO (tB (!(decide (2 ≤ g.Rows ∧ g.Rows ≤ 6)))) rfl ?_))))))))))
  refine gn (2 ≤ g.Rows ∧ g.Rows ≤ 6) (fun fhg8_1 => ?_) fun fhg8_1 => ?_
  · refine oO rfl rfl (ny fhg8_1) ?_
    refine oO rfl rfl (ny fhg8_1) (oO rfl rfl (ny fhg8_1) (oO rfl rfl (ny fhg8_1) (fO (OF.pickT (VEv.tmpB (b := (!(decide (2 ≤ g.Rows ∧ g.Rows ≤ 6)))) rfl (ny fhg8_1)) (VEv.bool true)) (mO (tB true) rfl (VRunO.off (VWant.not (b := true) rfl rfl rfl) (VRunO.off (VWant.not (b := true) rfl rfl rfl) (VRunO.off (VWant.not (b := true) rfl rfl rfl) (VRunO.off (VWant.not (b := true) rfl rfl rfl) (VRunO.off (VWant.not (b := true) rfl rfl rfl) (VRunO.off (VWant.not (b := true) rfl rfl rfl) (VRunO.off (VWant.not (b := true) rfl rfl rfl) ?_)))))))))))
    refine VRunO.off (VWant.not (b := true) rfl rfl rfl) (VRunO.off (VWant.not (b := true) rfl rfl rfl) (fO (OF.pickT (tv (tB true) rfl) (VEv.bool true)) (nt ?_)))
    refine VRun.cond (tv (tB true) rfl) (fun hk2 => ?_) (fun hk2 => ?_)
    · skip
      refine sr (fO (OF.assign (VEv.bool false)) (nt (rt (tr (vb (b' := false) rfl ?_)))))
      first | (symm; rw [decide_eq_true_eq]; refine ⟨?_, ?_, ?_, allEnd hI' fhc1⟩ <;> assumption) | (refine decN ⟨fun h => ?_, fun h => ?_⟩ <;> first | omega | exact ⟨by omega, by omega, by omega, allEnd hI' fhc1⟩) | (symm; rw [decide_eq_false_iff_not]; rintro ⟨g1, g2, g3, g4⟩; first | omega | (have := g4 i fhc1; unfold gOk at this; omega))
    · exact absurd (rfl.symm.trans hk2) (by decide)
  refine gF (nz fhg8_1) rfl rfl (OF.fieldAddrO (tv (T.op 0 0) rfl) fa29_1) (gL (nz fhg8_1) rfl rfl (OL.loadO1 (t := (tI g.Cols)) (tv (T.op 0 1) rfl) rfl rfl st3) (VRunO.chain (VWant.on (b := (!(decide (2 ≤ g.Rows ∧ g.Rows ≤ 6)))) rfl rfl (nz fhg8_1)) (cS (vc (tv (tI g.Cols) rfl) (vc (VEv.int .i64 2) (vc (VEv.int .i64 6) VEvs.nil))) (lp rfl (lp rfl (lp rfl (LendL.nil)))) (W_spec_l1In (n + 0) g.Cols 2 6 ) rfl rfl) (gF (nz fhg8_1) rfl rfl (B.not (c := (!(decide (2 ≤ g.Cols ∧ g.Cols ≤ 6)))) (tv (tB (decide (2 ≤ g.Cols ∧ g.Cols ≤ 6))) rfl) rfl) (fO (OF.pickF (VEv.tmpB (b := (!(decide (2 ≤ g.Rows ∧ g.Rows ≤ 6)))) rfl (nz fhg8_1)) (tv (tB (!(decide (2 ≤ g.Cols ∧ g.Cols ≤ 6)))) rfl)) (mO (tB (!(decide (2 ≤ g.Cols ∧ g.Cols ≤ 6)))) rfl ?_)))))
  refine gn (2 ≤ g.Cols ∧ g.Cols ≤ 6) (fun fhg14_3 => ?_) fun fhg14_3 => ?_
  · refine oO rfl rfl (ny fhg14_3) ?_
    refine oO rfl rfl (ny fhg14_3) (oO rfl rfl (ny fhg14_3) (oO rfl rfl (ny fhg14_3) (oO rfl rfl (ny fhg14_3) (oO rfl rfl (ny fhg14_3) (oO rfl rfl (ny fhg14_3) (oO rfl rfl (ny fhg14_3) (oO rfl rfl (ny fhg14_3) (fO (OF.pickT (VEv.tmpB (b := (!(decide (2 ≤ g.Cols ∧ g.Cols ≤ 6)))) rfl (ny fhg14_3)) (VEv.bool true)) (nt ?_)))))))))
    refine VRun.cond (tv (tB true) rfl) (fun hk4 => ?_) (fun hk4 => ?_)
    · skip
      refine sr (fO (OF.assign (VEv.bool false)) (nt (rt (tr (vb (b' := false) rfl ?_)))))
      first | (symm; rw [decide_eq_true_eq]; refine ⟨?_, ?_, ?_, allEnd hI' fhc1⟩ <;> assumption) | (refine decN ⟨fun h => ?_, fun h => ?_⟩ <;> first | omega | exact ⟨by omega, by omega, by omega, allEnd hI' fhc1⟩) | (symm; rw [decide_eq_false_iff_not]; rintro ⟨g1, g2, g3, g4⟩; first | omega | (have := g4 i fhc1; unfold gOk at this; omega))
    · exact absurd (rfl.symm.trans hk4) (by decide)
  refine gF (nz fhg14_3) rfl rfl (OF.fieldAddrO (tv (T.op 0 0) rfl) fa29_2) (gL (nz fhg14_3) rfl rfl (OL.loadO1 (t := (tS g.Cells)) (tv (T.op 0 2) rfl) rfl rfl st9) (gL (nz fhg14_3) rfl rfl (B.lenS (tv (tS g.Cells) rfl) Try.underlying9) (gF (nz fhg14_3) rfl rfl (OF.fieldAddrO (tv (T.op 0 0) rfl) fa29_0) (gL (nz fhg14_3) rfl rfl (OL.loadO1 (t := (tI g.Rows)) (tv (T.op 0 0) rfl) rfl rfl st3) (gF (nz fhg14_3) rfl rfl (OF.fieldAddrO (tv (T.op 0 0) rfl) fa29_1) (gL (nz fhg14_3) rfl rfl (OL.loadO1 (t := (tI g.Cols)) (tv (T.op 0 1) rfl) rfl rfl st3) (gF (nz fhg14_3) rfl rfl (B.mul (n := (g.Rows * g.Cols)) (tv (tI g.Rows) rfl) (tv (tI g.Cols) rfl) (by first | (refine mulW ?_ ?_ ?_ ?_ <;> omega) | rfl | (rw [wrap64 (by omega)]; omega) | (rw [wrap64 (by omega)]; done))) (gF (nz fhg14_3) rfl rfl (B.neq (c := (!(decide (((g.Cells.size : Nat) : Int) = (g.Rows * g.Cols))))) (tv (tN g.Cells.size) rfl) (tv (tI (g.Rows * g.Cols)) rfl) rfl) (fO (OF.pickF (VEv.tmpB (b := (!(decide (2 ≤ g.Cols ∧ g.Cols ≤ 6)))) rfl (nz fhg14_3)) (tv (tB (!(decide (((g.Cells.size : Nat) : Int) = (g.Rows * g.Cols))))) rfl)) (nt ?_))))))))))
  refine cn (((g.Cells.size : Nat) : Int) = (g.Rows * g.Cols)) rfl (fun fhc0 => ?_) fun fhc0 => ?_
  · refine sr ?_
    refine fO (OF.assign (VEv.bool false)) (nt (rt (tr (vb (b' := false) rfl ?_))))
    first | (symm; rw [decide_eq_true_eq]; refine ⟨?_, ?_, ?_, allEnd hI' fhc1⟩ <;> assumption) | (refine decN ⟨fun h => ?_, fun h => ?_⟩ <;> first | omega | exact ⟨by omega, by omega, by omega, allEnd hI' fhc1⟩) | (symm; rw [decide_eq_false_iff_not]; rintro ⟨g1, g2, g3, g4⟩; first | omega | (have := g4 i fhc1; unfold gOk at this; omega))
  refine sk (tn (sq (sr (fO (OF.assign (VEv.int .i64 0)) (nt (VRun.block ?_))))))
  refine VRun.loop (A := Nat) (fun s_ => [(1, (T.op 0 0)), (3, (tN s_))]) (fun s_ => mkO [(0, (Obj.cells (eGrid false g)))]) 1 (fun s_ => s_ ≤ g.Cells.size ∧ ∀ j, j < s_ → gOk g.Cells j) (fun s_ => g.Cells.size - s_) (0 : Nat) ?_ (Wk.mk (fun k => k) ?_ ?_ ?_) ?_
  · exact ⟨Nat.zero_le _, fun j hj => by omega⟩
  · exact (b2 (b2 (bn)))
  · exact (b3 (bn))
  · show List.Nodup ([0] : List Nat)
    decide
  rintro i (hI' : i ≤ g.Cells.size ∧ ∀ j, j < i → gOk g.Cells j)
  show VRun _ _ _ [(1, (T.op 0 0)), (3, (tN i))] (mkO [(0, (Obj.cells (eGrid false g)))]) 1 _
  have hI1 := hI'.1
  refine sq (sr (mO (tN i) rfl (fO (OF.fieldAddrO (tv (T.op 0 0) rfl) fa29_2) (lO (OL.loadO1 (t := (tS g.Cells)) (tv (T.op 0 2) rfl) rfl rfl st9) (lO (B.lenS (tv (tS g.Cells) rfl) Try.underlying9) (fO (B.lss (c := (decide (i < g.Cells.size))) (tv (tN i) rfl) (tv (tN g.Cells.size) rfl) (by first | (refine mulW ?_ ?_ ?_ ?_ <;> omega) | (exact decN (by omega)))) (nt ?_)))))))
  refine cd (i < g.Cells.size) rfl (fun fhc1 => ?_) fun fhc1 => ?_
  · refine sk ?_
    refine tn (sq (VRun.block (sr (fO (OF.fieldAddrO (tv (T.op 0 0) rfl) fa29_2) (lO (OL.loadO1 (t := (tS g.Cells)) (tv (T.op 0 2) rfl) rfl rfl st9) (mO (tN i) rfl ?_))))))
    have hb5 : i < g.Cells.size := (by first | (refine mulW ?_ ?_ ?_ ?_ <;> omega) | omega)
    refine fO (B.index (n := (bAt g.Cells i)) (i := i) (tv (tS g.Cells) rfl) (tv (tN i) rfl) rfl hb5 Try.underlying9 (bAt_eq hb5)) (fO (B.neq (c := (!(decide (bAt g.Cells i = 35)))) (tv (T.int .u8 (bAt g.Cells i)) rfl) (VEv.int .u8 35) rfl) (mO (tB (!(decide (bAt g.Cells i = 35)))) rfl ?_))
    refine gn (bAt g.Cells i = 35) (fun fhg37_6 => ?_) fun fhg37_6 => ?_
    · refine gF (ny fhg37_6) rfl rfl (OF.fieldAddrO (tv (T.op 0 0) rfl) fa29_2) ?_
      refine gL (ny fhg37_6) rfl rfl (OL.loadO1 (t := (tS g.Cells)) (tv (T.op 0 2) rfl) rfl rfl st9) (gF (ny fhg37_6) rfl rfl (OF.move (tv (tN i) rfl)) ?_)
      have hb7 : i < g.Cells.size := (by first | (refine mulW ?_ ?_ ?_ ?_ <;> omega) | omega)
      refine gF (ny fhg37_6) rfl rfl (B.index (n := (bAt g.Cells i)) (i := i) (tv (tS g.Cells) rfl) (tv (tN i) rfl) rfl hb7 Try.underlying9 (bAt_eq hb7)) (gF (ny fhg37_6) rfl rfl (B.neq (c := (!(decide (bAt g.Cells i = 46)))) (tv (T.int .u8 (bAt g.Cells i)) rfl) (VEv.int .u8 46) rfl) (fO (OF.pickT (VEv.tmpB (b := (!(decide (bAt g.Cells i = 35)))) rfl (ny fhg37_6)) (tv (tB (!(decide (bAt g.Cells i = 46)))) rfl)) (nt ?_)))
      refine cn (bAt g.Cells i = 46) rfl (fun fhc2 => ?_) fun fhc2 => ?_
      · refine sr ?_
        refine fO (OF.assign (VEv.bool false)) (nt (rt (vinB.r (tr (tr (vinB.r (tr (vb (b' := false) rfl ?_))))))))
        first | (symm; rw [decide_eq_true_eq]; refine ⟨?_, ?_, ?_, allEnd hI' fhc1⟩ <;> assumption) | (refine decN ⟨fun h => ?_, fun h => ?_⟩ <;> first | omega | exact ⟨by omega, by omega, by omega, allEnd hI' fhc1⟩) | (symm; rw [decide_eq_false_iff_not]; rintro ⟨g1, g2, g3, g4⟩; first | omega | (have := g4 i fhc1; unfold gOk at this; omega))
      refine sk (vinB.n (tn (VRun.region (mO (tN i) rfl (fO (B.add (n := (((i + 1) : Nat) : Int)) (tv (tN i) rfl) (VEv.int .i64 1) (by first | (refine mulW ?_ ?_ ?_ ?_ <;> omega) | rfl | (rw [wrap64 (by omega)]; omega) | (rw [wrap64 (by omega)]; done))) (aO (tN (i + 1)) rfl (VRunO.nil (tn ?_))))))))
      refine ⟨(i + 1 : Nat), ?_, ?_, Wk.mk (fun k => k) ?_ ?_ ?_⟩
      · refine allNext hI' fhc1 ?_; unfold gOk; omega
      · first | omega | (simp only []; omega) | (show _ < _; omega) | (simp; omega)
      · exact (b2 (b2 (bn)))
      · exact (b3 (bn))
      · show List.Nodup ([0] : List Nat)
        decide
    refine oO rfl rfl (nz fhg37_6) (oO rfl rfl (nz fhg37_6) (oO rfl rfl (nz fhg37_6) (oO rfl rfl (nz fhg37_6) (oO rfl rfl (nz fhg37_6) (fO (OF.pickF (VEv.tmpB (b := (!(decide (bAt g.Cells i = 35)))) rfl (nz fhg37_6)) (VEv.bool false)) (nt ?_))))))
    refine VRun.cond (tv (tB false) rfl) (fun hk8 => ?_) (fun hk8 => ?_)
    · exact absurd (rfl.symm.trans hk8) (by decide)
    · skip
      refine sk (vinB.n (tn (VRun.region (mO (tN i) rfl (fO (B.add (n := (((i + 1) : Nat) : Int)) (tv (tN i) rfl) (VEv.int .i64 1) (by first | (refine mulW ?_ ?_ ?_ ?_ <;> omega) | rfl | (rw [wrap64 (by omega)]; omega) | (rw [wrap64 (by omega)]; done))) (aO (tN (i + 1)) rfl (VRunO.nil (tn ?_))))))))
      refine ⟨(i + 1 : Nat), ?_, ?_, Wk.mk (fun k => k) ?_ ?_ ?_⟩
      · refine allNext hI' fhc1 ?_; unfold gOk; omega
      · first | omega | (simp only []; omega) | (show _ < _; omega) | (simp; omega)
      · exact (b2 (b2 (bn)))
      · exact (b3 (bn))
      · show List.Nodup ([0] : List Nat)
        decide
  refine VRun.exit (vthn.e (vthn.e (vinB.e (tn (sr (fO (OF.assign (VEv.bool true)) (nt (rt (vb (b' := true) rfl ?_)))))))))
  first | (symm; rw [decide_eq_true_eq]; refine ⟨?_, ?_, ?_, allEnd hI' fhc1⟩ <;> assumption) | (refine decN ⟨fun h => ?_, fun h => ?_⟩ <;> first | omega | exact ⟨by omega, by omega, by omega, allEnd hI' fhc1⟩) | (symm; rw [decide_eq_false_iff_not]; rintro ⟨g1, g2, g3, g4⟩; first | omega | (have := g4 i fhc1; unfold gOk at this; omega))
theorem W_impl_IsGrid (n : Nat) (g : D.Grid) (hc : g.Cells.size ≤ maxLen) : Pure (acall Try.prog (n + 2)) 73 [(T.agg (eGrid false g))] (tB (decide (gridOk g))) := by
  refine Pure.intro (rs := [ResultVar.tmp 2]) Try.func73 rfl rfl rfl (E0 := [(0, (T.agg (eGrid false g)))]) rfl ?_
  obtain ⟨hlim, hmx, hmax⟩ := lims
  refine sr (kO (B.box (ts := (eGrid false g)) (tv (T.agg (eGrid false g)) rfl) nofun rfl) (fO (OF.assign (VEv.bool false)) (nt (sq (sr (fO (OF.fieldAddrO (tv (T.op 0 0) rfl) fa29_0) (lO (OL.loadO1 (t := (tI g.Rows)) (tv (T.op 0 0) rfl) rfl rfl st3) (cO (cS (vc (tv (tI g.Rows) rfl) (vc (VEv.int .i64 2) (vc (VEv.int .i64 6) VEvs.nil))) (lp rfl (lp rfl (lp rfl (LendL.nil)))) (W_impl_InRange (n + 0) g.Rows 2 6 ) rfl rfl) (fO (B.not (c := (!(decide (2 ≤ g.Rows ∧ g.Rows ≤ 6)))) (tv (tB (decide (2 ≤ g.Rows ∧ g.Rows ≤ 6))) rfl) rfl) (mO (tB (!(decide (2 ≤ g.Rows ∧ g.Rows ≤ 6)))) rfl ?_))))))))))
  refine gn (2 ≤ g.Rows ∧ g.Rows ≤ 6) (fun fhg8_1 => ?_) fun fhg8_1 => ?_
  · refine oO rfl rfl (ny fhg8_1) ?_
    refine oO rfl rfl (ny fhg8_1) (oO rfl rfl (ny fhg8_1) (oO rfl rfl (ny fhg8_1) (fO (OF.pickT (VEv.tmpB (b := (!(decide (2 ≤ g.Rows ∧ g.Rows ≤ 6)))) rfl (ny fhg8_1)) (VEv.bool true)) (mO (tB true) rfl (VRunO.off (VWant.not (b := true) rfl rfl rfl) (VRunO.off (VWant.not (b := true) rfl rfl rfl) (VRunO.off (VWant.not (b := true) rfl rfl rfl) (VRunO.off (VWant.not (b := true) rfl rfl rfl) (VRunO.off (VWant.not (b := true) rfl rfl rfl) (VRunO.off (VWant.not (b := true) rfl rfl rfl) (VRunO.off (VWant.not (b := true) rfl rfl rfl) ?_)))))))))))
    refine VRunO.off (VWant.not (b := true) rfl rfl rfl) (VRunO.off (VWant.not (b := true) rfl rfl rfl) (fO (OF.pickT (tv (tB true) rfl) (VEv.bool true)) (nt ?_)))
    refine VRun.cond (tv (tB true) rfl) (fun hk2 => ?_) (fun hk2 => ?_)
    · skip
      refine sr (fO (OF.assign (VEv.bool false)) (nt (rt (tr (vb (b' := false) rfl ?_)))))
      first | (symm; rw [decide_eq_true_eq]; refine ⟨?_, ?_, ?_, allEnd hI' fhc1⟩ <;> assumption) | (refine decN ⟨fun h => ?_, fun h => ?_⟩ <;> first | omega | exact ⟨by omega, by omega, by omega, allEnd hI' fhc1⟩) | (symm; rw [decide_eq_false_iff_not]; rintro ⟨g1, g2, g3, g4⟩; first | omega | (have := g4 i fhc1; unfold gOk at this; omega))
    · exact absurd (rfl.symm.trans hk2) (by decide)
  refine gF (nz fhg8_1) rfl rfl (OF.fieldAddrO (tv (T.op 0 0) rfl) fa29_1) (gL (nz fhg8_1) rfl rfl (OL.loadO1 (t := (tI g.Cols)) (tv (T.op 0 1) rfl) rfl rfl st3) (VRunO.chain (VWant.on (b := (!(decide (2 ≤ g.Rows ∧ g.Rows ≤ 6)))) rfl rfl (nz fhg8_1)) (cS (vc (tv (tI g.Cols) rfl) (vc (VEv.int .i64 2) (vc (VEv.int .i64 6) VEvs.nil))) (lp rfl (lp rfl (lp rfl (LendL.nil)))) (W_impl_InRange (n + 0) g.Cols 2 6 ) rfl rfl) (gF (nz fhg8_1) rfl rfl (B.not (c := (!(decide (2 ≤ g.Cols ∧ g.Cols ≤ 6)))) (tv (tB (decide (2 ≤ g.Cols ∧ g.Cols ≤ 6))) rfl) rfl) (fO (OF.pickF (VEv.tmpB (b := (!(decide (2 ≤ g.Rows ∧ g.Rows ≤ 6)))) rfl (nz fhg8_1)) (tv (tB (!(decide (2 ≤ g.Cols ∧ g.Cols ≤ 6)))) rfl)) (mO (tB (!(decide (2 ≤ g.Cols ∧ g.Cols ≤ 6)))) rfl ?_)))))
  refine gn (2 ≤ g.Cols ∧ g.Cols ≤ 6) (fun fhg14_3 => ?_) fun fhg14_3 => ?_
  · refine oO rfl rfl (ny fhg14_3) ?_
    refine oO rfl rfl (ny fhg14_3) (oO rfl rfl (ny fhg14_3) (oO rfl rfl (ny fhg14_3) (oO rfl rfl (ny fhg14_3) (oO rfl rfl (ny fhg14_3) (oO rfl rfl (ny fhg14_3) (oO rfl rfl (ny fhg14_3) (oO rfl rfl (ny fhg14_3) (fO (OF.pickT (VEv.tmpB (b := (!(decide (2 ≤ g.Cols ∧ g.Cols ≤ 6)))) rfl (ny fhg14_3)) (VEv.bool true)) (nt ?_)))))))))
    refine VRun.cond (tv (tB true) rfl) (fun hk4 => ?_) (fun hk4 => ?_)
    · skip
      refine sr (fO (OF.assign (VEv.bool false)) (nt (rt (tr (vb (b' := false) rfl ?_)))))
      first | (symm; rw [decide_eq_true_eq]; refine ⟨?_, ?_, ?_, allEnd hI' fhc1⟩ <;> assumption) | (refine decN ⟨fun h => ?_, fun h => ?_⟩ <;> first | omega | exact ⟨by omega, by omega, by omega, allEnd hI' fhc1⟩) | (symm; rw [decide_eq_false_iff_not]; rintro ⟨g1, g2, g3, g4⟩; first | omega | (have := g4 i fhc1; unfold gOk at this; omega))
    · exact absurd (rfl.symm.trans hk4) (by decide)
  refine gF (nz fhg14_3) rfl rfl (OF.fieldAddrO (tv (T.op 0 0) rfl) fa29_2) (gL (nz fhg14_3) rfl rfl (OL.loadO1 (t := (tS g.Cells)) (tv (T.op 0 2) rfl) rfl rfl st9) (gL (nz fhg14_3) rfl rfl (B.lenS (tv (tS g.Cells) rfl) Try.underlying9) (gF (nz fhg14_3) rfl rfl (OF.fieldAddrO (tv (T.op 0 0) rfl) fa29_0) (gL (nz fhg14_3) rfl rfl (OL.loadO1 (t := (tI g.Rows)) (tv (T.op 0 0) rfl) rfl rfl st3) (gF (nz fhg14_3) rfl rfl (OF.fieldAddrO (tv (T.op 0 0) rfl) fa29_1) (gL (nz fhg14_3) rfl rfl (OL.loadO1 (t := (tI g.Cols)) (tv (T.op 0 1) rfl) rfl rfl st3) (gF (nz fhg14_3) rfl rfl (B.mul (n := (g.Rows * g.Cols)) (tv (tI g.Rows) rfl) (tv (tI g.Cols) rfl) (by first | (refine mulW ?_ ?_ ?_ ?_ <;> omega) | rfl | (rw [wrap64 (by omega)]; omega) | (rw [wrap64 (by omega)]; done))) (gF (nz fhg14_3) rfl rfl (B.neq (c := (!(decide (((g.Cells.size : Nat) : Int) = (g.Rows * g.Cols))))) (tv (tN g.Cells.size) rfl) (tv (tI (g.Rows * g.Cols)) rfl) rfl) (fO (OF.pickF (VEv.tmpB (b := (!(decide (2 ≤ g.Cols ∧ g.Cols ≤ 6)))) rfl (nz fhg14_3)) (tv (tB (!(decide (((g.Cells.size : Nat) : Int) = (g.Rows * g.Cols))))) rfl)) (nt ?_))))))))))
  refine cn (((g.Cells.size : Nat) : Int) = (g.Rows * g.Cols)) rfl (fun fhc0 => ?_) fun fhc0 => ?_
  · refine sr ?_
    refine fO (OF.assign (VEv.bool false)) (nt (rt (tr (vb (b' := false) rfl ?_))))
    first | (symm; rw [decide_eq_true_eq]; refine ⟨?_, ?_, ?_, allEnd hI' fhc1⟩ <;> assumption) | (refine decN ⟨fun h => ?_, fun h => ?_⟩ <;> first | omega | exact ⟨by omega, by omega, by omega, allEnd hI' fhc1⟩) | (symm; rw [decide_eq_false_iff_not]; rintro ⟨g1, g2, g3, g4⟩; first | omega | (have := g4 i fhc1; unfold gOk at this; omega))
  refine sk (tn (sq (sr (fO (OF.fieldAddrO (tv (T.op 0 0) rfl) fa29_2) (lO (OL.loadO1 (t := (tS g.Cells)) (tv (T.op 0 2) rfl) rfl rfl st9) (lO (B.lenS (tv (tS g.Cells) rfl) Try.underlying9) (fO (OF.move (VEv.int .i64 0)) (nt (VRun.block ?_)))))))))
  refine VRun.loop (A := Nat) (fun s_ => [(1, (T.op 0 0)), (27, (tN g.Cells.size)), (28, (tN s_))]) (fun s_ => mkO [(0, (Obj.cells (eGrid false g)))]) 1 (fun s_ => s_ ≤ g.Cells.size ∧ ∀ j, j < s_ → gOk g.Cells j) (fun s_ => g.Cells.size - s_) (0 : Nat) ?_ (Wk.mk (fun k => k) ?_ ?_ ?_) ?_
  · exact ⟨Nat.zero_le _, fun j hj => by omega⟩
  · exact (b2 (b2 (b2 (bn))))
  · exact (b3 (bn))
  · show List.Nodup ([0] : List Nat)
    decide
  rintro i (hI' : i ≤ g.Cells.size ∧ ∀ j, j < i → gOk g.Cells j)
  show VRun _ _ _ [(1, (T.op 0 0)), (27, (tN g.Cells.size)), (28, (tN i))] (mkO [(0, (Obj.cells (eGrid false g)))]) 1 _
  have hI1 := hI'.1
  refine sr (fO (B.lss (c := (decide (i < g.Cells.size))) (tv (tN i) rfl) (tv (tN g.Cells.size) rfl) (by first | (refine mulW ?_ ?_ ?_ ?_ <;> omega) | (exact decN (by omega)))) (nt (sq ?_)))
  refine cd (i < g.Cells.size) rfl (fun fhc1 => ?_) fun fhc1 => ?_
  · refine sk ?_
    refine tn (sq (VRun.block (sr (mO (tN i) rfl (aO (tN i) rfl (nt (sr (fO (OF.fieldAddrO (tv (T.op 0 0) rfl) fa29_2) (lO (OL.loadO1 (t := (tS g.Cells)) (tv (T.op 0 2) rfl) rfl rfl st9) (mO (tN i) rfl ?_))))))))))
    have hb5 : i < g.Cells.size := (by first | (refine mulW ?_ ?_ ?_ ?_ <;> omega) | omega)
    refine fO (B.index (n := (bAt g.Cells i)) (i := i) (tv (tS g.Cells) rfl) (tv (tN i) rfl) rfl hb5 Try.underlying9 (bAt_eq hb5)) (fO (B.neq (c := (!(decide (bAt g.Cells i = 35)))) (tv (T.int .u8 (bAt g.Cells i)) rfl) (VEv.int .u8 35) rfl) (mO (tB (!(decide (bAt g.Cells i = 35)))) rfl ?_))
    refine gn (bAt g.Cells i = 35) (fun fhg36_6 => ?_) fun fhg36_6 => ?_
    · refine gF (ny fhg36_6) rfl rfl (OF.fieldAddrO (tv (T.op 0 0) rfl) fa29_2) ?_
      refine gL (ny fhg36_6) rfl rfl (OL.loadO1 (t := (tS g.Cells)) (tv (T.op 0 2) rfl) rfl rfl st9) (gF (ny fhg36_6) rfl rfl (OF.move (tv (tN i) rfl)) ?_)
      have hb7 : i < g.Cells.size := (by first | (refine mulW ?_ ?_ ?_ ?_ <;> omega) | omega)
      refine gF (ny fhg36_6) rfl rfl (B.index (n := (bAt g.Cells i)) (i := i) (tv (tS g.Cells) rfl) (tv (tN i) rfl) rfl hb7 Try.underlying9 (bAt_eq hb7)) (gF (ny fhg36_6) rfl rfl (B.neq (c := (!(decide (bAt g.Cells i = 46)))) (tv (T.int .u8 (bAt g.Cells i)) rfl) (VEv.int .u8 46) rfl) (fO (OF.pickT (VEv.tmpB (b := (!(decide (bAt g.Cells i = 35)))) rfl (ny fhg36_6)) (tv (tB (!(decide (bAt g.Cells i = 46)))) rfl)) (nt ?_)))
      refine cn (bAt g.Cells i = 46) rfl (fun fhc2 => ?_) fun fhc2 => ?_
      · refine sr ?_
        refine fO (OF.assign (VEv.bool false)) (nt (rt (vinB.r (tr (tr (vinB.r (tr (vb (b' := false) rfl ?_))))))))
        first | (symm; rw [decide_eq_true_eq]; refine ⟨?_, ?_, ?_, allEnd hI' fhc1⟩ <;> assumption) | (refine decN ⟨fun h => ?_, fun h => ?_⟩ <;> first | omega | exact ⟨by omega, by omega, by omega, allEnd hI' fhc1⟩) | (symm; rw [decide_eq_false_iff_not]; rintro ⟨g1, g2, g3, g4⟩; first | omega | (have := g4 i fhc1; unfold gOk at this; omega))
      refine sk (vinB.n (tn (VRun.region (fO (B.add (n := (((i + 1) : Nat) : Int)) (tv (tN i) rfl) (VEv.int .i64 1) (by first | (refine mulW ?_ ?_ ?_ ?_ <;> omega) | rfl | (rw [wrap64 (by omega)]; omega) | (rw [wrap64 (by omega)]; done))) (mO (tN (i + 1)) rfl (VRunO.nil (tn ?_)))))))
      refine ⟨(i + 1 : Nat), ?_, ?_, Wk.mk (fun k => k) ?_ ?_ ?_⟩
      · refine allNext hI' fhc1 ?_; unfold gOk; omega
      · first | omega | (simp only []; omega) | (show _ < _; omega) | (simp; omega)
      · exact (b2 (b2 (b2 (bn))))
      · exact (b3 (bn))
      · show List.Nodup ([0] : List Nat)
        decide
    refine oO rfl rfl (nz fhg36_6) (oO rfl rfl (nz fhg36_6) (oO rfl rfl (nz fhg36_6) (oO rfl rfl (nz fhg36_6) (oO rfl rfl (nz fhg36_6) (fO (OF.pickF (VEv.tmpB (b := (!(decide (bAt g.Cells i = 35)))) rfl (nz fhg36_6)) (VEv.bool false)) (nt ?_))))))
    refine VRun.cond (tv (tB false) rfl) (fun hk8 => ?_) (fun hk8 => ?_)
    · exact absurd (rfl.symm.trans hk8) (by decide)
    · skip
      refine sk (vinB.n (tn (VRun.region (fO (B.add (n := (((i + 1) : Nat) : Int)) (tv (tN i) rfl) (VEv.int .i64 1) (by first | (refine mulW ?_ ?_ ?_ ?_ <;> omega) | rfl | (rw [wrap64 (by omega)]; omega) | (rw [wrap64 (by omega)]; done))) (mO (tN (i + 1)) rfl (VRunO.nil (tn ?_)))))))
      refine ⟨(i + 1 : Nat), ?_, ?_, Wk.mk (fun k => k) ?_ ?_ ?_⟩
      · refine allNext hI' fhc1 ?_; unfold gOk; omega
      · first | omega | (simp only []; omega) | (show _ < _; omega) | (simp; omega)
      · exact (b2 (b2 (b2 (bn))))
      · exact (b3 (bn))
      · show List.Nodup ([0] : List Nat)
        decide
  refine VRun.exit (vthn.e (vthn.e (vinB.e (tn (sr (fO (OF.assign (VEv.bool true)) (nt (rt (vb (b' := true) rfl ?_)))))))))
  first | (symm; rw [decide_eq_true_eq]; refine ⟨?_, ?_, ?_, allEnd hI' fhc1⟩ <;> assumption) | (refine decN ⟨fun h => ?_, fun h => ?_⟩ <;> first | omega | exact ⟨by omega, by omega, by omega, allEnd hI' fhc1⟩) | (symm; rw [decide_eq_false_iff_not]; rintro ⟨g1, g2, g3, g4⟩; first | omega | (have := g4 i fhc1; unfold gOk at this; omega))
noncomputable section
def backTo (s : ByteArray) : Nat → ByteArray
  | 0 => ⟨#[]⟩
  | i + 1 => s.extract i (i + 1) ++ backTo s i
def back (s : ByteArray) : ByteArray := if s.size ≤ 100 then backTo s s.size else ⟨#[]⟩
theorem backTo_size {s : ByteArray} : ∀ {i : Nat}, i ≤ s.size → (backTo s i).size = i
  | 0, _ => rfl
  | i + 1, h => by
    simp only [backTo, ByteArray.size_append, ByteArray.size_extract, backTo_size (show i ≤ s.size by omega)]
    omega
theorem back_end {s : ByteArray} {i : Nat} (h1 : i ≤ s.size) (h2 : s.size ≤ 100 ∨ i = 0) (h3 : ¬ i < s.size ∨ ¬ s.size ≤ 100) : backTo s i = back s := by
  unfold back
  split
  · rw [show i = s.size by omega]
  · rw [show i = 0 by omega]; rfl
def turnG (g : D.Grid) : D.Grid := if gridOk g then D.Grid.mk g.Rows g.Cols (back g.Cells) else D.Grid.mk 0 0 ByteArray.empty
def symG (g : D.Grid) : Prop := gridOk g ∧ D.Grid.mk g.Rows g.Cols (back g.Cells) = g
instance (g : D.Grid) : Decidable (symG g) := Classical.propDecidable _
theorem turnG_sym {g : D.Grid} (h : gridOk g) : turnG g = g ↔ symG g := by
  unfold turnG symG
  rw [if_pos h]
  exact ⟨fun e => ⟨h, e⟩, fun e => e.2⟩
end
theorem W_spec_Backwards (n : Nat) (s : ByteArray) (hc : s.size ≤ maxLen) : Pure (acall Try.prog (n + 1)) 104 [(tS s)] (tS (back s)) := by
  refine Pure.intro (rs := [ResultVar.tmp 2]) Try.func104 rfl rfl rfl (E0 := [(0, (tS s))]) rfl ?_
  obtain ⟨hlim, hmx, hmax⟩ := lims
  refine sr (fO (OF.assign (VEv.str (⟨#[]⟩ : ByteArray))) (nt (sr (fO (OF.assign (VEv.str (⟨#[]⟩ : ByteArray))) (nt (sq (sr (fO (OF.assign (VEv.int .i64 0)) (nt (VRun.block ?_))))))))))
  refine VRun.loop (A := Nat) (fun s_ => [(0, (tS s)), (2, (tS (⟨#[]⟩ : ByteArray))), (3, (tS (backTo s s_))), (4, (tN s_))]) (fun s_ => mkO []) 0 (fun s_ => s_ ≤ s.size ∧ (s.size ≤ 100 ∨ s_ = 0)) (fun s_ => s.size - s_) (0 : Nat) ?_ (Wk.mk (fun k => k) ?_ ?_ ?_) ?_
  · exact ⟨Nat.zero_le _, .inr rfl⟩
  · exact (b2 (b2 (bc ⟨(congrArg T.str (show (⟨#[]⟩ : ByteArray) = backTo s 0 from (by first | rfl | assumption | (simp_all; done)))), rfl⟩ (b2 (bn)))))
  · exact (bn)
  · show List.Nodup ([] : List Nat)
    decide
  rintro i (hI' : i ≤ s.size ∧ (s.size ≤ 100 ∨ i = 0))
  show VRun _ _ _ [(0, (tS s)), (2, (tS (⟨#[]⟩ : ByteArray))), (3, (tS (backTo s i))), (4, (tN i))] (mkO []) 0 _
  have hI1 := hI'.1
  have hbs := backTo_size hI1
  refine sq (sr (mO (tN i) rfl (mO (tS s) rfl (lO (B.lenS (tv (tS s) rfl) Try.underlying9) (fO (B.lss (c := (decide (i < s.size))) (tv (tN i) rfl) (tv (tN s.size) rfl) (by first | (simp only [ByteArray.size_extract]; omega) | (exact decN (by omega)))) (mO (tB (decide (i < s.size))) rfl ?_))))))
  refine gw (i < s.size) (fun fhg9_1 => ?_) fun fhg9_1 => ?_
  · refine gF (dy fhg9_1) rfl rfl (OF.move (tv (tS s) rfl)) ?_
    refine gL (dy fhg9_1) rfl rfl (B.lenS (tv (tS s) rfl) Try.underlying9) (gF (dy fhg9_1) rfl rfl (B.leq (c := (decide (s.size ≤ 100))) (tv (tN s.size) rfl) (VEv.int .i64 100) (by first | (simp only [ByteArray.size_extract]; omega) | (exact decN (by omega)))) (fO (OF.pickT (VEv.tmpB (b := (decide (i < s.size))) rfl (dy fhg9_1)) (tv (tB (decide (s.size ≤ 100))) rfl)) (nt ?_)))
    refine cd (s.size ≤ 100) rfl (fun fhc0 => ?_) fun fhc0 => ?_
    · refine sk ?_
      refine tn (sq (VRun.block (VRun.region (mO (tS s) rfl (mO (tN i) rfl (mO (tN i) rfl (fO (B.add (n := (((i + 1) : Nat) : Int)) (tv (tN i) rfl) (VEv.int .i64 1) (by first | (simp only [ByteArray.size_extract]; omega) | rfl | (rw [wrap64 (by omega)]; omega) | (rw [wrap64 (by omega)]; done))) (lO (OL.sliceS (i := i) (j := (i + 1)) (tv (tS s) rfl) (tv (tN i) rfl) (tv (tN (i + 1)) rfl) rfl rfl (by first | (simp only [ByteArray.size_extract]; omega) | omega | (simp only [List.length_map]; omega) | (simp only [List.length_map, List.length_append, List.length_cons, List.length_nil, List.length_replicate, List.length_set, List.length_drop, List.length_take, lim] at *; omega)) (by first | (simp only [ByteArray.size_extract]; omega) | omega | (simp only [List.length_map]; omega) | (simp only [List.length_map, List.length_append, List.length_cons, List.length_nil, List.length_replicate, List.length_set, List.length_drop, List.length_take, lim] at *; omega)) Try.underlying9) (mO (tS (backTo s i)) rfl (fO (B.sadd (tv (tS (s.extract i (i + 1))) rfl) (tv (tS (backTo s i)) rfl) (by first | (simp only [ByteArray.size_extract]; omega) | omega | (simp only [List.length_map]; omega) | (simp only [List.length_map, List.length_append, List.length_cons, List.length_nil, List.length_replicate, List.length_set, List.length_drop, List.length_take, lim] at *; omega))) (aO (tS ((s.extract i (i + 1)) ++ backTo s i)) rfl ?_)))))))))))
      refine VRunO.nil (vinB.n (tn (VRun.region (mO (tN i) rfl (fO (B.add (n := (((i + 1) : Nat) : Int)) (tv (tN i) rfl) (VEv.int .i64 1) (by first | (simp only [ByteArray.size_extract]; omega) | rfl | (rw [wrap64 (by omega)]; omega) | (rw [wrap64 (by omega)]; done))) (aO (tN (i + 1)) rfl (VRunO.nil (tn ?_))))))))
      refine ⟨(i + 1 : Nat), ?_, ?_, Wk.mk (fun k => k) ?_ ?_ ?_⟩
      · exact ⟨by omega, .inl (by omega)⟩
      · first | omega | (simp only []; omega) | (show _ < _; omega) | (simp; omega)
      · exact (b2 (b2 (bc ⟨(congrArg T.str (show ((s.extract i (i + 1)) ++ backTo s i) = backTo s (i + 1) from (by first | rfl | assumption | (simp_all; done)))), rfl⟩ (b2 (bn)))))
      · exact (bn)
      · show List.Nodup ([] : List Nat)
        decide
    refine VRun.exit (vthn.e (vthn.e (vinB.e (tn (sr (mO (tS (backTo s i)) rfl (aO (tS (backTo s i)) rfl (nt (rt ?_)))))))))
    refine vfin.eq (r' := (tS (backTo s i))) ?_ (vfin.r (VRes.tmp (t := (tS (backTo s i))) rfl VRes.nil) (Give.str _))
    show (tS (backTo s i)) = (tS (back s))
    refine congrArg T.str ?_
    refine back_end hI1 hI'.2 ?_; omega
  refine oO rfl rfl (dz fhg9_1) (oO rfl rfl (dz fhg9_1) (oO rfl rfl (dz fhg9_1) (fO (OF.pickF (VEv.tmpB (b := (decide (i < s.size))) rfl (dz fhg9_1)) (VEv.bool false)) (nt ?_))))
  refine VRun.cond (tv (tB false) rfl) (fun hk2 => ?_) (fun hk2 => ?_)
  · exact absurd (rfl.symm.trans hk2) (by decide)
  · skip
    refine VRun.exit (vthn.e (vthn.e (vinB.e (tn (sr (mO (tS (backTo s i)) rfl (aO (tS (backTo s i)) rfl (nt (rt ?_)))))))))
    refine vfin.eq (r' := (tS (backTo s i))) ?_ (vfin.r (VRes.tmp (t := (tS (backTo s i))) rfl VRes.nil) (Give.str _))
    show (tS (backTo s i)) = (tS (back s))
    refine congrArg T.str ?_
    refine back_end hI1 hI'.2 ?_; omega
theorem W_spec_TurnGrid (n : Nat) (g : D.Grid) (hc : g.Cells.size ≤ maxLen) : Pure (acall Try.prog (n + 3)) 94 [(T.agg (eGrid false g))] (T.agg (eGrid true (turnG g))) := by
  refine Pure.intro (rs := [ResultVar.cell 2 29]) Try.func94 rfl rfl rfl (E0 := [(0, (T.agg (eGrid false g)))]) rfl ?_
  obtain ⟨hlim, hmx, hmax⟩ := lims
  refine sr (kO (B.box (ts := (eGrid false g)) (tv (T.agg (eGrid false g)) rfl) nofun rfl) (kO (B.alloc (t := (T.agg [(tN 0), (tN 0), (tS ByteArray.empty)])) (ts := [(tN 0), (tN 0), (tS ByteArray.empty)]) zo29 zc29 nofun (fun _ => .agg _ _ rfl (RLof (RL.cons (.int _ _) (RL.cons (.int _ _) (RL.cons (.str _) (RL.nil _)))))) rfl) (nt (sq (sr (lO (OL.loadOn (us := (eGrid false g)) (tv (T.op 0 0) rfl) rfl st29 sz29 (lb rfl) rfl) (cO (cS (vc (tv (T.agg (eGrid false g)) rfl) VEvs.nil) (LendL.cons (lg okeGrid) (LendL.nil)) (W_spec_IsGrid (n + 0) g (by first | assumption | omega)) rfl rfl) (fO (B.not (c := (!(decide (gridOk g)))) (tv (tB (decide (gridOk g))) rfl) rfl) (nt ?_)))))))))
  refine cn (gridOk g) rfl (fun fhc0 => ?_) fun fhc0 => ?_
  · refine sr ?_
    refine fO (OF.build (l := []) (zs := [(tN 0), (tN 0), (tS ByteArray.empty)]) (out := [(tN 0), (tN 0), (tS ByteArray.empty)]) VEvp.nil (bn) Try.underlying29 zo29 (fun _ => RL.cons (.int _ _) (RL.cons (.int _ _) (RL.cons (.str _) (RL.nil _)))) (by kernel_rfl) (by kernel_rfl)) (cO (B.storeO (us := [(tN 0), (tN 0), (tS ByteArray.empty)]) (ws := [(tN 0), (tN 0), (tS ByteArray.empty)]) (tv (T.op 1 0) rfl) (tv (T.agg [(tN 0), (tN 0), (tS ByteArray.empty)]) rfl) nofun rfl rfl (lb rfl) if29 sz29 (bc rfl (bc rfl (bc rfl (bn)))) rfl) (nt (rt (tr ?_))))
    refine vfin.eq (r' := (T.agg [(tN 0), (tN 0), (tS ByteArray.empty)])) ?_ (vfin.r (VRes.celln (ws := [(tN 0), (tN 0), (tS ByteArray.empty)]) rfl rfl st29 sz29 (lb rfl) rfl VRes.nil) (Give.agg (GiveL.cons (Give.int _ _) (GiveL.cons (Give.int _ _) (GiveL.cons (Give.str _) GiveL.nil (by decide)) (by decide)) (by decide))))
    show (T.agg [(tN 0), (tN 0), (tS ByteArray.empty)]) = (T.agg (eGrid true (turnG g)))
    first | (rw [turnG, if_pos fhc0]; rfl) | (rw [turnG, if_neg fhc0]; rfl)
  refine sk (tn (sr (fO (OF.fieldAddrO (tv (T.op 0 0) rfl) fa29_2) (lO (OL.loadO1 (t := (tS g.Cells)) (tv (T.op 0 2) rfl) rfl rfl st9) (cO (cS (vc (tv (tS g.Cells) rfl) VEvs.nil) (lp rfl (LendL.nil)) (W_spec_Backwards (n + 1) g.Cells (by first | assumption | omega)) rfl rfl) (fO (OF.fieldAddrO (tv (T.op 0 0) rfl) fa29_2) (cO (B.storeO (us := [(tS (back g.Cells))]) (ws := [(tI g.Rows), (tI g.Cols), (tS (back g.Cells))]) (tv (T.op 0 2) rfl) (tv (tS (back g.Cells)) rfl) nofun rfl rfl (lb rfl) if9 sz9 (bc rfl (bn)) rfl) (nt (sr (lO (OL.loadOn (us := [(tI g.Rows), (tI g.Cols), (tS (back g.Cells))]) (tv (T.op 0 0) rfl) rfl st29 sz29 (lb rfl) rfl) (cO (B.storeO (us := [(tI g.Rows), (tI g.Cols), (tS (back g.Cells))]) (ws := [(tI g.Rows), (tI g.Cols), (tS (back g.Cells))]) (tv (T.op 1 0) rfl) (tv (T.agg [(tI g.Rows), (tI g.Cols), (tS (back g.Cells))]) rfl) nofun rfl rfl (lb rfl) if29 sz29 (bc rfl (bc rfl (bc rfl (bn)))) rfl) ?_)))))))))))
  refine nt (rt ?_)
  refine vfin.eq (r' := (T.agg [(tI g.Rows), (tI g.Cols), (tS (back g.Cells))])) ?_ (vfin.r (VRes.celln (ws := [(tI g.Rows), (tI g.Cols), (tS (back g.Cells))]) rfl rfl st29 sz29 (lb rfl) rfl VRes.nil) (Give.agg (GiveL.cons (Give.int _ _) (GiveL.cons (Give.int _ _) (GiveL.cons (Give.str _) GiveL.nil (by decide)) (by decide)) (by decide))))
  show (T.agg [(tI g.Rows), (tI g.Cols), (tS (back g.Cells))]) = (T.agg (eGrid true (turnG g)))
  first | (rw [turnG, if_pos fhc0]; rfl) | (rw [turnG, if_neg fhc0]; rfl)
theorem W_spec_IsSymmetric (n : Nat) (g : D.Grid) (hc : g.Cells.size ≤ maxLen) : Pure (acall Try.prog (n + 4)) 68 [(T.agg (eGrid false g))] (tB (decide (symG g))) := by
  refine Pure.intro (rs := [ResultVar.tmp 2]) Try.func68 rfl rfl rfl (E0 := [(0, (T.agg (eGrid false g)))]) rfl ?_
  obtain ⟨hlim, hmx, hmax⟩ := lims
  refine sr (kO (B.box (ts := (eGrid false g)) (tv (T.agg (eGrid false g)) rfl) nofun rfl) (fO (OF.assign (VEv.bool false)) (nt (sq (VRun.draw (B := [[], [0], [0, 1], [1, 0, 2], [2, 0, 1, 3], [1, 0, 2], [5, 3, 1, 0, 2, 4], [4, 3, 5, 6, 1, 0, 2], [2, 0, 1, 6, 5, 3, 4, 7]]) (by kernel_rfl) (by kernel_rfl) (lD (OL.loadOn (us := (eGrid false g)) (tv (T.op 0 0) rfl) rfl st29 sz29 (lb rfl) rfl) rfl rfl (VRunD.quiet (bi := [0]) rfl VWant.always rfl rfl rfl (bn) (cS (vc (tv (T.agg (eGrid false g)) rfl) VEvs.nil) (LendL.cons (lg okeGrid) (LendL.nil)) (W_spec_IsGrid (n + 1) g (by first | assumption | omega)) rfl rfl) (mD (tB (decide (gridOk g))) rfl rfl ?_))))))))
  refine gw (gridOk g) (fun fhg5_1 => ?_) fun fhg5_1 => ?_
  · refine VRunD.look rfl (VWant.on (b := (decide (gridOk g))) rfl rfl (dy fhg5_1)) rfl (OL.loadOn (us := (eGrid false g)) (tv (T.op 0 0) rfl) rfl st29 sz29 (lb rfl) rfl) ?_
    refine VRunD.quiet (bi := [2, 0, 1, 3]) rfl (VWant.on (b := (decide (gridOk g))) rfl rfl (dy fhg5_1)) rfl rfl rfl (bn) (cS (vc (tv (T.agg (eGrid false g)) rfl) VEvs.nil) (LendL.cons (lg okeGrid) (LendL.nil)) (W_spec_TurnGrid (n + 0) g (by first | assumption | omega)) rfl rfl) (VRunD.look rfl (VWant.on (b := (decide (gridOk g))) rfl rfl (dy fhg5_1)) rfl (OL.loadOn (us := (eGrid false g)) (tv (T.op 0 0) rfl) rfl st29 sz29 (lb rfl) rfl) (VRunD.free rfl (VWant.on (b := (decide (gridOk g))) rfl rfl (dy fhg5_1)) rfl (B.eql29 (a := turnG g) (b := g) (m := true) (m' := false) (tv (T.agg (eGrid true (turnG g))) rfl) (tv (T.agg (eGrid false g)) rfl)) (fD (OF.pickT (VEv.tmpB (b := (decide (gridOk g))) rfl (dy fhg5_1)) (tv (tB (decide (turnG g = g))) rfl)) rfl rfl (fD (OF.assign (tv (tB (decide (turnG g = g))) rfl)) rfl rfl (VRunD.nil (tn (rt (vb (b' := (decide (turnG g = g))) rfl ?_))))))))
    first | rfl | (refine decN ?_; refine turnG_sym ?_; assumption) | (symm; rw [decide_eq_false_iff_not]; intro h; have := h.1; contradiction)
  refine oD rfl rfl (dz fhg5_1) rfl (oD rfl rfl (dz fhg5_1) rfl (oD rfl rfl (dz fhg5_1) rfl (oD rfl rfl (dz fhg5_1) rfl (fD (OF.pickF (VEv.tmpB (b := (decide (gridOk g))) rfl (dz fhg5_1)) (VEv.bool false)) rfl rfl (fD (OF.assign (tv (tB false) rfl)) rfl rfl (VRunD.nil (tn (rt (vb (b' := false) rfl ?_)))))))))
  first | rfl | (refine decN ?_; refine turnG_sym ?_; assumption) | (symm; rw [decide_eq_false_iff_not]; intro h; have := h.1; contradiction)
noncomputable section
theorem mkStr_toList (l : List Int) : (mkStr l).data.toList = l.map fun n => UInt8.ofNat n.toNat := by
  have h : ∀ (l : List Int) (r : ByteArray), (l.foldl (fun r n => r.push (UInt8.ofNat n.toNat)) r).data.toList = r.data.toList ++ l.map fun n => UInt8.ofNat n.toNat := by
    intro l
    induction l with
    | nil => intro r; simp
    | cons n l ih => intro r; rw [List.foldl_cons, ih]; simp [ByteArray.push]
  simpa [mkStr] using h l ByteArray.empty
theorem bytes_ext {a b : ByteArray} (h : a.data.toList = b.data.toList) : a = b := by
  cases a; cases b
  simp only at h
  congr 1
  exact Array.toList_inj.1 h
theorem bys_back (s : ByteArray) : (bys s).map (fun n => UInt8.ofNat n.toNat) = s.data.toList := by
  simp [bys, Function.comp_def]
theorem backTo_list {s : ByteArray} : ∀ {i : Nat}, i ≤ s.size → (backTo s i).data.toList = (s.data.toList.take i).reverse
  | 0, _ => rfl
  | i + 1, h => by
    have hi : i < s.data.toList.length := by rw [Array.length_toList]; exact h
    rw [backTo, ByteArray.data_append, Array.toList_append, backTo_list (show i ≤ s.size by omega), List.take_add_one, List.getElem?_eq_getElem hi, List.reverse_append]
    congr 1
    rw [ByteArray.data_extract, Array.toList_extract, List.extract_eq_take_drop]
    simp [List.drop_eq_getElem_cons hi]
theorem rev_back {s : ByteArray} (h : s.size ≤ 100) : mkStr (bys s).reverse = back s := by
  unfold back
  rw [if_pos h]
  refine bytes_ext ?_
  rw [mkStr_toList, List.map_reverse, bys_back, backTo_list (Nat.le_refl _), List.take_of_length_le (by rw [Array.length_toList]; exact Nat.le_refl _)]
theorem back_big {s : ByteArray} (h : 100 < s.size) : back s = ⟨#[]⟩ := by
  unfold back
  rw [if_neg (by omega)]
end
theorem W_impl_Backwards (n : Nat) (s : ByteArray) (hc : s.size ≤ maxLen) : Pure (acall Try.prog (n + 2)) 108 [(tS s)] (tS (back s)) := by
  refine Pure.intro (rs := [ResultVar.tmp 2]) Try.func108 rfl rfl rfl (E0 := [(0, (tS s))]) rfl ?_
  obtain ⟨hlim, hmx, hmax⟩ := lims
  refine sr (fO (OF.assign (VEv.str (⟨#[]⟩ : ByteArray))) (nt (sq (sr (mO (tS s) rfl (lO (B.lenS (tv (tS s) rfl) Try.underlying9) (fO (B.gtr (c := (decide (100 < s.size))) (tv (tN s.size) rfl) (VEv.int .i64 100) (by first | (rw [bys_len]; omega) | (exact decN (by omega)))) (nt ?_))))))))
  refine cd (100 < s.size) rfl (fun fhc0 => ?_) fun fhc0 => ?_
  · refine sr ?_
    refine fO (OF.assign (VEv.str (⟨#[]⟩ : ByteArray))) (nt (rt (tr ?_)))
    refine vfin.eq (r' := (tS (⟨#[]⟩ : ByteArray))) ?_ (vfin.r (VRes.tmp (t := (tS (⟨#[]⟩ : ByteArray))) rfl VRes.nil) (Give.str _))
    show (tS (⟨#[]⟩ : ByteArray)) = (tS (back s))
    refine congrArg T.str ?_
    exact (back_big fhc0).symm
  refine sk (tn (sr (mO (tS s) rfl (kO (B.convSB (tv (tS s) rfl) Try.underlying9 Try.underlying104 Try.underlying5) (aO (T.os 1 0 0 (((bys s).map (eByte true)).length)) rfl (nt (sr (mO (T.os 1 0 0 (((bys s).map (eByte true)).length)) rfl (cO (OC.callMut (rows := ((bys s).map (eByte true))) (rows' := (((bys s).reverse).map (eByte true))) rfl (vc (tv (T.os 1 0 0 (((bys s).map (eByte true)).length)) rfl) VEvs.nil) rfl rfl (bn) (scMap (fun _ => rfl) _) (scMap (fun _ => rfl) _) (W_slices_Reverse_byte_byte_ (n + 0) (bys s) (by first | (rw [bys_len]; omega) | assumption | omega))) (nt (sr ?_)))))))))))
  refine mO (T.os 1 0 0 (((bys s).map (eByte true)).length)) rfl (lO (B.convBS (l := (bys s).reverse) (tv (T.os 1 0 0 (((bys s).map (eByte true)).length)) rfl) rfl (by simp only [List.length_map, List.length_reverse, List.length_set]) Try.underlying104 Try.underlying5 Try.underlying9) (aO (tS (mkStr ((bys s).reverse))) rfl (nt (rt ?_))))
  refine vfin.eq (r' := (tS (mkStr ((bys s).reverse)))) ?_ (vfin.r (VRes.tmp (t := (tS (mkStr ((bys s).reverse)))) rfl VRes.nil) (Give.str _))
  show (tS (mkStr ((bys s).reverse))) = (tS (back s))
  refine congrArg T.str ?_
  refine rev_back ?_; omega
theorem W_impl_TurnGrid (n : Nat) (g : D.Grid) (hc : g.Cells.size ≤ maxLen) : Pure (acall Try.prog (n + 3)) 99 [(T.agg (eGrid false g))] (T.agg (eGrid true (turnG g))) := by
  refine Pure.intro (rs := [ResultVar.cell 2 29]) Try.func99 rfl rfl rfl (E0 := [(0, (T.agg (eGrid false g)))]) rfl ?_
  obtain ⟨hlim, hmx, hmax⟩ := lims
  refine sr (kO (B.box (ts := (eGrid false g)) (tv (T.agg (eGrid false g)) rfl) nofun rfl) (kO (B.alloc (t := (T.agg [(tN 0), (tN 0), (tS ByteArray.empty)])) (ts := [(tN 0), (tN 0), (tS ByteArray.empty)]) zo29 zc29 nofun (fun _ => .agg _ _ rfl (RLof (RL.cons (.int _ _) (RL.cons (.int _ _) (RL.cons (.str _) (RL.nil _)))))) rfl) (nt (sq (sr (lO (OL.loadOn (us := (eGrid false g)) (tv (T.op 0 0) rfl) rfl st29 sz29 (lb rfl) rfl) (cO (cS (vc (tv (T.agg (eGrid false g)) rfl) VEvs.nil) (LendL.cons (lg okeGrid) (LendL.nil)) (W_impl_IsGrid (n + 0) g (by first | assumption | omega)) rfl rfl) (fO (B.not (c := (!(decide (gridOk g)))) (tv (tB (decide (gridOk g))) rfl) rfl) (nt ?_)))))))))
  refine cn (gridOk g) rfl (fun fhc0 => ?_) fun fhc0 => ?_
  · refine sr ?_
    refine fO (OF.build (l := []) (zs := [(tN 0), (tN 0), (tS ByteArray.empty)]) (out := [(tN 0), (tN 0), (tS ByteArray.empty)]) VEvp.nil (bn) Try.underlying29 zo29 (fun _ => RL.cons (.int _ _) (RL.cons (.int _ _) (RL.cons (.str _) (RL.nil _)))) (by kernel_rfl) (by kernel_rfl)) (cO (B.storeO (us := [(tN 0), (tN 0), (tS ByteArray.empty)]) (ws := [(tN 0), (tN 0), (tS ByteArray.empty)]) (tv (T.op 1 0) rfl) (tv (T.agg [(tN 0), (tN 0), (tS ByteArray.empty)]) rfl) nofun rfl rfl (lb rfl) if29 sz29 (bc rfl (bc rfl (bc rfl (bn)))) rfl) (nt (rt (tr ?_))))
    refine vfin.eq (r' := (T.agg [(tN 0), (tN 0), (tS ByteArray.empty)])) ?_ (vfin.r (VRes.celln (ws := [(tN 0), (tN 0), (tS ByteArray.empty)]) rfl rfl st29 sz29 (lb rfl) rfl VRes.nil) (Give.agg (GiveL.cons (Give.int _ _) (GiveL.cons (Give.int _ _) (GiveL.cons (Give.str _) GiveL.nil (by decide)) (by decide)) (by decide))))
    show (T.agg [(tN 0), (tN 0), (tS ByteArray.empty)]) = (T.agg (eGrid true (turnG g)))
    first | (rw [turnG, if_pos fhc0]; rfl) | (rw [turnG, if_neg fhc0]; rfl)
  refine sk (tn (sr (fO (OF.fieldAddrO (tv (T.op 0 0) rfl) fa29_2) (lO (OL.loadO1 (t := (tS g.Cells)) (tv (T.op 0 2) rfl) rfl rfl st9) (cO (cS (vc (tv (tS g.Cells) rfl) VEvs.nil) (lp rfl (LendL.nil)) (W_impl_Backwards (n + 0) g.Cells (by first | assumption | omega)) rfl rfl) (fO (OF.fieldAddrO (tv (T.op 0 0) rfl) fa29_2) (cO (B.storeO (us := [(tS (back g.Cells))]) (ws := [(tI g.Rows), (tI g.Cols), (tS (back g.Cells))]) (tv (T.op 0 2) rfl) (tv (tS (back g.Cells)) rfl) nofun rfl rfl (lb rfl) if9 sz9 (bc rfl (bn)) rfl) (nt (sr (lO (OL.loadOn (us := [(tI g.Rows), (tI g.Cols), (tS (back g.Cells))]) (tv (T.op 0 0) rfl) rfl st29 sz29 (lb rfl) rfl) (cO (B.storeO (us := [(tI g.Rows), (tI g.Cols), (tS (back g.Cells))]) (ws := [(tI g.Rows), (tI g.Cols), (tS (back g.Cells))]) (tv (T.op 1 0) rfl) (tv (T.agg [(tI g.Rows), (tI g.Cols), (tS (back g.Cells))]) rfl) nofun rfl rfl (lb rfl) if29 sz29 (bc rfl (bc rfl (bc rfl (bn)))) rfl) ?_)))))))))))
  refine nt (rt ?_)
  refine vfin.eq (r' := (T.agg [(tI g.Rows), (tI g.Cols), (tS (back g.Cells))])) ?_ (vfin.r (VRes.celln (ws := [(tI g.Rows), (tI g.Cols), (tS (back g.Cells))]) rfl rfl st29 sz29 (lb rfl) rfl VRes.nil) (Give.agg (GiveL.cons (Give.int _ _) (GiveL.cons (Give.int _ _) (GiveL.cons (Give.str _) GiveL.nil (by decide)) (by decide)) (by decide))))
  show (T.agg [(tI g.Rows), (tI g.Cols), (tS (back g.Cells))]) = (T.agg (eGrid true (turnG g)))
  first | (rw [turnG, if_pos fhc0]; rfl) | (rw [turnG, if_neg fhc0]; rfl)
theorem W_impl_IsSymmetric (n : Nat) (g : D.Grid) (hc : g.Cells.size ≤ maxLen) : Pure (acall Try.prog (n + 4)) 74 [(T.agg (eGrid false g))] (tB (decide (symG g))) := by
  refine Pure.intro (rs := [ResultVar.tmp 2]) Try.func74 rfl rfl rfl (E0 := [(0, (T.agg (eGrid false g)))]) rfl ?_
  obtain ⟨hlim, hmx, hmax⟩ := lims
  refine sr (kO (B.box (ts := (eGrid false g)) (tv (T.agg (eGrid false g)) rfl) nofun rfl) (fO (OF.assign (VEv.bool false)) (nt (sq (VRun.draw (B := [[], [0], [0, 1], [1, 0, 2], [1, 0, 2], [2, 0, 1, 4], [4, 5, 2, 0, 1, 3], [3, 5, 4, 6, 1, 0, 2], [2, 0, 1, 6, 4, 5, 3, 7]]) (by kernel_rfl) (by kernel_rfl) (lD (OL.loadOn (us := (eGrid false g)) (tv (T.op 0 0) rfl) rfl st29 sz29 (lb rfl) rfl) rfl rfl (VRunD.quiet (bi := [0]) rfl VWant.always rfl rfl rfl (bn) (cS (vc (tv (T.agg (eGrid false g)) rfl) VEvs.nil) (LendL.cons (lg okeGrid) (LendL.nil)) (W_impl_IsGrid (n + 1) g (by first | assumption | omega)) rfl rfl) (mD (tB (decide (gridOk g))) rfl rfl ?_))))))))
  refine gw (gridOk g) (fun fhg5_1 => ?_) fun fhg5_1 => ?_
  · refine VRunD.look rfl (VWant.on (b := (decide (gridOk g))) rfl rfl (dy fhg5_1)) rfl (OL.loadOn (us := (eGrid false g)) (tv (T.op 0 0) rfl) rfl st29 sz29 (lb rfl) rfl) ?_
    refine VRunD.look rfl (VWant.on (b := (decide (gridOk g))) rfl rfl (dy fhg5_1)) rfl (OL.loadOn (us := (eGrid false g)) (tv (T.op 0 0) rfl) rfl st29 sz29 (lb rfl) rfl) (VRunD.quiet (bi := [2, 0, 1, 4]) rfl (VWant.on (b := (decide (gridOk g))) rfl rfl (dy fhg5_1)) rfl rfl rfl (bn) (cS (vc (tv (T.agg (eGrid false g)) rfl) VEvs.nil) (LendL.cons (lg okeGrid) (LendL.nil)) (W_impl_TurnGrid (n + 0) g (by first | assumption | omega)) rfl rfl) (VRunD.free rfl (VWant.on (b := (decide (gridOk g))) rfl rfl (dy fhg5_1)) rfl (B.eql29 (a := g) (b := turnG g) (m := false) (m' := true) (tv (T.agg (eGrid false g)) rfl) (tv (T.agg (eGrid true (turnG g))) rfl)) (fD (OF.pickT (VEv.tmpB (b := (decide (gridOk g))) rfl (dy fhg5_1)) (tv (tB (decide (g = turnG g))) rfl)) rfl rfl (fD (OF.assign (tv (tB (decide (g = turnG g))) rfl)) rfl rfl (VRunD.nil (tn (rt (vb (b' := (decide (g = turnG g))) rfl ?_))))))))
    first | rfl | (refine decN ⟨fun e => ?_, fun e => ?_⟩ <;> first | exact (turnG_sym ‹_›).1 e.symm | exact ((turnG_sym ‹_›).2 e).symm) | (symm; rw [decide_eq_false_iff_not]; intro h; have := h.1; contradiction)
  refine oD rfl rfl (dz fhg5_1) rfl (oD rfl rfl (dz fhg5_1) rfl (oD rfl rfl (dz fhg5_1) rfl (oD rfl rfl (dz fhg5_1) rfl (fD (OF.pickF (VEv.tmpB (b := (decide (gridOk g))) rfl (dz fhg5_1)) (VEv.bool false)) rfl rfl (fD (OF.assign (tv (tB false) rfl)) rfl rfl (VRunD.nil (tn (rt (vb (b' := false) rfl ?_)))))))))
  first | rfl | (refine decN ⟨fun e => ?_, fun e => ?_⟩ <;> first | exact (turnG_sym ‹_›).1 e.symm | exact ((turnG_sym ‹_›).2 e).symm) | (symm; rw [decide_eq_false_iff_not]; intro h; have := h.1; contradiction)
end Go.Proofs.Ytjclbdgjkecbeaa.AE
namespace Go.Proofs.Ytjclbdgjkecbeaa.AE
open Go Go.RowKit
set_option linter.unusedVariables false
set_option linter.unusedSimpArgs false
set_option maxRecDepth 20000
set_option maxHeartbeats 2000000
noncomputable section
def fillOk (c f : Int) : Prop := (c = 35 → f = 35) ∧ (c = 46 → f = 63 ∨ (97 ≤ f ∧ f ≤ 122))
def isFill (g : D.Grid) (f : ByteArray) : Prop := gridOk g ∧ f.size = g.Cells.size ∧ ∀ j, j < f.size → fillOk (bAt g.Cells j) (bAt f j)
instance (g : D.Grid) (f : ByteArray) : Decidable (isFill g f) := Classical.propDecidable _
theorem bneE (p q : Prop) [Decidable p] [Decidable q] : (!(decide p == decide q)) = decide (¬ (p ↔ q)) := by
  by_cases hp : p <;> by_cases hq : q <;> simp [hp, hq]
end
theorem W_spec_IsFill (n : Nat) (g : D.Grid) (f : ByteArray) (hc : g.Cells.size ≤ maxLen) (hf : f.size ≤ maxLen) : Pure (acall Try.prog (n + 3)) 32 [(T.agg (eGrid false g)), (tS f)] (tB (decide (isFill g f))) := by
  refine Pure.intro (rs := [ResultVar.tmp 4]) Try.func32 rfl rfl rfl (E0 := [(0, (T.agg (eGrid false g))), (1, (tS f))]) rfl ?_
  obtain ⟨hlim, hmx, hmax⟩ := lims
  refine sr (kO (B.box (ts := (eGrid false g)) (tv (T.agg (eGrid false g)) rfl) nofun rfl) (fO (OF.assign (VEv.bool false)) (nt (sq (sr (lO (OL.loadOn (us := (eGrid false g)) (tv (T.op 0 0) rfl) rfl st29 sz29 (lb rfl) rfl) (cO (cS (vc (tv (T.agg (eGrid false g)) rfl) VEvs.nil) (LendL.cons (lg okeGrid) (LendL.nil)) (W_spec_IsGrid (n + 0) g (by first | assumption | omega)) rfl rfl) (fO (B.not (c := (!(decide (gridOk g)))) (tv (tB (decide (gridOk g))) rfl) rfl) (mO (tB (!(decide (gridOk g)))) rfl ?_)))))))))
  refine gn (gridOk g) (fun fhg10_1 => ?_) fun fhg10_1 => ?_
  · refine oO rfl rfl (ny fhg10_1) ?_
    refine oO rfl rfl (ny fhg10_1) (oO rfl rfl (ny fhg10_1) (oO rfl rfl (ny fhg10_1) (oO rfl rfl (ny fhg10_1) (oO rfl rfl (ny fhg10_1) (fO (OF.pickT (VEv.tmpB (b := (!(decide (gridOk g)))) rfl (ny fhg10_1)) (VEv.bool true)) (nt ?_))))))
    refine VRun.cond (tv (tB true) rfl) (fun hk2 => ?_) (fun hk2 => ?_)
    · skip
      refine sr (fO (OF.assign (VEv.bool false)) (nt (rt (tr (vb (b' := false) rfl ?_)))))
      first | (symm; rw [decide_eq_true_eq]; refine ⟨?_, ?_, allEnd hI' fhc1⟩ <;> assumption) | (symm; rw [decide_eq_false_iff_not]; rintro ⟨g1, g2, g3⟩; first | contradiction | omega | (have g4 := g3 i fhc1; unfold fillOk at g4; omega))
    · exact absurd (rfl.symm.trans hk2) (by decide)
  refine gF (nz fhg10_1) rfl rfl (OF.move (tv (tS f) rfl)) (gL (nz fhg10_1) rfl rfl (B.lenS (tv (tS f) rfl) Try.underlying9) (gF (nz fhg10_1) rfl rfl (OF.fieldAddrO (tv (T.op 0 0) rfl) fa29_2) (gL (nz fhg10_1) rfl rfl (OL.loadO1 (t := (tS g.Cells)) (tv (T.op 0 2) rfl) rfl rfl st9) (gL (nz fhg10_1) rfl rfl (B.lenS (tv (tS g.Cells) rfl) Try.underlying9) (gF (nz fhg10_1) rfl rfl (B.neq (c := (!(decide (f.size = g.Cells.size)))) (tv (tN f.size) rfl) (tv (tN g.Cells.size) rfl) (decNn (by omega))) (fO (OF.pickF (VEv.tmpB (b := (!(decide (gridOk g)))) rfl (nz fhg10_1)) (tv (tB (!(decide (f.size = g.Cells.size)))) rfl)) (nt ?_)))))))
  refine cn (f.size = g.Cells.size) rfl (fun fhc0 => ?_) fun fhc0 => ?_
  · refine sr ?_
    refine fO (OF.assign (VEv.bool false)) (nt (rt (tr (vb (b' := false) rfl ?_))))
    first | (symm; rw [decide_eq_true_eq]; refine ⟨?_, ?_, allEnd hI' fhc1⟩ <;> assumption) | (symm; rw [decide_eq_false_iff_not]; rintro ⟨g1, g2, g3⟩; first | contradiction | omega | (have g4 := g3 i fhc1; unfold fillOk at g4; omega))
  refine sk (tn (sq (sr (fO (OF.assign (VEv.int .i64 0)) (nt (VRun.block ?_))))))
  refine VRun.loop (A := Nat) (fun s_ => [(1, (tS f)), (2, (T.op 0 0)), (5, (tN s_))]) (fun s_ => mkO [(0, (Obj.cells (eGrid false g)))]) 1 (fun s_ => s_ ≤ f.size ∧ ∀ j, j < s_ → fillOk (bAt g.Cells j) (bAt f j)) (fun s_ => f.size - s_) (0 : Nat) ?_ (Wk.mk (fun k => k) ?_ ?_ ?_) ?_
  · exact ⟨Nat.zero_le _, fun j hj => by omega⟩
  · exact (b2 (b2 (b2 (bn))))
  · exact (b3 (bn))
  · show List.Nodup ([0] : List Nat)
    decide
  rintro i (hI' : i ≤ f.size ∧ ∀ j, j < i → fillOk (bAt g.Cells j) (bAt f j))
  show VRun _ _ _ [(1, (tS f)), (2, (T.op 0 0)), (5, (tN i))] (mkO [(0, (Obj.cells (eGrid false g)))]) 1 _
  have hI1 := hI'.1
  have hgo : gridOk g := by assumption
  refine sq (sr (mO (tN i) rfl (mO (tS f) rfl (lO (B.lenS (tv (tS f) rfl) Try.underlying9) (fO (B.lss (c := (decide (i < f.size))) (tv (tN i) rfl) (tv (tN f.size) rfl) (decN (by omega))) (nt ?_))))))
  refine cd (i < f.size) rfl (fun fhc1 => ?_) fun fhc1 => ?_
  · have hgi := hgo.2.2.2 i (by omega)
    unfold gOk at hgi
    refine sk (tn (sq (VRun.block (sr (mO (tS f) rfl (mO (tN i) rfl ?_))))))
    have hb3 : i < f.size := (by omega)
    refine fO (B.index (n := (bAt f i)) (i := i) (tv (tS f) rfl) (tv (tN i) rfl) rfl hb3 Try.underlying9 (bAt_eq hb3)) (fO (B.eql (c := (decide (bAt f i = 63))) (tv (T.int .u8 (bAt f i)) rfl) (VEv.int .u8 63) rfl) (mO (tB (decide (bAt f i = 63))) rfl ?_))
    refine gw (bAt f i = 63) (fun fhg28_4 => ?_) fun fhg28_4 => ?_
    · refine oO rfl rfl (dy fhg28_4) ?_
      refine oO rfl rfl (dy fhg28_4) (oO rfl rfl (dy fhg28_4) (oO rfl rfl (dy fhg28_4) (oO rfl rfl (dy fhg28_4) (uO rfl rfl (uO rfl rfl (uO rfl rfl (uO rfl rfl (oO rfl rfl (dy fhg28_4) (fO (OF.pickT (VEv.tmpB (b := (decide (bAt f i = 63))) rfl (dy fhg28_4)) (VEv.bool true)) (aO (tB true) rfl (nt ?_)))))))))))
      refine sr (fO (OF.fieldAddrO (tv (T.op 0 0) rfl) fa29_2) (lO (OL.loadO1 (t := (tS g.Cells)) (tv (T.op 0 2) rfl) rfl rfl st9) (mO (tN i) rfl ?_)))
      have hb5 : i < g.Cells.size := (by omega)
      refine fO (B.index (n := (bAt g.Cells i)) (i := i) (tv (tS g.Cells) rfl) (tv (tN i) rfl) rfl hb5 Try.underlying9 (bAt_eq hb5)) (fO (B.eql (c := (decide (bAt g.Cells i = 35))) (tv (T.int .u8 (bAt g.Cells i)) rfl) (VEv.int .u8 35) rfl) (mO (tB (decide (bAt g.Cells i = 35))) rfl ?_))
      refine gw (bAt g.Cells i = 35) (fun fhg45_6 => ?_) fun fhg45_6 => ?_
      · refine gF (dy fhg45_6) rfl rfl (OF.move (tv (tS f) rfl)) ?_
        refine gF (dy fhg45_6) rfl rfl (OF.move (tv (tN i) rfl)) ?_
        have hb7 : i < f.size := (by omega)
        refine gF (dy fhg45_6) rfl rfl (B.index (n := (bAt f i)) (i := i) (tv (tS f) rfl) (tv (tN i) rfl) rfl hb7 Try.underlying9 (bAt_eq hb7)) (gF (dy fhg45_6) rfl rfl (B.neq (c := (!(decide (bAt f i = 35)))) (tv (T.int .u8 (bAt f i)) rfl) (VEv.int .u8 35) rfl) (fO (OF.pickT (VEv.tmpB (b := (decide (bAt g.Cells i = 35))) rfl (dy fhg45_6)) (tv (tB (!(decide (bAt f i = 35)))) rfl)) (mO (tB (!(decide (bAt f i = 35)))) rfl ?_)))
        refine gn (bAt f i = 35) (fun fhg51_8 => ?_) fun fhg51_8 => ?_
        · refine oO rfl rfl (ny fhg51_8) ?_
          refine oO rfl rfl (ny fhg51_8) (oO rfl rfl (ny fhg51_8) (oO rfl rfl (ny fhg51_8) (oO rfl rfl (ny fhg51_8) (oO rfl rfl (ny fhg51_8) (uO rfl rfl (uO rfl rfl (oO rfl rfl (ny fhg51_8) (fO (OF.pickT (VEv.tmpB (b := (!(decide (bAt f i = 35)))) rfl (ny fhg51_8)) (VEv.bool true)) (nt ?_)))))))))
          refine VRun.cond (tv (tB true) rfl) (fun hk9 => ?_) (fun hk9 => ?_)
          · skip
            refine sr (fO (OF.assign (VEv.bool false)) (nt (rt (vinB.r (tr (tr (vinB.r (tr (vb (b' := false) rfl ?_)))))))))
            first | (symm; rw [decide_eq_true_eq]; refine ⟨?_, ?_, allEnd hI' fhc1⟩ <;> assumption) | (symm; rw [decide_eq_false_iff_not]; rintro ⟨g1, g2, g3⟩; first | contradiction | omega | (have g4 := g3 i fhc1; unfold fillOk at g4; omega))
          · exact absurd (rfl.symm.trans hk9) (by decide)
        refine gF (nz fhg51_8) rfl rfl (OF.fieldAddrO (tv (T.op 0 0) rfl) fa29_2) (gL (nz fhg51_8) rfl rfl (OL.loadO1 (t := (tS g.Cells)) (tv (T.op 0 2) rfl) rfl rfl st9) (gF (nz fhg51_8) rfl rfl (OF.move (tv (tN i) rfl)) ?_))
        have hb10 : i < g.Cells.size := (by omega)
        refine gF (nz fhg51_8) rfl rfl (B.index (n := (bAt g.Cells i)) (i := i) (tv (tS g.Cells) rfl) (tv (tN i) rfl) rfl hb10 Try.underlying9 (bAt_eq hb10)) (gF (nz fhg51_8) rfl rfl (B.eql (c := (decide (bAt g.Cells i = 46))) (tv (T.int .u8 (bAt g.Cells i)) rfl) (VEv.int .u8 46) rfl) (gF (nz fhg51_8) rfl rfl (OF.move (tv (tB (decide (bAt g.Cells i = 46))) rfl)) ?_))
        refine gw (bAt g.Cells i = 46) (fun fhg57_11 => ?_) fun fhg57_11 => ?_
        · refine gF (dy fhg57_11) rfl rfl (OF.move (tv (tB true) rfl)) ?_
          refine gF (dy fhg57_11) rfl rfl (B.not (c := false) (tv (tB true) rfl) rfl) (gF (nz fhg51_8) rfl rfl (OF.pickT (VEv.tmpB (b := (decide (bAt g.Cells i = 46))) rfl (dy fhg57_11)) (tv (tB false) rfl)) (fO (OF.pickF (VEv.tmpB (b := (!(decide (bAt f i = 35)))) rfl (nz fhg51_8)) (tv (tB false) rfl)) (nt ?_)))
          refine VRun.cond (tv (tB false) rfl) (fun hk12 => ?_) (fun hk12 => ?_)
          · exact absurd (rfl.symm.trans hk12) (by decide)
          · skip
            refine sk (vinB.n (tn (VRun.region (mO (tN i) rfl (fO (B.add (n := (((i + 1) : Nat) : Int)) (tv (tN i) rfl) (VEv.int .i64 1) (by first | rfl | (rw [wrap64 (by omega)]; omega) | (rw [wrap64 (by omega)]; done))) (aO (tN (i + 1)) rfl (VRunO.nil (tn ?_))))))))
            refine ⟨(i + 1 : Nat), ?_, ?_, Wk.mk (fun k => k) ?_ ?_ ?_⟩
            · refine allNext hI' fhc1 ?_; unfold fillOk; omega
            · first | omega | (simp only []; omega) | (show _ < _; omega) | (simp; omega)
            · exact (b2 (b2 (b2 (bn))))
            · exact (b3 (bn))
            · show List.Nodup ([0] : List Nat)
              decide
        refine oO rfl rfl (dz fhg57_11) (oO rfl rfl (dz fhg57_11) (gF (nz fhg51_8) rfl rfl (OF.pickF (VEv.tmpB (b := (decide (bAt g.Cells i = 46))) rfl (dz fhg57_11)) (VEv.bool false)) (fO (OF.pickF (VEv.tmpB (b := (!(decide (bAt f i = 35)))) rfl (nz fhg51_8)) (tv (tB false) rfl)) (nt ?_))))
        refine VRun.cond (tv (tB false) rfl) (fun hk13 => ?_) (fun hk13 => ?_)
        · exact absurd (rfl.symm.trans hk13) (by decide)
        · skip
          refine sk (vinB.n (tn (VRun.region (mO (tN i) rfl (fO (B.add (n := (((i + 1) : Nat) : Int)) (tv (tN i) rfl) (VEv.int .i64 1) (by first | rfl | (rw [wrap64 (by omega)]; omega) | (rw [wrap64 (by omega)]; done))) (aO (tN (i + 1)) rfl (VRunO.nil (tn ?_))))))))
          refine ⟨(i + 1 : Nat), ?_, ?_, Wk.mk (fun k => k) ?_ ?_ ?_⟩
          · refine allNext hI' fhc1 ?_; unfold fillOk; omega
          · first | omega | (simp only []; omega) | (show _ < _; omega) | (simp; omega)
          · exact (b2 (b2 (b2 (bn))))
          · exact (b3 (bn))
          · show List.Nodup ([0] : List Nat)
            decide
      refine oO rfl rfl (dz fhg45_6) (oO rfl rfl (dz fhg45_6) (oO rfl rfl (dz fhg45_6) (oO rfl rfl (dz fhg45_6) (fO (OF.pickF (VEv.tmpB (b := (decide (bAt g.Cells i = 35))) rfl (dz fhg45_6)) (VEv.bool false)) (mO (tB false) rfl (VRunO.free (VWant.on (b := false) rfl rfl rfl) (OF.fieldAddrO (tv (T.op 0 0) rfl) fa29_2) (VRunO.look (VWant.on (b := false) rfl rfl rfl) (OL.loadO1 (t := (tS g.Cells)) (tv (T.op 0 2) rfl) rfl rfl st9) (VRunO.free (VWant.on (b := false) rfl rfl rfl) (OF.move (tv (tN i) rfl)) ?_))))))))
      have hb14 : i < g.Cells.size := (by omega)
      refine VRunO.free (VWant.on (b := false) rfl rfl rfl) (B.index (n := (bAt g.Cells i)) (i := i) (tv (tS g.Cells) rfl) (tv (tN i) rfl) rfl hb14 Try.underlying9 (bAt_eq hb14)) (VRunO.free (VWant.on (b := false) rfl rfl rfl) (B.eql (c := (decide (bAt g.Cells i = 46))) (tv (T.int .u8 (bAt g.Cells i)) rfl) (VEv.int .u8 46) rfl) (VRunO.free (VWant.on (b := false) rfl rfl rfl) (OF.move (tv (tB (decide (bAt g.Cells i = 46))) rfl)) ?_))
      refine gw (bAt g.Cells i = 46) (fun fhg57_15 => ?_) fun fhg57_15 => ?_
      · refine gF (dy fhg57_15) rfl rfl (OF.move (tv (tB true) rfl)) ?_
        refine gF (dy fhg57_15) rfl rfl (B.not (c := false) (tv (tB true) rfl) rfl) (VRunO.free (VWant.on (b := false) rfl rfl rfl) (OF.pickT (VEv.tmpB (b := (decide (bAt g.Cells i = 46))) rfl (dy fhg57_15)) (tv (tB false) rfl)) (fO (OF.pickF (tv (tB false) rfl) (tv (tB false) rfl)) (nt ?_)))
        refine VRun.cond (tv (tB false) rfl) (fun hk16 => ?_) (fun hk16 => ?_)
        · exact absurd (rfl.symm.trans hk16) (by decide)
        · skip
          refine sk (vinB.n (tn (VRun.region (mO (tN i) rfl (fO (B.add (n := (((i + 1) : Nat) : Int)) (tv (tN i) rfl) (VEv.int .i64 1) (by first | rfl | (rw [wrap64 (by omega)]; omega) | (rw [wrap64 (by omega)]; done))) (aO (tN (i + 1)) rfl (VRunO.nil (tn ?_))))))))
          refine ⟨(i + 1 : Nat), ?_, ?_, Wk.mk (fun k => k) ?_ ?_ ?_⟩
          · refine allNext hI' fhc1 ?_; unfold fillOk; omega
          · first | omega | (simp only []; omega) | (show _ < _; omega) | (simp; omega)
          · exact (b2 (b2 (b2 (bn))))
          · exact (b3 (bn))
          · show List.Nodup ([0] : List Nat)
            decide
      refine oO rfl rfl (dz fhg57_15) (oO rfl rfl (dz fhg57_15) (VRunO.free (VWant.on (b := false) rfl rfl rfl) (OF.pickF (VEv.tmpB (b := (decide (bAt g.Cells i = 46))) rfl (dz fhg57_15)) (VEv.bool false)) (fO (OF.pickF (tv (tB false) rfl) (tv (tB false) rfl)) (nt ?_))))
      refine VRun.cond (tv (tB false) rfl) (fun hk17 => ?_) (fun hk17 => ?_)
      · exact absurd (rfl.symm.trans hk17) (by decide)
      · skip
        refine sk (vinB.n (tn (VRun.region (mO (tN i) rfl (fO (B.add (n := (((i + 1) : Nat) : Int)) (tv (tN i) rfl) (VEv.int .i64 1) (by first | rfl | (rw [wrap64 (by omega)]; omega) | (rw [wrap64 (by omega)]; done))) (aO (tN (i + 1)) rfl (VRunO.nil (tn ?_))))))))
        refine ⟨(i + 1 : Nat), ?_, ?_, Wk.mk (fun k => k) ?_ ?_ ?_⟩
        · refine allNext hI' fhc1 ?_; unfold fillOk; omega
        · first | omega | (simp only []; omega) | (show _ < _; omega) | (simp; omega)
        · exact (b2 (b2 (b2 (bn))))
        · exact (b3 (bn))
        · show List.Nodup ([0] : List Nat)
          decide
    refine gF (dz fhg28_4) rfl rfl (OF.move (tv (tS f) rfl)) (gF (dz fhg28_4) rfl rfl (OF.move (tv (tN i) rfl)) ?_)
    have hb18 : i < f.size := (by omega)
    refine gF (dz fhg28_4) rfl rfl (B.index (n := (bAt f i)) (i := i) (tv (tS f) rfl) (tv (tN i) rfl) rfl hb18 Try.underlying9 (bAt_eq hb18)) (gF (dz fhg28_4) rfl rfl (B.geq (c := (decide (97 ≤ bAt f i))) (tv (T.int .u8 (bAt f i)) rfl) (VEv.int .u8 97) rfl) (gF (dz fhg28_4) rfl rfl (OF.move (tv (tB (decide (97 ≤ bAt f i))) rfl)) ?_))
    refine gw (97 ≤ bAt f i) (fun fhg33_19 => ?_) fun fhg33_19 => ?_
    · refine gF (dy fhg33_19) rfl rfl (OF.move (tv (tS f) rfl)) ?_
      refine gF (dy fhg33_19) rfl rfl (OF.move (tv (tN i) rfl)) ?_
      have hb20 : i < f.size := (by omega)
      refine gF (dy fhg33_19) rfl rfl (B.index (n := (bAt f i)) (i := i) (tv (tS f) rfl) (tv (tN i) rfl) rfl hb20 Try.underlying9 (bAt_eq hb20)) (gF (dy fhg33_19) rfl rfl (B.leq (c := (decide (bAt f i ≤ 122))) (tv (T.int .u8 (bAt f i)) rfl) (VEv.int .u8 122) rfl) (gF (dz fhg28_4) rfl rfl (OF.pickT (VEv.tmpB (b := (decide (97 ≤ bAt f i))) rfl (dy fhg33_19)) (tv (tB (decide (bAt f i ≤ 122))) rfl)) (fO (OF.pickF (VEv.tmpB (b := (decide (bAt f i = 63))) rfl (dz fhg28_4)) (tv (tB (decide (bAt f i ≤ 122))) rfl)) (aO (tB (decide (bAt f i ≤ 122))) rfl (nt (sr (fO (OF.fieldAddrO (tv (T.op 0 0) rfl) fa29_2) (lO (OL.loadO1 (t := (tS g.Cells)) (tv (T.op 0 2) rfl) rfl rfl st9) (mO (tN i) rfl ?_)))))))))
      have hb21 : i < g.Cells.size := (by omega)
      refine fO (B.index (n := (bAt g.Cells i)) (i := i) (tv (tS g.Cells) rfl) (tv (tN i) rfl) rfl hb21 Try.underlying9 (bAt_eq hb21)) (fO (B.eql (c := (decide (bAt g.Cells i = 35))) (tv (T.int .u8 (bAt g.Cells i)) rfl) (VEv.int .u8 35) rfl) (mO (tB (decide (bAt g.Cells i = 35))) rfl ?_))
      refine gw (bAt g.Cells i = 35) (fun fhg45_22 => ?_) fun fhg45_22 => ?_
      · refine gF (dy fhg45_22) rfl rfl (OF.move (tv (tS f) rfl)) ?_
        refine gF (dy fhg45_22) rfl rfl (OF.move (tv (tN i) rfl)) ?_
        have hb23 : i < f.size := (by omega)
        refine gF (dy fhg45_22) rfl rfl (B.index (n := (bAt f i)) (i := i) (tv (tS f) rfl) (tv (tN i) rfl) rfl hb23 Try.underlying9 (bAt_eq hb23)) (gF (dy fhg45_22) rfl rfl (B.neq (c := (!(decide (bAt f i = 35)))) (tv (T.int .u8 (bAt f i)) rfl) (VEv.int .u8 35) rfl) (fO (OF.pickT (VEv.tmpB (b := (decide (bAt g.Cells i = 35))) rfl (dy fhg45_22)) (tv (tB (!(decide (bAt f i = 35)))) rfl)) (mO (tB (!(decide (bAt f i = 35)))) rfl ?_)))
        refine gn (bAt f i = 35) (fun fhg51_24 => ?_) fun fhg51_24 => ?_
        · refine oO rfl rfl (ny fhg51_24) ?_
          refine oO rfl rfl (ny fhg51_24) (oO rfl rfl (ny fhg51_24) (oO rfl rfl (ny fhg51_24) (oO rfl rfl (ny fhg51_24) (oO rfl rfl (ny fhg51_24) (uO rfl rfl (uO rfl rfl (oO rfl rfl (ny fhg51_24) (fO (OF.pickT (VEv.tmpB (b := (!(decide (bAt f i = 35)))) rfl (ny fhg51_24)) (VEv.bool true)) (nt ?_)))))))))
          refine VRun.cond (tv (tB true) rfl) (fun hk25 => ?_) (fun hk25 => ?_)
          · skip
            refine sr (fO (OF.assign (VEv.bool false)) (nt (rt (vinB.r (tr (tr (vinB.r (tr (vb (b' := false) rfl ?_)))))))))
            first | (symm; rw [decide_eq_true_eq]; refine ⟨?_, ?_, allEnd hI' fhc1⟩ <;> assumption) | (symm; rw [decide_eq_false_iff_not]; rintro ⟨g1, g2, g3⟩; first | contradiction | omega | (have g4 := g3 i fhc1; unfold fillOk at g4; omega))
          · exact absurd (rfl.symm.trans hk25) (by decide)
        refine gF (nz fhg51_24) rfl rfl (OF.fieldAddrO (tv (T.op 0 0) rfl) fa29_2) (gL (nz fhg51_24) rfl rfl (OL.loadO1 (t := (tS g.Cells)) (tv (T.op 0 2) rfl) rfl rfl st9) (gF (nz fhg51_24) rfl rfl (OF.move (tv (tN i) rfl)) ?_))
        have hb26 : i < g.Cells.size := (by omega)
        refine gF (nz fhg51_24) rfl rfl (B.index (n := (bAt g.Cells i)) (i := i) (tv (tS g.Cells) rfl) (tv (tN i) rfl) rfl hb26 Try.underlying9 (bAt_eq hb26)) (gF (nz fhg51_24) rfl rfl (B.eql (c := (decide (bAt g.Cells i = 46))) (tv (T.int .u8 (bAt g.Cells i)) rfl) (VEv.int .u8 46) rfl) (gF (nz fhg51_24) rfl rfl (OF.move (tv (tB (decide (bAt g.Cells i = 46))) rfl)) ?_))
        refine gw (bAt g.Cells i = 46) (fun fhg57_27 => ?_) fun fhg57_27 => ?_
        · refine gF (dy fhg57_27) rfl rfl (OF.move (tv (tB (decide (bAt f i ≤ 122))) rfl)) ?_
          refine gF (dy fhg57_27) rfl rfl (B.not (c := (!(decide (bAt f i ≤ 122)))) (tv (tB (decide (bAt f i ≤ 122))) rfl) rfl) (gF (nz fhg51_24) rfl rfl (OF.pickT (VEv.tmpB (b := (decide (bAt g.Cells i = 46))) rfl (dy fhg57_27)) (tv (tB (!(decide (bAt f i ≤ 122)))) rfl)) (fO (OF.pickF (VEv.tmpB (b := (!(decide (bAt f i = 35)))) rfl (nz fhg51_24)) (tv (tB (!(decide (bAt f i ≤ 122)))) rfl)) (nt ?_)))
          refine cn (bAt f i ≤ 122) rfl (fun fhc2 => ?_) fun fhc2 => ?_
          · refine sr ?_
            refine fO (OF.assign (VEv.bool false)) (nt (rt (vinB.r (tr (tr (vinB.r (tr (vb (b' := false) rfl ?_))))))))
            first | (symm; rw [decide_eq_true_eq]; refine ⟨?_, ?_, allEnd hI' fhc1⟩ <;> assumption) | (symm; rw [decide_eq_false_iff_not]; rintro ⟨g1, g2, g3⟩; first | contradiction | omega | (have g4 := g3 i fhc1; unfold fillOk at g4; omega))
          refine sk (vinB.n (tn (VRun.region (mO (tN i) rfl (fO (B.add (n := (((i + 1) : Nat) : Int)) (tv (tN i) rfl) (VEv.int .i64 1) (by first | rfl | (rw [wrap64 (by omega)]; omega) | (rw [wrap64 (by omega)]; done))) (aO (tN (i + 1)) rfl (VRunO.nil (tn ?_))))))))
          refine ⟨(i + 1 : Nat), ?_, ?_, Wk.mk (fun k => k) ?_ ?_ ?_⟩
          · refine allNext hI' fhc1 ?_; unfold fillOk; omega
          · first | omega | (simp only []; omega) | (show _ < _; omega) | (simp; omega)
          · exact (b2 (b2 (b2 (bn))))
          · exact (b3 (bn))
          · show List.Nodup ([0] : List Nat)
            decide
        refine oO rfl rfl (dz fhg57_27) (oO rfl rfl (dz fhg57_27) (gF (nz fhg51_24) rfl rfl (OF.pickF (VEv.tmpB (b := (decide (bAt g.Cells i = 46))) rfl (dz fhg57_27)) (VEv.bool false)) (fO (OF.pickF (VEv.tmpB (b := (!(decide (bAt f i = 35)))) rfl (nz fhg51_24)) (tv (tB false) rfl)) (nt ?_))))
        refine VRun.cond (tv (tB false) rfl) (fun hk28 => ?_) (fun hk28 => ?_)
        · exact absurd (rfl.symm.trans hk28) (by decide)
        · skip
          refine sk (vinB.n (tn (VRun.region (mO (tN i) rfl (fO (B.add (n := (((i + 1) : Nat) : Int)) (tv (tN i) rfl) (VEv.int .i64 1) (by first | rfl | (rw [wrap64 (by omega)]; omega) | (rw [wrap64 (by omega)]; done))) (aO (tN (i + 1)) rfl (VRunO.nil (tn ?_))))))))
          refine ⟨(i + 1 : Nat), ?_, ?_, Wk.mk (fun k => k) ?_ ?_ ?_⟩
          · refine allNext hI' fhc1 ?_; unfold fillOk; omega
          · first | omega | (simp only []; omega) | (show _ < _; omega) | (simp; omega)
          · exact (b2 (b2 (b2 (bn))))
          · exact (b3 (bn))
          · show List.Nodup ([0] : List Nat)
            decide
      refine oO rfl rfl (dz fhg45_22) (oO rfl rfl (dz fhg45_22) (oO rfl rfl (dz fhg45_22) (oO rfl rfl (dz fhg45_22) (fO (OF.pickF (VEv.tmpB (b := (decide (bAt g.Cells i = 35))) rfl (dz fhg45_22)) (VEv.bool false)) (mO (tB false) rfl (VRunO.free (VWant.on (b := false) rfl rfl rfl) (OF.fieldAddrO (tv (T.op 0 0) rfl) fa29_2) (VRunO.look (VWant.on (b := false) rfl rfl rfl) (OL.loadO1 (t := (tS g.Cells)) (tv (T.op 0 2) rfl) rfl rfl st9) (VRunO.free (VWant.on (b := false) rfl rfl rfl) (OF.move (tv (tN i) rfl)) ?_))))))))
      have hb29 : i < g.Cells.size := (by omega)
      refine VRunO.free (VWant.on (b := false) rfl rfl rfl) (B.index (n := (bAt g.Cells i)) (i := i) (tv (tS g.Cells) rfl) (tv (tN i) rfl) rfl hb29 Try.underlying9 (bAt_eq hb29)) (VRunO.free (VWant.on (b := false) rfl rfl rfl) (B.eql (c := (decide (bAt g.Cells i = 46))) (tv (T.int .u8 (bAt g.Cells i)) rfl) (VEv.int .u8 46) rfl) (VRunO.free (VWant.on (b := false) rfl rfl rfl) (OF.move (tv (tB (decide (bAt g.Cells i = 46))) rfl)) ?_))
      refine gw (bAt g.Cells i = 46) (fun fhg57_30 => ?_) fun fhg57_30 => ?_
      · refine gF (dy fhg57_30) rfl rfl (OF.move (tv (tB (decide (bAt f i ≤ 122))) rfl)) ?_
        refine gF (dy fhg57_30) rfl rfl (B.not (c := (!(decide (bAt f i ≤ 122)))) (tv (tB (decide (bAt f i ≤ 122))) rfl) rfl) (VRunO.free (VWant.on (b := false) rfl rfl rfl) (OF.pickT (VEv.tmpB (b := (decide (bAt g.Cells i = 46))) rfl (dy fhg57_30)) (tv (tB (!(decide (bAt f i ≤ 122)))) rfl)) (fO (OF.pickF (tv (tB false) rfl) (tv (tB (!(decide (bAt f i ≤ 122)))) rfl)) (nt ?_)))
        refine cn (bAt f i ≤ 122) rfl (fun fhc2 => ?_) fun fhc2 => ?_
        · refine sr ?_
          refine fO (OF.assign (VEv.bool false)) (nt (rt (vinB.r (tr (tr (vinB.r (tr (vb (b' := false) rfl ?_))))))))
          first | (symm; rw [decide_eq_true_eq]; refine ⟨?_, ?_, allEnd hI' fhc1⟩ <;> assumption) | (symm; rw [decide_eq_false_iff_not]; rintro ⟨g1, g2, g3⟩; first | contradiction | omega | (have g4 := g3 i fhc1; unfold fillOk at g4; omega))
        refine sk (vinB.n (tn (VRun.region (mO (tN i) rfl (fO (B.add (n := (((i + 1) : Nat) : Int)) (tv (tN i) rfl) (VEv.int .i64 1) (by first | rfl | (rw [wrap64 (by omega)]; omega) | (rw [wrap64 (by omega)]; done))) (aO (tN (i + 1)) rfl (VRunO.nil (tn ?_))))))))
        refine ⟨(i + 1 : Nat), ?_, ?_, Wk.mk (fun k => k) ?_ ?_ ?_⟩
        · refine allNext hI' fhc1 ?_; unfold fillOk; omega
        · first | omega | (simp only []; omega) | (show _ < _; omega) | (simp; omega)
        · exact (b2 (b2 (b2 (bn))))
        · exact (b3 (bn))
        · show List.Nodup ([0] : List Nat)
          decide
      refine oO rfl rfl (dz fhg57_30) (oO rfl rfl (dz fhg57_30) (VRunO.free (VWant.on (b := false) rfl rfl rfl) (OF.pickF (VEv.tmpB (b := (decide (bAt g.Cells i = 46))) rfl (dz fhg57_30)) (VEv.bool false)) (fO (OF.pickF (tv (tB false) rfl) (tv (tB false) rfl)) (nt ?_))))
      refine VRun.cond (tv (tB false) rfl) (fun hk31 => ?_) (fun hk31 => ?_)
      · exact absurd (rfl.symm.trans hk31) (by decide)
      · skip
        refine sk (vinB.n (tn (VRun.region (mO (tN i) rfl (fO (B.add (n := (((i + 1) : Nat) : Int)) (tv (tN i) rfl) (VEv.int .i64 1) (by first | rfl | (rw [wrap64 (by omega)]; omega) | (rw [wrap64 (by omega)]; done))) (aO (tN (i + 1)) rfl (VRunO.nil (tn ?_))))))))
        refine ⟨(i + 1 : Nat), ?_, ?_, Wk.mk (fun k => k) ?_ ?_ ?_⟩
        · refine allNext hI' fhc1 ?_; unfold fillOk; omega
        · first | omega | (simp only []; omega) | (show _ < _; omega) | (simp; omega)
        · exact (b2 (b2 (b2 (bn))))
        · exact (b3 (bn))
        · show List.Nodup ([0] : List Nat)
          decide
    refine oO rfl rfl (dz fhg33_19) (oO rfl rfl (dz fhg33_19) (oO rfl rfl (dz fhg33_19) (oO rfl rfl (dz fhg33_19) (gF (dz fhg28_4) rfl rfl (OF.pickF (VEv.tmpB (b := (decide (97 ≤ bAt f i))) rfl (dz fhg33_19)) (VEv.bool false)) (fO (OF.pickF (VEv.tmpB (b := (decide (bAt f i = 63))) rfl (dz fhg28_4)) (tv (tB false) rfl)) (aO (tB false) rfl (nt (sr (fO (OF.fieldAddrO (tv (T.op 0 0) rfl) fa29_2) (lO (OL.loadO1 (t := (tS g.Cells)) (tv (T.op 0 2) rfl) rfl rfl st9) (mO (tN i) rfl ?_)))))))))))
    have hb32 : i < g.Cells.size := (by omega)
    refine fO (B.index (n := (bAt g.Cells i)) (i := i) (tv (tS g.Cells) rfl) (tv (tN i) rfl) rfl hb32 Try.underlying9 (bAt_eq hb32)) (fO (B.eql (c := (decide (bAt g.Cells i = 35))) (tv (T.int .u8 (bAt g.Cells i)) rfl) (VEv.int .u8 35) rfl) (mO (tB (decide (bAt g.Cells i = 35))) rfl ?_))
    refine gw (bAt g.Cells i = 35) (fun fhg45_33 => ?_) fun fhg45_33 => ?_
    · refine gF (dy fhg45_33) rfl rfl (OF.move (tv (tS f) rfl)) ?_
      refine gF (dy fhg45_33) rfl rfl (OF.move (tv (tN i) rfl)) ?_
      have hb34 : i < f.size := (by omega)
      refine gF (dy fhg45_33) rfl rfl (B.index (n := (bAt f i)) (i := i) (tv (tS f) rfl) (tv (tN i) rfl) rfl hb34 Try.underlying9 (bAt_eq hb34)) (gF (dy fhg45_33) rfl rfl (B.neq (c := (!(decide (bAt f i = 35)))) (tv (T.int .u8 (bAt f i)) rfl) (VEv.int .u8 35) rfl) (fO (OF.pickT (VEv.tmpB (b := (decide (bAt g.Cells i = 35))) rfl (dy fhg45_33)) (tv (tB (!(decide (bAt f i = 35)))) rfl)) (mO (tB (!(decide (bAt f i = 35)))) rfl ?_)))
      refine gn (bAt f i = 35) (fun fhg51_35 => ?_) fun fhg51_35 => ?_
      · refine oO rfl rfl (ny fhg51_35) ?_
        refine oO rfl rfl (ny fhg51_35) (oO rfl rfl (ny fhg51_35) (oO rfl rfl (ny fhg51_35) (oO rfl rfl (ny fhg51_35) (oO rfl rfl (ny fhg51_35) (uO rfl rfl (uO rfl rfl (oO rfl rfl (ny fhg51_35) (fO (OF.pickT (VEv.tmpB (b := (!(decide (bAt f i = 35)))) rfl (ny fhg51_35)) (VEv.bool true)) (nt ?_)))))))))
        refine VRun.cond (tv (tB true) rfl) (fun hk36 => ?_) (fun hk36 => ?_)
        · skip
          refine sr (fO (OF.assign (VEv.bool false)) (nt (rt (vinB.r (tr (tr (vinB.r (tr (vb (b' := false) rfl ?_)))))))))
          first | (symm; rw [decide_eq_true_eq]; refine ⟨?_, ?_, allEnd hI' fhc1⟩ <;> assumption) | (symm; rw [decide_eq_false_iff_not]; rintro ⟨g1, g2, g3⟩; first | contradiction | omega | (have g4 := g3 i fhc1; unfold fillOk at g4; omega))
        · exact absurd (rfl.symm.trans hk36) (by decide)
      refine gF (nz fhg51_35) rfl rfl (OF.fieldAddrO (tv (T.op 0 0) rfl) fa29_2) (gL (nz fhg51_35) rfl rfl (OL.loadO1 (t := (tS g.Cells)) (tv (T.op 0 2) rfl) rfl rfl st9) (gF (nz fhg51_35) rfl rfl (OF.move (tv (tN i) rfl)) ?_))
      have hb37 : i < g.Cells.size := (by omega)
      refine gF (nz fhg51_35) rfl rfl (B.index (n := (bAt g.Cells i)) (i := i) (tv (tS g.Cells) rfl) (tv (tN i) rfl) rfl hb37 Try.underlying9 (bAt_eq hb37)) (gF (nz fhg51_35) rfl rfl (B.eql (c := (decide (bAt g.Cells i = 46))) (tv (T.int .u8 (bAt g.Cells i)) rfl) (VEv.int .u8 46) rfl) (gF (nz fhg51_35) rfl rfl (OF.move (tv (tB (decide (bAt g.Cells i = 46))) rfl)) ?_))
      refine gw (bAt g.Cells i = 46) (fun fhg57_38 => ?_) fun fhg57_38 => ?_
      · refine gF (dy fhg57_38) rfl rfl (OF.move (tv (tB false) rfl)) ?_
        refine gF (dy fhg57_38) rfl rfl (B.not (c := true) (tv (tB false) rfl) rfl) (gF (nz fhg51_35) rfl rfl (OF.pickT (VEv.tmpB (b := (decide (bAt g.Cells i = 46))) rfl (dy fhg57_38)) (tv (tB true) rfl)) (fO (OF.pickF (VEv.tmpB (b := (!(decide (bAt f i = 35)))) rfl (nz fhg51_35)) (tv (tB true) rfl)) (nt ?_)))
        refine VRun.cond (tv (tB true) rfl) (fun hk39 => ?_) (fun hk39 => ?_)
        · skip
          refine sr (fO (OF.assign (VEv.bool false)) (nt (rt (vinB.r (tr (tr (vinB.r (tr (vb (b' := false) rfl ?_)))))))))
          first | (symm; rw [decide_eq_true_eq]; refine ⟨?_, ?_, allEnd hI' fhc1⟩ <;> assumption) | (symm; rw [decide_eq_false_iff_not]; rintro ⟨g1, g2, g3⟩; first | contradiction | omega | (have g4 := g3 i fhc1; unfold fillOk at g4; omega))
        · exact absurd (rfl.symm.trans hk39) (by decide)
      refine oO rfl rfl (dz fhg57_38) (oO rfl rfl (dz fhg57_38) (gF (nz fhg51_35) rfl rfl (OF.pickF (VEv.tmpB (b := (decide (bAt g.Cells i = 46))) rfl (dz fhg57_38)) (VEv.bool false)) (fO (OF.pickF (VEv.tmpB (b := (!(decide (bAt f i = 35)))) rfl (nz fhg51_35)) (tv (tB false) rfl)) (nt ?_))))
      refine VRun.cond (tv (tB false) rfl) (fun hk40 => ?_) (fun hk40 => ?_)
      · exact absurd (rfl.symm.trans hk40) (by decide)
      · skip
        refine sk (vinB.n (tn (VRun.region (mO (tN i) rfl (fO (B.add (n := (((i + 1) : Nat) : Int)) (tv (tN i) rfl) (VEv.int .i64 1) (by first | rfl | (rw [wrap64 (by omega)]; omega) | (rw [wrap64 (by omega)]; done))) (aO (tN (i + 1)) rfl (VRunO.nil (tn ?_))))))))
        refine ⟨(i + 1 : Nat), ?_, ?_, Wk.mk (fun k => k) ?_ ?_ ?_⟩
        · refine allNext hI' fhc1 ?_; unfold fillOk; omega
        · first | omega | (simp only []; omega) | (show _ < _; omega) | (simp; omega)
        · exact (b2 (b2 (b2 (bn))))
        · exact (b3 (bn))
        · show List.Nodup ([0] : List Nat)
          decide
    refine oO rfl rfl (dz fhg45_33) (oO rfl rfl (dz fhg45_33) (oO rfl rfl (dz fhg45_33) (oO rfl rfl (dz fhg45_33) (fO (OF.pickF (VEv.tmpB (b := (decide (bAt g.Cells i = 35))) rfl (dz fhg45_33)) (VEv.bool false)) (mO (tB false) rfl (VRunO.free (VWant.on (b := false) rfl rfl rfl) (OF.fieldAddrO (tv (T.op 0 0) rfl) fa29_2) (VRunO.look (VWant.on (b := false) rfl rfl rfl) (OL.loadO1 (t := (tS g.Cells)) (tv (T.op 0 2) rfl) rfl rfl st9) (VRunO.free (VWant.on (b := false) rfl rfl rfl) (OF.move (tv (tN i) rfl)) ?_))))))))
    have hb41 : i < g.Cells.size := (by omega)
    refine VRunO.free (VWant.on (b := false) rfl rfl rfl) (B.index (n := (bAt g.Cells i)) (i := i) (tv (tS g.Cells) rfl) (tv (tN i) rfl) rfl hb41 Try.underlying9 (bAt_eq hb41)) (VRunO.free (VWant.on (b := false) rfl rfl rfl) (B.eql (c := (decide (bAt g.Cells i = 46))) (tv (T.int .u8 (bAt g.Cells i)) rfl) (VEv.int .u8 46) rfl) (VRunO.free (VWant.on (b := false) rfl rfl rfl) (OF.move (tv (tB (decide (bAt g.Cells i = 46))) rfl)) ?_))
    refine gw (bAt g.Cells i = 46) (fun fhg57_42 => ?_) fun fhg57_42 => ?_
    · refine gF (dy fhg57_42) rfl rfl (OF.move (tv (tB false) rfl)) ?_
      refine gF (dy fhg57_42) rfl rfl (B.not (c := true) (tv (tB false) rfl) rfl) (VRunO.free (VWant.on (b := false) rfl rfl rfl) (OF.pickT (VEv.tmpB (b := (decide (bAt g.Cells i = 46))) rfl (dy fhg57_42)) (tv (tB true) rfl)) (fO (OF.pickF (tv (tB false) rfl) (tv (tB true) rfl)) (nt ?_)))
      refine VRun.cond (tv (tB true) rfl) (fun hk43 => ?_) (fun hk43 => ?_)
      · skip
        refine sr (fO (OF.assign (VEv.bool false)) (nt (rt (vinB.r (tr (tr (vinB.r (tr (vb (b' := false) rfl ?_)))))))))
        first | (symm; rw [decide_eq_true_eq]; refine ⟨?_, ?_, allEnd hI' fhc1⟩ <;> assumption) | (symm; rw [decide_eq_false_iff_not]; rintro ⟨g1, g2, g3⟩; first | contradiction | omega | (have g4 := g3 i fhc1; unfold fillOk at g4; omega))
      · exact absurd (rfl.symm.trans hk43) (by decide)
    refine oO rfl rfl (dz fhg57_42) (oO rfl rfl (dz fhg57_42) (VRunO.free (VWant.on (b := false) rfl rfl rfl) (OF.pickF (VEv.tmpB (b := (decide (bAt g.Cells i = 46))) rfl (dz fhg57_42)) (VEv.bool false)) (fO (OF.pickF (tv (tB false) rfl) (tv (tB false) rfl)) (nt ?_))))
    refine VRun.cond (tv (tB false) rfl) (fun hk44 => ?_) (fun hk44 => ?_)
    · exact absurd (rfl.symm.trans hk44) (by decide)
    · skip
      refine sk (vinB.n (tn (VRun.region (mO (tN i) rfl (fO (B.add (n := (((i + 1) : Nat) : Int)) (tv (tN i) rfl) (VEv.int .i64 1) (by first | rfl | (rw [wrap64 (by omega)]; omega) | (rw [wrap64 (by omega)]; done))) (aO (tN (i + 1)) rfl (VRunO.nil (tn ?_))))))))
      refine ⟨(i + 1 : Nat), ?_, ?_, Wk.mk (fun k => k) ?_ ?_ ?_⟩
      · refine allNext hI' fhc1 ?_; unfold fillOk; omega
      · first | omega | (simp only []; omega) | (show _ < _; omega) | (simp; omega)
      · exact (b2 (b2 (b2 (bn))))
      · exact (b3 (bn))
      · show List.Nodup ([0] : List Nat)
        decide
  refine VRun.exit (vthn.e (vthn.e (vinB.e (tn (sr (fO (OF.assign (VEv.bool true)) (nt (rt (vb (b' := true) rfl ?_)))))))))
  first | (symm; rw [decide_eq_true_eq]; refine ⟨?_, ?_, allEnd hI' fhc1⟩ <;> assumption) | (symm; rw [decide_eq_false_iff_not]; rintro ⟨g1, g2, g3⟩; first | contradiction | omega | (have g4 := g3 i fhc1; unfold fillOk at g4; omega))
theorem W_impl_IsFill (n : Nat) (g : D.Grid) (f : ByteArray) (hc : g.Cells.size ≤ maxLen) (hf : f.size ≤ maxLen) : Pure (acall Try.prog (n + 3)) 38 [(T.agg (eGrid false g)), (tS f)] (tB (decide (isFill g f))) := by
  refine Pure.intro (rs := [ResultVar.tmp 4]) Try.func38 rfl rfl rfl (E0 := [(0, (T.agg (eGrid false g))), (1, (tS f))]) rfl ?_
  obtain ⟨hlim, hmx, hmax⟩ := lims
  refine sr (kO (B.box (ts := (eGrid false g)) (tv (T.agg (eGrid false g)) rfl) nofun rfl) (fO (OF.assign (VEv.bool false)) (nt (sq (sr (lO (OL.loadOn (us := (eGrid false g)) (tv (T.op 0 0) rfl) rfl st29 sz29 (lb rfl) rfl) (cO (cS (vc (tv (T.agg (eGrid false g)) rfl) VEvs.nil) (LendL.cons (lg okeGrid) (LendL.nil)) (W_impl_IsGrid (n + 0) g (by first | assumption | omega)) rfl rfl) (fO (B.not (c := (!(decide (gridOk g)))) (tv (tB (decide (gridOk g))) rfl) rfl) (mO (tB (!(decide (gridOk g)))) rfl ?_)))))))))
  refine gn (gridOk g) (fun fhg9_1 => ?_) fun fhg9_1 => ?_
  · refine oO rfl rfl (ny fhg9_1) ?_
    refine oO rfl rfl (ny fhg9_1) (oO rfl rfl (ny fhg9_1) (oO rfl rfl (ny fhg9_1) (oO rfl rfl (ny fhg9_1) (oO rfl rfl (ny fhg9_1) (fO (OF.pickT (VEv.tmpB (b := (!(decide (gridOk g)))) rfl (ny fhg9_1)) (VEv.bool true)) (nt ?_))))))
    refine VRun.cond (tv (tB true) rfl) (fun hk2 => ?_) (fun hk2 => ?_)
    · skip
      refine sr (fO (OF.assign (VEv.bool false)) (nt (rt (tr (vb (b' := false) rfl ?_)))))
      first | (symm; rw [decide_eq_true_eq]; refine ⟨?_, ?_, allEnd hI' fhc1⟩ <;> assumption) | (symm; rw [decide_eq_false_iff_not]; rintro ⟨g1, g2, g3⟩; first | contradiction | omega | (have g4 := g3 i fhc1; unfold fillOk at g4; simp only [bneE, decide_eq_true_eq, decide_eq_false_iff_not, Classical.not_not] at *; omega))
    · exact absurd (rfl.symm.trans hk2) (by decide)
  refine gF (nz fhg9_1) rfl rfl (OF.move (tv (tS f) rfl)) (gL (nz fhg9_1) rfl rfl (B.lenS (tv (tS f) rfl) Try.underlying9) (gF (nz fhg9_1) rfl rfl (OF.fieldAddrO (tv (T.op 0 0) rfl) fa29_2) (gL (nz fhg9_1) rfl rfl (OL.loadO1 (t := (tS g.Cells)) (tv (T.op 0 2) rfl) rfl rfl st9) (gL (nz fhg9_1) rfl rfl (B.lenS (tv (tS g.Cells) rfl) Try.underlying9) (gF (nz fhg9_1) rfl rfl (B.neq (c := (!(decide (f.size = g.Cells.size)))) (tv (tN f.size) rfl) (tv (tN g.Cells.size) rfl) (decNn (by omega))) (fO (OF.pickF (VEv.tmpB (b := (!(decide (gridOk g)))) rfl (nz fhg9_1)) (tv (tB (!(decide (f.size = g.Cells.size)))) rfl)) (nt ?_)))))))
  refine cn (f.size = g.Cells.size) rfl (fun fhc0 => ?_) fun fhc0 => ?_
  · refine sr ?_
    refine fO (OF.assign (VEv.bool false)) (nt (rt (tr (vb (b' := false) rfl ?_))))
    first | (symm; rw [decide_eq_true_eq]; refine ⟨?_, ?_, allEnd hI' fhc1⟩ <;> assumption) | (symm; rw [decide_eq_false_iff_not]; rintro ⟨g1, g2, g3⟩; first | contradiction | omega | (have g4 := g3 i fhc1; unfold fillOk at g4; simp only [bneE, decide_eq_true_eq, decide_eq_false_iff_not, Classical.not_not] at *; omega))
  refine sk (tn (sq (sr (mO (tS f) rfl (lO (B.lenS (tv (tS f) rfl) Try.underlying9) (fO (OF.move (VEv.int .i64 0)) (nt (VRun.block ?_))))))))
  refine VRun.loop (A := Nat) (fun s_ => [(1, (tS f)), (2, (T.op 0 0)), (18, (tN f.size)), (19, (tN s_))]) (fun s_ => mkO [(0, (Obj.cells (eGrid false g)))]) 1 (fun s_ => s_ ≤ f.size ∧ ∀ j, j < s_ → fillOk (bAt g.Cells j) (bAt f j)) (fun s_ => f.size - s_) (0 : Nat) ?_ (Wk.mk (fun k => k) ?_ ?_ ?_) ?_
  · exact ⟨Nat.zero_le _, fun j hj => by omega⟩
  · exact (b2 (b2 (b2 (b2 (bn)))))
  · exact (b3 (bn))
  · show List.Nodup ([0] : List Nat)
    decide
  rintro i (hI' : i ≤ f.size ∧ ∀ j, j < i → fillOk (bAt g.Cells j) (bAt f j))
  show VRun _ _ _ [(1, (tS f)), (2, (T.op 0 0)), (18, (tN f.size)), (19, (tN i))] (mkO [(0, (Obj.cells (eGrid false g)))]) 1 _
  have hI1 := hI'.1
  have hgo : gridOk g := by assumption
  refine sr (fO (B.lss (c := (decide (i < f.size))) (tv (tN i) rfl) (tv (tN f.size) rfl) (decN (by omega))) (nt (sq ?_)))
  refine cd (i < f.size) rfl (fun fhc1 => ?_) fun fhc1 => ?_
  · have hgi := hgo.2.2.2 i (by omega)
    unfold gOk at hgi
    refine sk (tn (sq (VRun.block (sr (mO (tN i) rfl (aO (tN i) rfl (nt (sq (VRun.draw (B := [[], [0], [], [2, 0, 1], [1, 0, 2, 3], [], [], [6, 5], [5, 6, 7], [7, 6, 5, 8, 3, 2, 0, 1, 4], [4, 1, 0, 2, 3, 8, 5, 6, 7, 9], [9, 7, 6, 5, 8, 3, 2, 0, 1, 4, 10], [9, 7, 6, 5, 8, 3, 2, 0, 1, 4, 10], [12, 10, 4, 1, 0, 2, 3, 8, 5, 6, 7, 9, 11], [11, 9, 7, 6, 5, 8, 3, 2, 0, 1, 4, 10, 12, 13], [13, 12, 10, 4, 1, 0, 2, 3, 8, 5, 6, 7, 9, 11, 14], [14, 11, 9, 7, 6, 5, 8, 3, 2, 0, 1, 4, 10, 12, 13, 15], [14, 11, 9, 7, 6, 5, 8, 3, 2, 0, 1, 4, 10, 12, 13, 15], [17, 15, 13, 12, 10, 4, 1, 0, 2, 3, 8, 5, 6, 7, 9, 11, 14, 16], [16, 14, 11, 9, 7, 6, 5, 8, 3, 2, 0, 1, 4, 10, 12, 13, 15, 17, 18], [18, 17, 16, 19, 14, 11, 9, 7, 6, 5, 8, 3, 2, 0, 1, 4, 10, 12, 13, 15], [15, 13, 12, 10, 4, 1, 0, 2, 3, 8, 5, 6, 7, 9, 11, 14, 19, 16, 17, 18, 20], [20, 18, 17, 16, 19, 14, 11, 9, 7, 6, 5, 8, 3, 2, 0, 1, 4, 10, 12, 13, 15, 21], [20, 18, 17, 16, 19, 14, 11, 9, 7, 6, 5, 8, 3, 2, 0, 1, 4, 10, 12, 13, 15, 21], [23, 21, 15, 13, 12, 10, 4, 1, 0, 2, 3, 8, 5, 6, 7, 9, 11, 14, 19, 16, 17, 18, 20, 22], [22, 20, 18, 17, 16, 19, 14, 11, 9, 7, 6, 5, 8, 3, 2, 0, 1, 4, 10, 12, 13, 15, 21, 23, 24], [24, 23, 21, 15, 13, 12, 10, 4, 1, 0, 2, 3, 8, 5, 6, 7, 9, 11, 14, 19, 16, 17, 18, 20, 22, 25], [25, 22, 23, 24, 26, 20, 18, 17, 16, 19, 14, 11, 9, 7, 6, 5, 8, 3, 2, 0, 1, 4, 10, 12, 13, 15, 21], [21, 15, 13, 12, 11, 14, 19, 16, 17, 18, 20, 26, 24, 23, 22, 25, 27, 9, 7, 6, 5, 8, 3, 2, 0, 1, 4, 10]]) (by kernel_rfl) (by kernel_rfl) (fD (OF.fieldAddrO (tv (T.op 0 0) rfl) fa29_2) rfl rfl (lD (OL.loadO1 (t := (tS g.Cells)) (tv (T.op 0 2) rfl) rfl rfl st9) rfl rfl ?_)))))))))))
    refine mD (tN i) rfl rfl ?_
    have hb3 : i < g.Cells.size := (by omega)
    refine fD (B.index (n := (bAt g.Cells i)) (i := i) (tv (tS g.Cells) rfl) (tv (tN i) rfl) rfl hb3 Try.underlying9 (bAt_eq hb3)) rfl rfl (fD (B.eql (c := (decide (bAt g.Cells i = 35))) (tv (T.int .u8 (bAt g.Cells i)) rfl) (VEv.int .u8 35) rfl) rfl rfl (mD (tS f) rfl rfl (mD (tN i) rfl rfl ?_)))
    have hb4 : i < f.size := (by omega)
    refine fD (B.index (n := (bAt f i)) (i := i) (tv (tS f) rfl) (tv (tN i) rfl) rfl hb4 Try.underlying9 (bAt_eq hb4)) rfl rfl (fD (B.eql (c := (decide (bAt f i = 35))) (tv (T.int .u8 (bAt f i)) rfl) (VEv.int .u8 35) rfl) rfl rfl (fD (B.bneq Try.underlying4 (c := (!((decide (bAt g.Cells i = 35)) == (decide (bAt f i = 35))))) (tv (tB (decide (bAt g.Cells i = 35))) rfl) (tv (tB (decide (bAt f i = 35))) rfl) rfl) rfl rfl (mD (tB (!((decide (bAt g.Cells i = 35)) == (decide (bAt f i = 35))))) rfl rfl ?_)))
    refine bool_way (!((decide (bAt g.Cells i = 35)) == (decide (bAt f i = 35)))) (fun hg32_5 => ?_) (fun hg32_5 => ?_)
    · have fhg32_5 : (!((decide (bAt g.Cells i = 35)) == (decide (bAt f i = 35)))) = true := hg32_5
      refine oD rfl rfl hg32_5 rfl (oD rfl rfl hg32_5 rfl (oD rfl rfl hg32_5 rfl (oD rfl rfl hg32_5 rfl (oD rfl rfl hg32_5 rfl (uD rfl rfl rfl (uD rfl rfl rfl (uD rfl rfl rfl (uD rfl rfl rfl (oD rfl rfl hg32_5 rfl (oD rfl rfl hg32_5 rfl (uD rfl rfl rfl ?_)))))))))))
      refine uD rfl rfl rfl (uD rfl rfl rfl (uD rfl rfl rfl (uD rfl rfl rfl (oD rfl rfl hg32_5 rfl (fD (OF.pickT (VEv.tmpB (b := (!((decide (bAt g.Cells i = 35)) == (decide (bAt f i = 35))))) rfl hg32_5) (VEv.bool true)) rfl rfl (VRunD.nil (tn ?_)))))))
      refine VRun.cond (tv (tB true) rfl) (fun hk6 => ?_) (fun hk6 => ?_)
      · skip
        refine sr (fO (OF.assign (VEv.bool false)) (nt (rt (vinB.r (tr (tr (vinB.r (tr (vb (b' := false) rfl ?_)))))))))
        first | (symm; rw [decide_eq_true_eq]; refine ⟨?_, ?_, allEnd hI' fhc1⟩ <;> assumption) | (symm; rw [decide_eq_false_iff_not]; rintro ⟨g1, g2, g3⟩; first | contradiction | omega | (have g4 := g3 i fhc1; unfold fillOk at g4; simp only [bneE, decide_eq_true_eq, decide_eq_false_iff_not, Classical.not_not] at *; omega))
      · exact absurd (rfl.symm.trans hk6) (by decide)
    have fhg32_5 : (!((decide (bAt g.Cells i = 35)) == (decide (bAt f i = 35)))) = false := hg32_5
    refine VRunD.free rfl (VWant.on (b := (!((decide (bAt g.Cells i = 35)) == (decide (bAt f i = 35))))) rfl rfl hg32_5) rfl (OF.move (tv (tS f) rfl)) (VRunD.free rfl (VWant.on (b := (!((decide (bAt g.Cells i = 35)) == (decide (bAt f i = 35))))) rfl rfl hg32_5) rfl (OF.move (tv (tN i) rfl)) ?_)
    have hb7 : i < f.size := (by omega)
    refine VRunD.free rfl (VWant.on (b := (!((decide (bAt g.Cells i = 35)) == (decide (bAt f i = 35))))) rfl rfl hg32_5) rfl (B.index (n := (bAt f i)) (i := i) (tv (tS f) rfl) (tv (tN i) rfl) rfl hb7 Try.underlying9 (bAt_eq hb7)) (VRunD.free rfl (VWant.on (b := (!((decide (bAt g.Cells i = 35)) == (decide (bAt f i = 35))))) rfl rfl hg32_5) rfl (B.neq (c := (!(decide (bAt f i = 35)))) (tv (T.int .u8 (bAt f i)) rfl) (VEv.int .u8 35) rfl) (VRunD.free rfl (VWant.on (b := (!((decide (bAt g.Cells i = 35)) == (decide (bAt f i = 35))))) rfl rfl hg32_5) rfl (OF.move (tv (tB (!(decide (bAt f i = 35)))) rfl)) ?_))
    refine gn (bAt f i = 35) (fun fhg37_8 => ?_) fun fhg37_8 => ?_
    · refine VRunD.free rfl (VWant.on (b := (!(decide (bAt f i = 35)))) rfl rfl (ny fhg37_8)) rfl (OF.move (tv (tS f) rfl)) ?_
      refine VRunD.free rfl (VWant.on (b := (!(decide (bAt f i = 35)))) rfl rfl (ny fhg37_8)) rfl (OF.move (tv (tN i) rfl)) ?_
      have hb9 : i < f.size := (by omega)
      refine VRunD.free rfl (VWant.on (b := (!(decide (bAt f i = 35)))) rfl rfl (ny fhg37_8)) rfl (B.index (n := (bAt f i)) (i := i) (tv (tS f) rfl) (tv (tN i) rfl) rfl hb9 Try.underlying9 (bAt_eq hb9)) (VRunD.free rfl (VWant.on (b := (!(decide (bAt f i = 35)))) rfl rfl (ny fhg37_8)) rfl (B.neq (c := (!(decide (bAt f i = 63)))) (tv (T.int .u8 (bAt f i)) rfl) (VEv.int .u8 63) rfl) (VRunD.free rfl (VWant.on (b := (!((decide (bAt g.Cells i = 35)) == (decide (bAt f i = 35))))) rfl rfl hg32_5) rfl (OF.pickT (VEv.tmpB (b := (!(decide (bAt f i = 35)))) rfl (ny fhg37_8)) (tv (tB (!(decide (bAt f i = 63)))) rfl)) (VRunD.free rfl (VWant.on (b := (!((decide (bAt g.Cells i = 35)) == (decide (bAt f i = 35))))) rfl rfl hg32_5) rfl (OF.move (tv (tB (!(decide (bAt f i = 63)))) rfl)) ?_)))
      refine gn (bAt f i = 63) (fun fhg43_10 => ?_) fun fhg43_10 => ?_
      · refine VRunD.free rfl (VWant.on (b := (!(decide (bAt f i = 63)))) rfl rfl (ny fhg43_10)) rfl (OF.move (tv (tS f) rfl)) ?_
        refine VRunD.free rfl (VWant.on (b := (!(decide (bAt f i = 63)))) rfl rfl (ny fhg43_10)) rfl (OF.move (tv (tN i) rfl)) ?_
        have hb11 : i < f.size := (by omega)
        refine VRunD.free rfl (VWant.on (b := (!(decide (bAt f i = 63)))) rfl rfl (ny fhg43_10)) rfl (B.index (n := (bAt f i)) (i := i) (tv (tS f) rfl) (tv (tN i) rfl) rfl hb11 Try.underlying9 (bAt_eq hb11)) (VRunD.quiet (bi := [22, 20, 18, 17, 16, 19, 14, 11, 9, 7, 6, 5, 8, 3, 2, 0, 1, 4, 10, 12, 13, 15, 21, 23, 24]) rfl (VWant.on (b := (!(decide (bAt f i = 63)))) rfl rfl (ny fhg43_10)) rfl rfl rfl (bn) (cS (vc (tv (T.int .u8 (bAt f i)) rfl) VEvs.nil) (lp rfl (LendL.nil)) (W_impl_isLetter (n + 1) (bAt f i) ) rfl rfl) (VRunD.free rfl (VWant.on (b := (!(decide (bAt f i = 63)))) rfl rfl (ny fhg43_10)) rfl (B.not (c := (!(decide (97 ≤ (bAt f i) ∧ (bAt f i) ≤ 122)))) (tv (tB (decide (97 ≤ (bAt f i) ∧ (bAt f i) ≤ 122))) rfl) rfl) (VRunD.free rfl (VWant.on (b := (!((decide (bAt g.Cells i = 35)) == (decide (bAt f i = 35))))) rfl rfl hg32_5) rfl (OF.pickT (VEv.tmpB (b := (!(decide (bAt f i = 63)))) rfl (ny fhg43_10)) (tv (tB (!(decide (97 ≤ (bAt f i) ∧ (bAt f i) ≤ 122)))) rfl)) (fD (OF.pickF (VEv.tmpB (b := (!((decide (bAt g.Cells i = 35)) == (decide (bAt f i = 35))))) rfl hg32_5) (tv (tB (!(decide (97 ≤ (bAt f i) ∧ (bAt f i) ≤ 122)))) rfl)) rfl rfl (VRunD.nil (tn ?_))))))
        refine cn (97 ≤ (bAt f i) ∧ (bAt f i) ≤ 122) rfl (fun fhc2 => ?_) fun fhc2 => ?_
        · refine sr ?_
          refine fO (OF.assign (VEv.bool false)) (nt (rt (vinB.r (tr (tr (vinB.r (tr (vb (b' := false) rfl ?_))))))))
          first | (symm; rw [decide_eq_true_eq]; refine ⟨?_, ?_, allEnd hI' fhc1⟩ <;> assumption) | (symm; rw [decide_eq_false_iff_not]; rintro ⟨g1, g2, g3⟩; first | contradiction | omega | (have g4 := g3 i fhc1; unfold fillOk at g4; simp only [bneE, decide_eq_true_eq, decide_eq_false_iff_not, Classical.not_not] at *; omega))
        refine sk (vinB.n (tn (VRun.region (fO (B.add (n := (((i + 1) : Nat) : Int)) (tv (tN i) rfl) (VEv.int .i64 1) (by first | rfl | (rw [wrap64 (by omega)]; omega) | (rw [wrap64 (by omega)]; done))) (mO (tN (i + 1)) rfl (VRunO.nil (tn ?_)))))))
        refine ⟨(i + 1 : Nat), ?_, ?_, Wk.mk (fun k => k) ?_ ?_ ?_⟩
        · refine allNext hI' fhc1 ?_; unfold fillOk; simp only [bneE, decide_eq_true_eq, decide_eq_false_iff_not, Classical.not_not] at *; omega
        · first | omega | (simp only []; omega) | (show _ < _; omega) | (simp; omega)
        · exact (b2 (b2 (b2 (b2 (bn)))))
        · exact (b3 (bn))
        · show List.Nodup ([0] : List Nat)
          decide
      refine oD rfl rfl (nz fhg43_10) rfl (oD rfl rfl (nz fhg43_10) rfl (oD rfl rfl (nz fhg43_10) rfl (oD rfl rfl (nz fhg43_10) rfl (oD rfl rfl (nz fhg43_10) rfl (VRunD.free rfl (VWant.on (b := (!((decide (bAt g.Cells i = 35)) == (decide (bAt f i = 35))))) rfl rfl hg32_5) rfl (OF.pickF (VEv.tmpB (b := (!(decide (bAt f i = 63)))) rfl (nz fhg43_10)) (VEv.bool false)) (fD (OF.pickF (VEv.tmpB (b := (!((decide (bAt g.Cells i = 35)) == (decide (bAt f i = 35))))) rfl hg32_5) (tv (tB false) rfl)) rfl rfl (VRunD.nil (tn ?_))))))))
      refine VRun.cond (tv (tB false) rfl) (fun hk12 => ?_) (fun hk12 => ?_)
      · exact absurd (rfl.symm.trans hk12) (by decide)
      · skip
        refine sk (vinB.n (tn (VRun.region (fO (B.add (n := (((i + 1) : Nat) : Int)) (tv (tN i) rfl) (VEv.int .i64 1) (by first | rfl | (rw [wrap64 (by omega)]; omega) | (rw [wrap64 (by omega)]; done))) (mO (tN (i + 1)) rfl (VRunO.nil (tn ?_)))))))
        refine ⟨(i + 1 : Nat), ?_, ?_, Wk.mk (fun k => k) ?_ ?_ ?_⟩
        · refine allNext hI' fhc1 ?_; unfold fillOk; simp only [bneE, decide_eq_true_eq, decide_eq_false_iff_not, Classical.not_not] at *; omega
        · first | omega | (simp only []; omega) | (show _ < _; omega) | (simp; omega)
        · exact (b2 (b2 (b2 (b2 (bn)))))
        · exact (b3 (bn))
        · show List.Nodup ([0] : List Nat)
          decide
    refine oD rfl rfl (nz fhg37_8) rfl (oD rfl rfl (nz fhg37_8) rfl (oD rfl rfl (nz fhg37_8) rfl (oD rfl rfl (nz fhg37_8) rfl (VRunD.free rfl (VWant.on (b := (!((decide (bAt g.Cells i = 35)) == (decide (bAt f i = 35))))) rfl rfl hg32_5) rfl (OF.pickF (VEv.tmpB (b := (!(decide (bAt f i = 35)))) rfl (nz fhg37_8)) (VEv.bool false)) (VRunD.free rfl (VWant.on (b := (!((decide (bAt g.Cells i = 35)) == (decide (bAt f i = 35))))) rfl rfl hg32_5) rfl (OF.move (tv (tB false) rfl)) (VRunD.off rfl (VWant.not (b := false) rfl rfl rfl) (VRunD.off rfl (VWant.not (b := false) rfl rfl rfl) (VRunD.off rfl (VWant.not (b := false) rfl rfl rfl) (VRunD.off rfl (VWant.not (b := false) rfl rfl rfl) (VRunD.off rfl (VWant.not (b := false) rfl rfl rfl) (VRunD.free rfl (VWant.on (b := (!((decide (bAt g.Cells i = 35)) == (decide (bAt f i = 35))))) rfl rfl hg32_5) rfl (OF.pickF (tv (tB false) rfl) (VEv.bool false)) ?_)))))))))))
    refine fD (OF.pickF (VEv.tmpB (b := (!((decide (bAt g.Cells i = 35)) == (decide (bAt f i = 35))))) rfl hg32_5) (tv (tB false) rfl)) rfl rfl (VRunD.nil (tn ?_))
    refine VRun.cond (tv (tB false) rfl) (fun hk13 => ?_) (fun hk13 => ?_)
    · exact absurd (rfl.symm.trans hk13) (by decide)
    · skip
      refine sk (vinB.n (tn (VRun.region (fO (B.add (n := (((i + 1) : Nat) : Int)) (tv (tN i) rfl) (VEv.int .i64 1) (by first | rfl | (rw [wrap64 (by omega)]; omega) | (rw [wrap64 (by omega)]; done))) (mO (tN (i + 1)) rfl (VRunO.nil (tn ?_)))))))
      refine ⟨(i + 1 : Nat), ?_, ?_, Wk.mk (fun k => k) ?_ ?_ ?_⟩
      · refine allNext hI' fhc1 ?_; unfold fillOk; simp only [bneE, decide_eq_true_eq, decide_eq_false_iff_not, Classical.not_not] at *; omega
      · first | omega | (simp only []; omega) | (show _ < _; omega) | (simp; omega)
      · exact (b2 (b2 (b2 (b2 (bn)))))
      · exact (b3 (bn))
      · show List.Nodup ([0] : List Nat)
        decide
  refine VRun.exit (vthn.e (vthn.e (vinB.e (tn (sr (fO (OF.assign (VEv.bool true)) (nt (rt (vb (b' := true) rfl ?_)))))))))
  first | (symm; rw [decide_eq_true_eq]; refine ⟨?_, ?_, allEnd hI' fhc1⟩ <;> assumption) | (symm; rw [decide_eq_false_iff_not]; rintro ⟨g1, g2, g3⟩; first | contradiction | omega | (have g4 := g3 i fhc1; unfold fillOk at g4; simp only [bneE, decide_eq_true_eq, decide_eq_false_iff_not, Classical.not_not] at *; omega))
theorem W_spec_IsWhite (n : Nat) (g : D.Grid) (c : Int) (hc : g.Cells.size ≤ maxLen) : Pure (acall Try.prog (n + 3)) 97 [(T.agg (eGrid false g)), (tI c)] (tB (decide (gridOk g ∧ (0 ≤ c ∧ c ≤ ((g.Cells.size : Nat) : Int) - 1) ∧ bAt g.Cells (Int.toNat c) = 46))) := by
  refine Pure.intro (rs := [ResultVar.tmp 4]) Try.func97 rfl rfl rfl (E0 := [(0, (T.agg (eGrid false g))), (1, (tI c))]) rfl ?_
  obtain ⟨hlim, hmx, hmax⟩ := lims
  refine sr (kO (B.box (ts := (eGrid false g)) (tv (T.agg (eGrid false g)) rfl) nofun rfl) (fO (OF.assign (VEv.bool false)) (nt (sr (lO (OL.loadOn (us := (eGrid false g)) (tv (T.op 0 0) rfl) rfl st29 sz29 (lb rfl) rfl) (cO (cS (vc (tv (T.agg (eGrid false g)) rfl) VEvs.nil) (LendL.cons (lg okeGrid) (LendL.nil)) (W_spec_IsGrid (n + 0) g (by first | assumption | omega)) rfl rfl) (mO (tB (decide (gridOk g))) rfl ?_)))))))
  refine gw (gridOk g) (fun fhg7_1 => ?_) fun fhg7_1 => ?_
  · refine gF (dy fhg7_1) rfl rfl (OF.move (tv (tI c) rfl)) ?_
    refine gF (dy fhg7_1) rfl rfl (OF.fieldAddrO (tv (T.op 0 0) rfl) fa29_2) (gL (dy fhg7_1) rfl rfl (OL.loadO1 (t := (tS g.Cells)) (tv (T.op 0 2) rfl) rfl rfl st9) (gL (dy fhg7_1) rfl rfl (B.lenS (tv (tS g.Cells) rfl) Try.underlying9) (gF (dy fhg7_1) rfl rfl (B.sub (n := (((g.Cells.size : Nat) : Int) - 1)) (tv (tN g.Cells.size) rfl) (VEv.int .i64 1) (by first | rfl | (rw [wrap64 (by omega)]; omega) | (rw [wrap64 (by omega)]; done))) (VRunO.chain (VWant.on (b := (decide (gridOk g))) rfl rfl (dy fhg7_1)) (cS (vc (tv (tI c) rfl) (vc (VEv.int .i64 0) (vc (tv (tI (((g.Cells.size : Nat) : Int) - 1)) rfl) VEvs.nil))) (lp rfl (lp rfl (lp rfl (LendL.nil)))) (W_spec_l1In (n + 1) c 0 (((g.Cells.size : Nat) : Int) - 1) ) rfl rfl) (fO (OF.pickT (VEv.tmpB (b := (decide (gridOk g))) rfl (dy fhg7_1)) (tv (tB (decide (0 ≤ c ∧ c ≤ (((g.Cells.size : Nat) : Int) - 1)))) rfl)) (mO (tB (decide (0 ≤ c ∧ c ≤ (((g.Cells.size : Nat) : Int) - 1)))) rfl ?_))))))
    refine gw (0 ≤ c ∧ c ≤ (((g.Cells.size : Nat) : Int) - 1)) (fun fhg15_2 => ?_) fun fhg15_2 => ?_
    · refine gF (dy fhg15_2) rfl rfl (OF.fieldAddrO (tv (T.op 0 0) rfl) fa29_2) ?_
      refine gL (dy fhg15_2) rfl rfl (OL.loadO1 (t := (tS g.Cells)) (tv (T.op 0 2) rfl) rfl rfl st9) (gF (dy fhg15_2) rfl rfl (OF.move (tv (tI c) rfl)) ?_)
      have hb3 : (Int.toNat c) < g.Cells.size := (by omega)
      refine gF (dy fhg15_2) rfl rfl (B.index (n := (bAt g.Cells (Int.toNat c))) (i := (Int.toNat c)) (tv (tS g.Cells) rfl) (tv (tI c) rfl) (by omega) hb3 Try.underlying9 (bAt_eq hb3)) (gF (dy fhg15_2) rfl rfl (B.eql (c := (decide (bAt g.Cells (Int.toNat c) = 46))) (tv (T.int .u8 (bAt g.Cells (Int.toNat c))) rfl) (VEv.int .u8 46) rfl) (fO (OF.pickT (VEv.tmpB (b := (decide (0 ≤ c ∧ c ≤ (((g.Cells.size : Nat) : Int) - 1)))) rfl (dy fhg15_2)) (tv (tB (decide (bAt g.Cells (Int.toNat c) = 46))) rfl)) (aO (tB (decide (bAt g.Cells (Int.toNat c) = 46))) rfl (nt (rt (vb (b' := (decide (bAt g.Cells (Int.toNat c) = 46))) rfl ?_))))))
      first | (refine decN ⟨fun h => ⟨?_, ?_, h⟩, fun h => h.2.2⟩ <;> first | assumption | omega) | (symm; rw [decide_eq_false_iff_not]; rintro ⟨g1, g2, g3⟩; first | contradiction | omega)
    refine oO rfl rfl (dz fhg15_2) (oO rfl rfl (dz fhg15_2) (oO rfl rfl (dz fhg15_2) (oO rfl rfl (dz fhg15_2) (oO rfl rfl (dz fhg15_2) (fO (OF.pickF (VEv.tmpB (b := (decide (0 ≤ c ∧ c ≤ (((g.Cells.size : Nat) : Int) - 1)))) rfl (dz fhg15_2)) (VEv.bool false)) (aO (tB false) rfl (nt (rt (vb (b' := false) rfl ?_)))))))))
    first | (refine decN ⟨fun h => ⟨?_, ?_, h⟩, fun h => h.2.2⟩ <;> first | assumption | omega) | (symm; rw [decide_eq_false_iff_not]; rintro ⟨g1, g2, g3⟩; first | contradiction | omega)
  refine oO rfl rfl (dz fhg7_1) (oO rfl rfl (dz fhg7_1) (oO rfl rfl (dz fhg7_1) (oO rfl rfl (dz fhg7_1) (oO rfl rfl (dz fhg7_1) (oO rfl rfl (dz fhg7_1) (fO (OF.pickF (VEv.tmpB (b := (decide (gridOk g))) rfl (dz fhg7_1)) (VEv.bool false)) (mO (tB false) rfl (VRunO.off (VWant.not (b := false) rfl rfl rfl) (VRunO.off (VWant.not (b := false) rfl rfl rfl) (VRunO.off (VWant.not (b := false) rfl rfl rfl) (VRunO.off (VWant.not (b := false) rfl rfl rfl) ?_)))))))))))
  refine VRunO.off (VWant.not (b := false) rfl rfl rfl) (fO (OF.pickF (tv (tB false) rfl) (VEv.bool false)) (aO (tB false) rfl (nt (rt (vb (b' := false) rfl ?_)))))
  first | (refine decN ⟨fun h => ⟨?_, ?_, h⟩, fun h => h.2.2⟩ <;> first | assumption | omega) | (symm; rw [decide_eq_false_iff_not]; rintro ⟨g1, g2, g3⟩; first | contradiction | omega)
theorem W_spec_l8Has (n : Nat) (l : List Int) (v : Int) (hl : l.length ≤ lim) : Pure (acall Try.prog (n + 1)) 107 [(rd 1 eInt l), (tI v)] (tB (decide (v ∈ l))) := by
  refine Pure.intro (rs := [ResultVar.tmp 4]) Try.func107 rfl rfl rfl (E0 := [(0, (rd 1 eInt l)), (1, (tI v))]) rfl ?_
  obtain ⟨hlim, hmx, hmax⟩ := lims
  refine sr (fO (OF.assign (VEv.bool false)) (nt (sq (sr (fO (OF.assign (VEv.int .i64 0)) (nt (VRun.block ?_)))))))
  refine VRun.loop (A := Nat) (fun s_ => [(0, (rd 1 eInt l)), (1, (tI v)), (5, (tN s_))]) (fun s_ => mkO []) 0 (fun s_ => NoneTo (fun y => y = v) l s_) (fun s_ => l.length - s_) (0 : Nat) ?_ (Wk.mk (fun k => k) ?_ ?_ ?_) ?_
  · exact NoneTo.start _ _
  · exact (b2 (b2 (b2 (bn))))
  · exact (bn)
  · show List.Nodup ([] : List Nat)
    decide
  rintro i (hI' : NoneTo (fun y => y = v) l i)
  show VRun _ _ _ [(0, (rd 1 eInt l)), (1, (tI v)), (5, (tN i))] (mkO []) 0 _
  have hI1 := hI'.1
  refine sq (sr (mO (tN i) rfl (mO (rd 1 eInt l) rfl (lO (B.lenR (m := l.length) (tv (rd 1 eInt l) rfl) Try.underlying36 (List.length_map ..)) (fO (B.lss (c := (decide (i < l.length))) (tv (tN i) rfl) (tv (tN l.length) rfl) (decN (by omega))) (nt ?_))))))
  refine cd (i < l.length) rfl (fun fhc0 => ?_) fun fhc0 => ?_
  · refine sk ?_
    refine tn (sq (VRun.block (sr (mO (rd 1 eInt l) rfl (mO (tN i) rfl ?_)))))
    obtain ⟨x1, hx1⟩ : ∃ x, l[i]? = some x := ⟨_, List.getElem?_eq_getElem (by omega)⟩
    refine fO (OF.indexAddrR (row := (eInt false x1)) (i := i) (tv (rd 1 eInt l) rfl) (tv (tN i) rfl) rfl (map_at _ hx1) Try.underlying36 sz3 if3) (lO (OL.loadR1 (t := (tI x1)) (tv (T.rp [(tI x1)]) rfl) rfl st3) (mO (tI v) rfl (fO (B.eql (c := (decide (x1 = v))) (tv (tI x1) rfl) (tv (tI v) rfl) rfl) (nt ?_))))
    refine cd (x1 = v) rfl (fun fhc1 => ?_) fun fhc1 => ?_
    · refine sr ?_
      refine fO (OF.assign (VEv.bool true)) (nt (rt (vinB.r (tr (tr (vinB.r (tr (vb (b' := true) rfl ?_))))))))
      symm; rw [decide_eq_true_eq, ← fhc1]; exact List.mem_of_getElem? hx1
    refine sk (vinB.n (tn (VRun.region (mO (tN i) rfl (fO (B.add (n := (((i + 1) : Nat) : Int)) (tv (tN i) rfl) (VEv.int .i64 1) (by first | rfl | (rw [wrap64 (by omega)]; omega) | (rw [wrap64 (by omega)]; done))) (aO (tN (i + 1)) rfl (VRunO.nil (tn ?_))))))))
    refine ⟨(i + 1 : Nat), ?_, ?_, Wk.mk (fun k => k) ?_ ?_ ?_⟩
    · exact hI'.next hx1 fhc1
    · first | omega | (simp only []; omega) | (show _ < _; omega) | (simp; omega)
    · exact (b2 (b2 (b2 (bn))))
    · exact (bn)
    · show List.Nodup ([] : List Nat)
      decide
  refine VRun.exit (vthn.e (vthn.e (vinB.e (tn (sr (fO (OF.assign (VEv.bool false)) (nt (rt (vb (b' := false) rfl ?_)))))))))
  symm; rw [decide_eq_false_iff_not]; intro h; exact hI'.mem fhc0 v h rfl
theorem W_slices_Index_int_int_ (n : Nat) (a : List Int) (b : Int) (ha : a.length ≤ lim) : Pure (acall Try.prog (n + 1)) 113 [(rd 1 eInt a), (tI b)] (tI (ixF (fun y => b = y) a)) := by
  refine Pure.intro (rs := [ResultVar.tmp 4]) Try.func113 rfl rfl rfl (E0 := [(0, (rd 1 eInt a)), (1, (tI b))]) rfl ?_
  obtain ⟨hlim, hmx, hmax⟩ := lims
  refine sr (fO (OF.assign (VEv.int .i64 0)) (nt (sq (sr (mO (rd 1 eInt a) rfl (lO (B.lenR (m := a.length) (tv (rd 1 eInt a) rfl) Try.underlying36 (List.length_map ..)) (fO (OF.move (VEv.int .i64 0)) (nt (VRun.block ?_)))))))))
  refine VRun.loop (A := Nat) (fun s_ => [(0, (rd 1 eInt a)), (1, (tI b)), (7, (tN a.length)), (8, (tN s_))]) (fun s_ => mkO []) 0 (fun s_ => NoneTo (fun y => b = y) a s_) (fun s_ => a.length - s_) (0 : Nat) ?_ (Wk.mk (fun k => k) ?_ ?_ ?_) ?_
  · exact NoneTo.start _ _
  · exact (b2 (b2 (b2 (b2 (bn)))))
  · exact (bn)
  · show List.Nodup ([] : List Nat)
    decide
  rintro i (hI' : NoneTo (fun y => b = y) a i)
  show VRun _ _ _ [(0, (rd 1 eInt a)), (1, (tI b)), (7, (tN a.length)), (8, (tN i))] (mkO []) 0 _
  have hI1 := hI'.1
  refine sr (fO (B.lss (c := (decide (i < a.length))) (tv (tN i) rfl) (tv (tN a.length) rfl) (decN (by omega))) (nt (sq ?_)))
  refine cd (i < a.length) rfl (fun fhc0 => ?_) fun fhc0 => ?_
  · refine sk ?_
    refine tn (sq (VRun.block (sr (mO (tN i) rfl (aO (tN i) rfl (nt (sr (mO (tI b) rfl (mO (rd 1 eInt a) rfl (mO (tN i) rfl ?_))))))))))
    obtain ⟨x1, hx1⟩ : ∃ x, a[i]? = some x := ⟨_, List.getElem?_eq_getElem (by omega)⟩
    refine fO (OF.indexAddrR (row := (eInt false x1)) (i := i) (tv (rd 1 eInt a) rfl) (tv (tN i) rfl) rfl (map_at _ hx1) Try.underlying36 sz3 if3) (lO (OL.loadR1 (t := (tI x1)) (tv (T.rp [(tI x1)]) rfl) rfl st3) (fO (B.eql (c := (decide (b = x1))) (tv (tI b) rfl) (tv (tI x1) rfl) rfl) (nt ?_)))
    refine cd (b = x1) rfl (fun fhc1 => ?_) fun fhc1 => ?_
    · refine sr ?_
      refine mO (tN i) rfl (aO (tN i) rfl (nt (rt (vinB.r (tr (tr (vinB.r (tr (vi (n' := ((i : Nat) : Int)) rfl ?_)))))))))
      exact (ixF_found hx1 fhc1 hI'.2).symm
    refine sk (vinB.n (tn (VRun.region (fO (B.add (n := (((i + 1) : Nat) : Int)) (tv (tN i) rfl) (VEv.int .i64 1) (by first | rfl | (rw [wrap64 (by omega)]; omega) | (rw [wrap64 (by omega)]; done))) (mO (tN (i + 1)) rfl (VRunO.nil (tn ?_)))))))
    refine ⟨(i + 1 : Nat), ?_, ?_, Wk.mk (fun k => k) ?_ ?_ ?_⟩
    · exact hI'.next hx1 fhc1
    · first | omega | (simp only []; omega) | (show _ < _; omega) | (simp; omega)
    · exact (b2 (b2 (b2 (b2 (bn)))))
    · exact (bn)
    · show List.Nodup ([] : List Nat)
      decide
  refine VRun.exit (vthn.e (vthn.e (vinB.e (tn (sr (fO (OF.assign (VEv.int .i64 (-1))) (nt (rt (vi (n' := (-1)) rfl ?_)))))))))
  exact (ixF_none (hI'.all fhc0)).symm
theorem W_slices_Contains_int_int_ (n : Nat) (a : List Int) (b : Int) (ha : a.length ≤ lim) : Pure (acall Try.prog (n + 2)) 112 [(rd 1 eInt a), (tI b)] (tB (decide (b ∈ a))) := by
  refine Pure.intro (rs := [ResultVar.tmp 4]) Try.func112 rfl rfl rfl (E0 := [(0, (rd 1 eInt a)), (1, (tI b))]) rfl ?_
  obtain ⟨hlim, hmx, hmax⟩ := lims
  refine sr (fO (OF.assign (VEv.bool false)) (nt (sr (mO (rd 1 eInt a) rfl (mO (tI b) rfl (cO (cS (vc (tv (rd 1 eInt a) rfl) (vc (tv (tI b) rfl) VEvs.nil)) (lp rfl (lp rfl (LendL.nil))) (W_slices_Index_int_int_ (n + 0) a b (by first | assumption | omega)) rfl rfl) (fO (B.geq (c := (decide (0 ≤ ixF (fun y => b = y) a))) (tv (tI (ixF (fun y => b = y) a)) rfl) (VEv.int .i64 0) rfl) (aO (tB (decide (0 ≤ ixF (fun y => b = y) a))) rfl (nt (rt (vb (b' := (decide (0 ≤ ixF (fun y => b = y) a))) rfl ?_)))))))))))
  refine decN ?_
  rw [ixF_nn]
  exact ⟨fun ⟨x, h1, h2⟩ => h2 ▸ h1, fun h => ⟨b, h, rfl⟩⟩
end Go.Proofs.Ytjclbdgjkecbeaa.AE
namespace Go.Proofs.Ytjclbdgjkecbeaa.AE
open Go Go.RowKit
set_option linter.unusedVariables false
set_option linter.unusedSimpArgs false
set_option maxRecDepth 20000
set_option maxHeartbeats 2000000
noncomputable section
def runN (ok : Nat → Prop) [DecidablePred ok] : Nat → Nat → Nat
  | 0, n => n
  | f + 1, n => if ok n then runN ok f (n + 1) else n
theorem runN_next {ok : Nat → Prop} [DecidablePred ok] {n : Nat} (h : ok n) (hn : n < 6) : runN ok (6 - n) n = runN ok (6 - (n + 1)) (n + 1) := by
  obtain ⟨k, hk⟩ : ∃ k, 6 - n = k + 1 := ⟨5 - n, by omega⟩
  rw [hk, show 6 - (n + 1) = k by omega]
  simp only [runN, if_pos h]
theorem runN_end {ok : Nat → Prop} [DecidablePred ok] {n f : Nat} (h : ¬ ok n) : runN ok f n = n := by
  cases f with
  | zero => rfl
  | succ f => simp only [runN, if_neg h]
def slA (g : D.Grid) (cell n : Nat) : Prop := ((cell % g.Cols.toNat + n : Nat) : Int) < g.Cols ∧ bAt g.Cells (cell + n * 1) = 46
def slD (g : D.Grid) (cell n : Nat) : Prop := ((cell / g.Cols.toNat + n : Nat) : Int) < g.Rows ∧ bAt g.Cells (Int.toNat (((cell : Nat) : Int) + ((n : Nat) : Int) * g.Cols)) = 46
instance (g : D.Grid) (cell : Nat) : DecidablePred (slA g cell) := fun _ => Classical.propDecidable _
instance (g : D.Grid) (cell : Nat) : DecidablePred (slD g cell) := fun _ => Classical.propDecidable _
def fromA (g : D.Grid) (cell : Nat) : Nat := if bAt g.Cells cell = 46 ∧ ¬ (0 < cell % g.Cols.toNat ∧ bAt g.Cells (Int.toNat (((cell : Nat) : Int) - 1)) = 46) then runN (slA g cell) 6 0 else 0
def fromD (g : D.Grid) (cell : Nat) : Nat := if bAt g.Cells cell = 46 ∧ ¬ (0 < cell / g.Cols.toNat ∧ bAt g.Cells (Int.toNat (((cell : Nat) : Int) - g.Cols)) = 46) then runN (slD g cell) 6 0 else 0
def fromG (g : D.Grid) (cell : Nat) (down : Bool) : Nat := if down = true then fromD g cell else fromA g cell
theorem remN {c : Nat} {w : Int} (h : 2 ≤ w) : ((c : Nat) : Int).tmod w = ((c % w.toNat : Nat) : Int) := by
  obtain ⟨k, rfl⟩ := Int.eq_ofNat_of_zero_le (show 0 ≤ w by omega)
  rfl
theorem quoN {c : Nat} {w : Int} (h : 2 ≤ w) (hc : c ≤ 36) : IntKind.i64.wrap (((c : Nat) : Int).tdiv w) = ((c / w.toNat : Nat) : Int) := by
  obtain ⟨k, rfl⟩ := Int.eq_ofNat_of_zero_le (show 0 ≤ w by omega)
  have : c / k ≤ c := Nat.div_le_self _ _
  show IntKind.i64.wrap ((c / k : Nat) : Int) = ((c / k : Nat) : Int)
  generalize c / k = q at *
  rw [wrap64 (by omega)]
theorem mulN {n : Nat} {c : Int} (h : n ≤ 6) (h2 : 2 ≤ c) (h3 : c ≤ 6) : 0 ≤ ((n : Nat) : Int) * c ∧ ((n : Nat) : Int) * c ≤ 36 := by
  have e1 : 0 ≤ ((n : Nat) : Int) * c := Int.mul_nonneg (by omega) (by omega)
  have e2 : ((n : Nat) : Int) * c ≤ 6 * 6 := Int.mul_le_mul (by omega) h3 (by omega) (by decide)
  omega
theorem mulWn {n : Nat} {c : Int} (h : n ≤ 6) (h2 : 2 ≤ c) (h3 : c ≤ 6) : IntKind.i64.wrap (((n : Nat) : Int) * c) = ((n : Nat) : Int) * c := by
  have := mulN h h2 h3
  rw [wrap64 (by omega)]
theorem cell_at {g : D.Grid} {cell : Nat} (hg : gridOk g) (hc : cell < g.Cells.size) : (cell % g.Cols.toNat < g.Cols.toNat ∧ cell / g.Cols.toNat < g.Rows.toNat) ∧ (0 < cell % g.Cols.toNat → 1 ≤ cell) ∧ (0 < cell / g.Cols.toNat → g.Cols.toNat ≤ cell) ∧ (∀ n : Nat, ((cell % g.Cols.toNat + n : Nat) : Int) < g.Cols → cell + n < g.Cells.size) ∧ ∀ n : Nat, ((cell / g.Cols.toNat + n : Nat) : Int) < g.Rows → ((cell : Nat) : Int) + ((n : Nat) : Int) * g.Cols < g.Cells.size := by
  obtain ⟨⟨a1, a2⟩, ⟨b1, b2⟩, hs, _⟩ := hg
  obtain ⟨w, hw⟩ := Int.eq_ofNat_of_zero_le (show 0 ≤ g.Cols by omega)
  obtain ⟨r, hr⟩ := Int.eq_ofNat_of_zero_le (show 0 ≤ g.Rows by omega)
  have hs2 : g.Cells.size = r * w := by rw [hw, hr] at hs; exact_mod_cast hs
  have hw0 : 0 < w := by omega
  have hwn : g.Cols.toNat = w := by omega
  have hrn : g.Rows.toNat = r := by omega
  rw [hwn, hrn]
  have h1 : cell % w < w := Nat.mod_lt _ hw0
  have h2 : cell / w < r := (Nat.div_lt_iff_lt_mul hw0).2 (hs2 ▸ hc)
  have h3 : w * (cell / w) + cell % w = cell := Nat.div_add_mod cell w
  have h4 : ∀ k, k < r → w * k + w ≤ r * w := fun k hk => by
    have := Nat.mul_le_mul_left w (show k + 1 ≤ r from hk)
    rw [Nat.mul_add, Nat.mul_one, Nat.mul_comm w r] at this
    exact this
  refine ⟨⟨h1, h2⟩, fun h => ?_, fun h => ?_, fun n hn => ?_, fun n hn => ?_⟩
  · have := Nat.mod_le cell w; omega
  · have := Nat.mul_le_mul_left w (show 1 ≤ cell / w from h)
    rw [Nat.mul_one] at this
    generalize w * (cell / w) = q2 at *
    generalize cell % w = q3 at *
    omega
  · have := h4 _ h2
    generalize w * (cell / w) = q2 at *
    generalize cell % w = q3 at *
    omega
  · have h5 := h4 (cell / w + n) (by omega)
    rw [Nat.mul_add] at h5
    have h6 : ((n : Nat) : Int) * g.Cols = ((w * n : Nat) : Int) := by rw [hw, Int.mul_comm]; rfl
    rw [h6]
    generalize w * n = q at *
    generalize w * (cell / w) = q2 at *
    generalize cell % w = q3 at *
    omega
theorem fromA_zero {g : D.Grid} {cell : Nat} (h : ¬ bAt g.Cells cell = 46 ∨ (0 < cell % g.Cols.toNat ∧ bAt g.Cells (Int.toNat (((cell : Nat) : Int) - 1)) = 46)) : fromA g cell = 0 := if_neg (by omega)
theorem fromD_zero {g : D.Grid} {cell : Nat} (h : ¬ bAt g.Cells cell = 46 ∨ (0 < cell / g.Cols.toNat ∧ bAt g.Cells (Int.toNat (((cell : Nat) : Int) - g.Cols)) = 46)) : fromD g cell = 0 := if_neg (by omega)
theorem fromA_run {g : D.Grid} {cell n : Nat} (h : bAt g.Cells cell = 46 ∧ ¬ (0 < cell % g.Cols.toNat ∧ bAt g.Cells (Int.toNat (((cell : Nat) : Int) - 1)) = 46)) (hr : runN (slA g cell) 6 0 = runN (slA g cell) (6 - n) n) (hn : ¬ slA g cell n) : fromA g cell = n := by
  rw [fromA, if_pos h, hr, runN_end hn]
theorem fromD_run {g : D.Grid} {cell n : Nat} (h : bAt g.Cells cell = 46 ∧ ¬ (0 < cell / g.Cols.toNat ∧ bAt g.Cells (Int.toNat (((cell : Nat) : Int) - g.Cols)) = 46)) (hr : runN (slD g cell) 6 0 = runN (slD g cell) (6 - n) n) (hn : ¬ slD g cell n) : fromD g cell = n := by
  rw [fromD, if_pos h, hr, runN_end hn]
theorem zD {g : D.Grid} {cell : Nat} {down : Bool} (hd : down = true) (h : ¬ bAt g.Cells cell = 46 ∨ (0 < cell / g.Cols.toNat ∧ bAt g.Cells (Int.toNat (((cell : Nat) : Int) - g.Cols)) = 46)) : (0 : Int) = ((fromG g cell down : Nat) : Int) := by
  rw [fromG, if_pos hd, fromD_zero h]; rfl
theorem zA {g : D.Grid} {cell : Nat} {down : Bool} (hd : down = false) (h : ¬ bAt g.Cells cell = 46 ∨ (0 < cell % g.Cols.toNat ∧ bAt g.Cells (Int.toNat (((cell : Nat) : Int) - 1)) = 46)) : (0 : Int) = ((fromG g cell down : Nat) : Int) := by
  rw [fromG, if_neg (by simp [hd]), fromA_zero h]; rfl
def runI (g : D.Grid) (cell : Nat) (down : Bool) (n : Nat) : Prop := if down = true then runN (slD g cell) 6 0 = runN (slD g cell) (6 - n) n else runN (slA g cell) 6 0 = runN (slA g cell) (6 - n) n
theorem runI_zero (g : D.Grid) (cell : Nat) (down : Bool) : runI g cell down 0 := by
  unfold runI
  split <;> rfl
theorem rD {g : D.Grid} {cell n : Nat} {down : Bool} (hd : down = true) (h : bAt g.Cells cell = 46 ∧ ¬ (0 < cell / g.Cols.toNat ∧ bAt g.Cells (Int.toNat (((cell : Nat) : Int) - g.Cols)) = 46)) (hr : runI g cell down n) (hn : ¬ slD g cell n) : ((n : Nat) : Int) = ((fromG g cell down : Nat) : Int) := by
  rw [runI, if_pos hd] at hr
  rw [fromG, if_pos hd, fromD_run h hr hn]
theorem rA {g : D.Grid} {cell n : Nat} {down : Bool} (hd : down = false) (h : bAt g.Cells cell = 46 ∧ ¬ (0 < cell % g.Cols.toNat ∧ bAt g.Cells (Int.toNat (((cell : Nat) : Int) - 1)) = 46)) (hr : runI g cell down n) (hn : ¬ slA g cell n) : ((n : Nat) : Int) = ((fromG g cell down : Nat) : Int) := by
  rw [runI, if_neg (by simp [hd])] at hr
  rw [fromG, if_neg (by simp [hd]), fromA_run h hr hn]
theorem stepD {g : D.Grid} {cell n : Nat} {down : Bool} (hd : down = true) (hr : runI g cell down n) (hn : slD g cell n) (h6 : n < 6) : runI g cell down (n + 1) := by
  rw [runI, if_pos hd] at *
  rw [hr, runN_next hn h6]
theorem stepA {g : D.Grid} {cell n : Nat} {down : Bool} (hd : down = false) (hr : runI g cell down n) (hn : slA g cell n) (h6 : n < 6) : runI g cell down (n + 1) := by
  rw [runI, if_neg (by simp [hd])] at *
  rw [hr, runN_next hn h6]
end
theorem W_spec_l8From (n : Nat) (g : D.Grid) (cell : Nat) (down : Bool) (hg : gridOk g) (hc : cell < g.Cells.size) : Pure (acall Try.prog (n + 1)) 72 [(T.agg (eGrid false g)), (tN cell), (tB down)] (tN (fromG g cell down)) := by
  refine Pure.intro (rs := [ResultVar.tmp 6]) Try.func72 rfl rfl rfl (E0 := [(0, (T.agg (eGrid false g))), (1, (tN cell)), (2, (tB down))]) rfl ?_
  obtain ⟨hlim, hmx, hmax⟩ := lims
  have hsz := hg.size
  have hA := hg.1
  have hB := hg.2.1
  obtain ⟨hC1, hC2, hC3, hC4, hC5⟩ := cell_at hg hc
  have hq0 : 0 ≤ ((cell : Nat) : Int) / ((g.Cols.toNat : Nat) : Int) := Int.ediv_nonneg (by omega) (by omega)
  have hm0 : 0 ≤ ((cell : Nat) : Int) % ((g.Cols.toNat : Nat) : Int) := Int.emod_nonneg _ (by omega)
  refine sr (kO (B.box (ts := (eGrid false g)) (tv (T.agg (eGrid false g)) rfl) nofun rfl) (fO (OF.assign (VEv.int .i64 0)) (nt (sr (fO (OF.assign (VEv.int .i64 1)) (nt (sr (mO (tN cell) rfl (fO (OF.fieldAddrO (tv (T.op 0 0) rfl) fa29_1) (lO (OL.loadO1 (t := (tI g.Cols)) (tv (T.op 0 1) rfl) rfl rfl st3) (fO (B.rem (n := ((cell % g.Cols.toNat : Nat) : Int)) (tv (tN cell) rfl) (tv (tI g.Cols) rfl) (by omega) (by first | (refine remN ?_; omega) | (refine quoN ?_ ?_ <;> omega) | (refine mulWn ?_ ?_ ?_ <;> omega) | rfl | (rw [wrap64 (by omega)]; omega) | (rw [wrap64 (by omega)]; done))) ?_)))))))))))
  refine aO (tN (cell % g.Cols.toNat)) rfl (nt (sr (fO (OF.fieldAddrO (tv (T.op 0 0) rfl) fa29_1) (lO (OL.loadO1 (t := (tI g.Cols)) (tv (T.op 0 1) rfl) rfl rfl st3) (aO (tI g.Cols) rfl (nt (sq (sr (mO (tB down) rfl (nt ?_))))))))))
  refine VRun.cond (tv (tB down) rfl) (fun hc0 => ?_) (fun hc0 => ?_)
  · have fhc0 : down = true := hc0
    refine sr (fO (OF.fieldAddrO (tv (T.op 0 0) rfl) fa29_1) (lO (OL.loadO1 (t := (tI g.Cols)) (tv (T.op 0 1) rfl) rfl rfl st3) (aO (tI g.Cols) rfl (nt (sr (mO (tN cell) rfl (fO (OF.fieldAddrO (tv (T.op 0 0) rfl) fa29_1) (lO (OL.loadO1 (t := (tI g.Cols)) (tv (T.op 0 1) rfl) rfl rfl st3) (fO (B.quo (n := ((cell / g.Cols.toNat : Nat) : Int)) (tv (tN cell) rfl) (tv (tI g.Cols) rfl) (by omega) (by first | (refine remN ?_; omega) | (refine quoN ?_ ?_ <;> omega) | (refine mulWn ?_ ?_ ?_ <;> omega) | rfl | (rw [wrap64 (by omega)]; omega) | (rw [wrap64 (by omega)]; done))) (aO (tN (cell / g.Cols.toNat)) rfl (nt ?_)))))))))))
    refine VRun.region (fO (OF.fieldAddrO (tv (T.op 0 0) rfl) fa29_0) (lO (OL.loadO1 (t := (tI g.Rows)) (tv (T.op 0 0) rfl) rfl rfl st3) (aO (tI g.Rows) rfl (VRunO.nil (tn (sq (sr (fO (OF.fieldAddrO (tv (T.op 0 0) rfl) fa29_2) (lO (OL.loadO1 (t := (tS g.Cells)) (tv (T.op 0 2) rfl) rfl rfl st9) (mO (tN cell) rfl ?_))))))))))
    have hb1 : cell < g.Cells.size := (by first | (refine remN ?_; omega) | (refine quoN ?_ ?_ <;> omega) | (refine mulWn ?_ ?_ ?_ <;> omega) | omega)
    refine fO (B.index (n := (bAt g.Cells cell)) (i := cell) (tv (tS g.Cells) rfl) (tv (tN cell) rfl) rfl hb1 Try.underlying9 (bAt_eq hb1)) (fO (B.neq (c := (!(decide (bAt g.Cells cell = 46)))) (tv (T.int .u8 (bAt g.Cells cell)) rfl) (VEv.int .u8 46) rfl) (mO (tB (!(decide (bAt g.Cells cell = 46)))) rfl ?_))
    refine gn (bAt g.Cells cell = 46) (fun fhg31_2 => ?_) fun fhg31_2 => ?_
    · refine oO rfl rfl (ny fhg31_2) ?_
      refine oO rfl rfl (ny fhg31_2) (oO rfl rfl (ny fhg31_2) (uO rfl rfl (uO rfl rfl (uO rfl rfl (uO rfl rfl (uO rfl rfl (uO rfl rfl (uO rfl rfl (oO rfl rfl (ny fhg31_2) (fO (OF.pickT (VEv.tmpB (b := (!(decide (bAt g.Cells cell = 46)))) rfl (ny fhg31_2)) (VEv.bool true)) (nt ?_)))))))))))
      refine VRun.cond (tv (tB true) rfl) (fun hk3 => ?_) (fun hk3 => ?_)
      · skip
        refine sr (fO (OF.assign (VEv.int .i64 0)) (nt (rt (tr (vi (n' := 0) rfl ?_)))))
        first | (refine zD fhc0 ?_; omega) | (refine zA fhc0 ?_; omega) | (refine rD fhc0 ?_ hI'.2 ?_ <;> first | omega | (unfold slD; omega)) | (refine rA fhc0 ?_ hI'.2 ?_ <;> first | omega | (unfold slA; omega))
      · exact absurd (rfl.symm.trans hk3) (by decide)
    refine gF (nz fhg31_2) rfl rfl (OF.move (tv (tN (cell / g.Cols.toNat)) rfl)) (gF (nz fhg31_2) rfl rfl (B.gtr (c := (decide (0 < cell / g.Cols.toNat))) (tv (tN (cell / g.Cols.toNat)) rfl) (VEv.int .i64 0) (by first | (refine remN ?_; omega) | (refine quoN ?_ ?_ <;> omega) | (refine mulWn ?_ ?_ ?_ <;> omega) | (exact decN (by omega)))) (gF (nz fhg31_2) rfl rfl (OF.move (tv (tB (decide (0 < cell / g.Cols.toNat))) rfl)) ?_))
    refine gw (0 < cell / g.Cols.toNat) (fun fhg34_4 => ?_) fun fhg34_4 => ?_
    · refine gF (dy fhg34_4) rfl rfl (OF.fieldAddrO (tv (T.op 0 0) rfl) fa29_2) ?_
      refine gL (dy fhg34_4) rfl rfl (OL.loadO1 (t := (tS g.Cells)) (tv (T.op 0 2) rfl) rfl rfl st9) (gF (dy fhg34_4) rfl rfl (OF.move (tv (tN cell) rfl)) (gF (dy fhg34_4) rfl rfl (OF.move (tv (tI g.Cols) rfl)) (gF (dy fhg34_4) rfl rfl (B.sub (n := (((cell : Nat) : Int) - g.Cols)) (tv (tN cell) rfl) (tv (tI g.Cols) rfl) (by first | (refine remN ?_; omega) | (refine quoN ?_ ?_ <;> omega) | (refine mulWn ?_ ?_ ?_ <;> omega) | rfl | (rw [wrap64 (by omega)]; omega) | (rw [wrap64 (by omega)]; done))) ?_)))
      have hb5 : (Int.toNat (((cell : Nat) : Int) - g.Cols)) < g.Cells.size := (by first | (refine remN ?_; omega) | (refine quoN ?_ ?_ <;> omega) | (refine mulWn ?_ ?_ ?_ <;> omega) | omega)
      refine gF (dy fhg34_4) rfl rfl (B.index (n := (bAt g.Cells (Int.toNat (((cell : Nat) : Int) - g.Cols)))) (i := (Int.toNat (((cell : Nat) : Int) - g.Cols))) (tv (tS g.Cells) rfl) (tv (tI (((cell : Nat) : Int) - g.Cols)) rfl) (by omega) hb5 Try.underlying9 (bAt_eq hb5)) (gF (dy fhg34_4) rfl rfl (B.eql (c := (decide (bAt g.Cells (Int.toNat (((cell : Nat) : Int) - g.Cols)) = 46))) (tv (T.int .u8 (bAt g.Cells (Int.toNat (((cell : Nat) : Int) - g.Cols)))) rfl) (VEv.int .u8 46) rfl) (gF (nz fhg31_2) rfl rfl (OF.pickT (VEv.tmpB (b := (decide (0 < cell / g.Cols.toNat))) rfl (dy fhg34_4)) (tv (tB (decide (bAt g.Cells (Int.toNat (((cell : Nat) : Int) - g.Cols)) = 46))) rfl)) (fO (OF.pickF (VEv.tmpB (b := (!(decide (bAt g.Cells cell = 46)))) rfl (nz fhg31_2)) (tv (tB (decide (bAt g.Cells (Int.toNat (((cell : Nat) : Int) - g.Cols)) = 46))) rfl)) (nt ?_))))
      refine cd (bAt g.Cells (Int.toNat (((cell : Nat) : Int) - g.Cols)) = 46) rfl (fun fhc1 => ?_) fun fhc1 => ?_
      · refine sr ?_
        refine fO (OF.assign (VEv.int .i64 0)) (nt (rt (tr (vi (n' := 0) rfl ?_))))
        first | (refine zD fhc0 ?_; omega) | (refine zA fhc0 ?_; omega) | (refine rD fhc0 ?_ hI'.2 ?_ <;> first | omega | (unfold slD; omega)) | (refine rA fhc0 ?_ hI'.2 ?_ <;> first | omega | (unfold slA; omega))
      refine sk (tn (sr (fO (OF.assign (VEv.int .i64 0)) (nt (sq (VRun.block ?_))))))
      refine VRun.loop (A := Nat) (fun s_ => [(1, (tN cell)), (3, (T.op 0 0)), (6, (tN 0)), (7, (tI g.Cols)), (8, (tN (cell / g.Cols.toNat))), (9, (tI g.Rows)), (10, (tN s_))]) (fun s_ => mkO [(0, (Obj.cells (eGrid false g)))]) 1 (fun s_ => s_ ≤ 6 ∧ runI g cell down s_) (fun s_ => 6 - s_) (0 : Nat) ?_ (Wk.mk (fun k => k) ?_ ?_ ?_) ?_
      · exact ⟨Nat.zero_le _, runI_zero _ _ _⟩
      · exact (b2 (b2 (b2 (b2 (b2 (b2 (b2 (bn))))))))
      · exact (b3 (bn))
      · show List.Nodup ([0] : List Nat)
        decide
      rintro n (hI' : n ≤ 6 ∧ runI g cell down n)
      show VRun _ _ _ [(1, (tN cell)), (3, (T.op 0 0)), (6, (tN 0)), (7, (tI g.Cols)), (8, (tN (cell / g.Cols.toNat))), (9, (tI g.Rows)), (10, (tN n))] (mkO [(0, (Obj.cells (eGrid false g)))]) 1 _
      have hI1 := hI'.1
      have hN := mulN hI1 hB.1 hB.2
      have hC6 := hC4 n
      have hC7 := hC5 n
      refine sq (sr (mO (tN (cell / g.Cols.toNat)) rfl (mO (tN n) rfl (fO (B.add (n := (((cell / g.Cols.toNat + n) : Nat) : Int)) (tv (tN (cell / g.Cols.toNat)) rfl) (tv (tN n) rfl) (by first | (refine remN ?_; omega) | (refine quoN ?_ ?_ <;> omega) | (refine mulWn ?_ ?_ ?_ <;> omega) | rfl | (rw [wrap64 (by omega)]; omega) | (rw [wrap64 (by omega)]; done))) (mO (tI g.Rows) rfl (fO (B.lss (c := (decide ((((cell / g.Cols.toNat + n) : Nat) : Int) < g.Rows))) (tv (tN (cell / g.Cols.toNat + n)) rfl) (tv (tI g.Rows) rfl) rfl) (mO (tB (decide ((((cell / g.Cols.toNat + n) : Nat) : Int) < g.Rows))) rfl ?_)))))))
      refine gw ((((cell / g.Cols.toNat + n) : Nat) : Int) < g.Rows) (fun fhg49_6 => ?_) fun fhg49_6 => ?_
      · refine gF (dy fhg49_6) rfl rfl (OF.fieldAddrO (tv (T.op 0 0) rfl) fa29_2) ?_
        refine gL (dy fhg49_6) rfl rfl (OL.loadO1 (t := (tS g.Cells)) (tv (T.op 0 2) rfl) rfl rfl st9) (gF (dy fhg49_6) rfl rfl (OF.move (tv (tN cell) rfl)) (gF (dy fhg49_6) rfl rfl (OF.move (tv (tN n) rfl)) (gF (dy fhg49_6) rfl rfl (OF.move (tv (tI g.Cols) rfl)) (gF (dy fhg49_6) rfl rfl (B.mul (n := (((n : Nat) : Int) * g.Cols)) (tv (tN n) rfl) (tv (tI g.Cols) rfl) (by first | (refine remN ?_; omega) | (refine quoN ?_ ?_ <;> omega) | (refine mulWn ?_ ?_ ?_ <;> omega) | rfl | (rw [wrap64 (by omega)]; omega) | (rw [wrap64 (by omega)]; done))) (gF (dy fhg49_6) rfl rfl (B.add (n := (((cell : Nat) : Int) + (((n : Nat) : Int) * g.Cols))) (tv (tN cell) rfl) (tv (tI (((n : Nat) : Int) * g.Cols)) rfl) (by first | (refine remN ?_; omega) | (refine quoN ?_ ?_ <;> omega) | (refine mulWn ?_ ?_ ?_ <;> omega) | rfl | (rw [wrap64 (by omega)]; omega) | (rw [wrap64 (by omega)]; done))) ?_)))))
        have hb7 : (Int.toNat (((cell : Nat) : Int) + (((n : Nat) : Int) * g.Cols))) < g.Cells.size := (by first | (refine remN ?_; omega) | (refine quoN ?_ ?_ <;> omega) | (refine mulWn ?_ ?_ ?_ <;> omega) | omega)
        refine gF (dy fhg49_6) rfl rfl (B.index (n := (bAt g.Cells (Int.toNat (((cell : Nat) : Int) + (((n : Nat) : Int) * g.Cols))))) (i := (Int.toNat (((cell : Nat) : Int) + (((n : Nat) : Int) * g.Cols)))) (tv (tS g.Cells) rfl) (tv (tI (((cell : Nat) : Int) + (((n : Nat) : Int) * g.Cols))) rfl) (by omega) hb7 Try.underlying9 (bAt_eq hb7)) (gF (dy fhg49_6) rfl rfl (B.eql (c := (decide (bAt g.Cells (Int.toNat (((cell : Nat) : Int) + (((n : Nat) : Int) * g.Cols))) = 46))) (tv (T.int .u8 (bAt g.Cells (Int.toNat (((cell : Nat) : Int) + (((n : Nat) : Int) * g.Cols))))) rfl) (VEv.int .u8 46) rfl) (fO (OF.pickT (VEv.tmpB (b := (decide ((((cell / g.Cols.toNat + n) : Nat) : Int) < g.Rows))) rfl (dy fhg49_6)) (tv (tB (decide (bAt g.Cells (Int.toNat (((cell : Nat) : Int) + (((n : Nat) : Int) * g.Cols))) = 46))) rfl)) (nt ?_)))
        refine cd (bAt g.Cells (Int.toNat (((cell : Nat) : Int) + (((n : Nat) : Int) * g.Cols))) = 46) rfl (fun fhc2 => ?_) fun fhc2 => ?_
        · refine sk ?_
          refine tn (VRun.block (VRun.region (mO (tN n) rfl (fO (B.add (n := (((n + 1) : Nat) : Int)) (tv (tN n) rfl) (VEv.int .i64 1) (by first | (refine remN ?_; omega) | (refine quoN ?_ ?_ <;> omega) | (refine mulWn ?_ ?_ ?_ <;> omega) | rfl | (rw [wrap64 (by omega)]; omega) | (rw [wrap64 (by omega)]; done))) (aO (tN (n + 1)) rfl (VRunO.nil (vinB.n (tn ?_))))))))
          refine ⟨(n + 1 : Nat), ?_, ?_, Wk.mk (fun k => k) ?_ ?_ ?_⟩
          · first | (refine ⟨?_, stepD fhc0 hI'.2 ?_ ?_⟩ <;> first | omega | (unfold slD; omega)) | (refine ⟨?_, stepA fhc0 hI'.2 ?_ ?_⟩ <;> first | omega | (unfold slA; omega))
          · first | omega | (simp only []; omega) | (show _ < _; omega) | (simp; omega)
          · exact (b2 (b2 (b2 (b2 (b2 (b2 (b2 (bn))))))))
          · exact (b3 (bn))
          · show List.Nodup ([0] : List Nat)
            decide
        refine VRun.exit (vthn.e (vthn.e (vinB.e (tn (sr (mO (tN n) rfl (aO (tN n) rfl (nt (rt (vi (n' := ((n : Nat) : Int)) rfl ?_))))))))))
        first | (refine zD fhc0 ?_; omega) | (refine zA fhc0 ?_; omega) | (refine rD fhc0 ?_ hI'.2 ?_ <;> first | omega | (unfold slD; omega)) | (refine rA fhc0 ?_ hI'.2 ?_ <;> first | omega | (unfold slA; omega))
      refine oO rfl rfl (dz fhg49_6) (oO rfl rfl (dz fhg49_6) (oO rfl rfl (dz fhg49_6) (oO rfl rfl (dz fhg49_6) (oO rfl rfl (dz fhg49_6) (oO rfl rfl (dz fhg49_6) (oO rfl rfl (dz fhg49_6) (oO rfl rfl (dz fhg49_6) (oO rfl rfl (dz fhg49_6) (fO (OF.pickF (VEv.tmpB (b := (decide ((((cell / g.Cols.toNat + n) : Nat) : Int) < g.Rows))) rfl (dz fhg49_6)) (VEv.bool false)) (nt ?_))))))))))
      refine VRun.cond (tv (tB false) rfl) (fun hk8 => ?_) (fun hk8 => ?_)
      · exact absurd (rfl.symm.trans hk8) (by decide)
      · skip
        refine VRun.exit (vthn.e (vthn.e (vinB.e (tn (sr (mO (tN n) rfl (aO (tN n) rfl (nt (rt (vi (n' := ((n : Nat) : Int)) rfl ?_))))))))))
        first | (refine zD fhc0 ?_; omega) | (refine zA fhc0 ?_; omega) | (refine rD fhc0 ?_ hI'.2 ?_ <;> first | omega | (unfold slD; omega)) | (refine rA fhc0 ?_ hI'.2 ?_ <;> first | omega | (unfold slA; omega))
    refine oO rfl rfl (dz fhg34_4) (oO rfl rfl (dz fhg34_4) (oO rfl rfl (dz fhg34_4) (oO rfl rfl (dz fhg34_4) (oO rfl rfl (dz fhg34_4) (oO rfl rfl (dz fhg34_4) (oO rfl rfl (dz fhg34_4) (gF (nz fhg31_2) rfl rfl (OF.pickF (VEv.tmpB (b := (decide (0 < cell / g.Cols.toNat))) rfl (dz fhg34_4)) (VEv.bool false)) (fO (OF.pickF (VEv.tmpB (b := (!(decide (bAt g.Cells cell = 46)))) rfl (nz fhg31_2)) (tv (tB false) rfl)) (nt ?_)))))))))
    refine VRun.cond (tv (tB false) rfl) (fun hk9 => ?_) (fun hk9 => ?_)
    · exact absurd (rfl.symm.trans hk9) (by decide)
    · skip
      refine sk (tn (sr (fO (OF.assign (VEv.int .i64 0)) (nt (sq (VRun.block ?_))))))
      refine VRun.loop (A := Nat) (fun s_ => [(1, (tN cell)), (3, (T.op 0 0)), (6, (tN 0)), (7, (tI g.Cols)), (8, (tN (cell / g.Cols.toNat))), (9, (tI g.Rows)), (10, (tN s_))]) (fun s_ => mkO [(0, (Obj.cells (eGrid false g)))]) 1 (fun s_ => s_ ≤ 6 ∧ runI g cell down s_) (fun s_ => 6 - s_) (0 : Nat) ?_ (Wk.mk (fun k => k) ?_ ?_ ?_) ?_
      · exact ⟨Nat.zero_le _, runI_zero _ _ _⟩
      · exact (b2 (b2 (b2 (b2 (b2 (b2 (b2 (bn))))))))
      · exact (b3 (bn))
      · show List.Nodup ([0] : List Nat)
        decide
      rintro n (hI' : n ≤ 6 ∧ runI g cell down n)
      show VRun _ _ _ [(1, (tN cell)), (3, (T.op 0 0)), (6, (tN 0)), (7, (tI g.Cols)), (8, (tN (cell / g.Cols.toNat))), (9, (tI g.Rows)), (10, (tN n))] (mkO [(0, (Obj.cells (eGrid false g)))]) 1 _
      have hI1 := hI'.1
      have hN := mulN hI1 hB.1 hB.2
      have hC6 := hC4 n
      have hC7 := hC5 n
      refine sq (sr (mO (tN (cell / g.Cols.toNat)) rfl (mO (tN n) rfl (fO (B.add (n := (((cell / g.Cols.toNat + n) : Nat) : Int)) (tv (tN (cell / g.Cols.toNat)) rfl) (tv (tN n) rfl) (by first | (refine remN ?_; omega) | (refine quoN ?_ ?_ <;> omega) | (refine mulWn ?_ ?_ ?_ <;> omega) | rfl | (rw [wrap64 (by omega)]; omega) | (rw [wrap64 (by omega)]; done))) (mO (tI g.Rows) rfl (fO (B.lss (c := (decide ((((cell / g.Cols.toNat + n) : Nat) : Int) < g.Rows))) (tv (tN (cell / g.Cols.toNat + n)) rfl) (tv (tI g.Rows) rfl) rfl) (mO (tB (decide ((((cell / g.Cols.toNat + n) : Nat) : Int) < g.Rows))) rfl ?_)))))))
      refine gw ((((cell / g.Cols.toNat + n) : Nat) : Int) < g.Rows) (fun fhg49_10 => ?_) fun fhg49_10 => ?_
      · refine gF (dy fhg49_10) rfl rfl (OF.fieldAddrO (tv (T.op 0 0) rfl) fa29_2) ?_
        refine gL (dy fhg49_10) rfl rfl (OL.loadO1 (t := (tS g.Cells)) (tv (T.op 0 2) rfl) rfl rfl st9) (gF (dy fhg49_10) rfl rfl (OF.move (tv (tN cell) rfl)) (gF (dy fhg49_10) rfl rfl (OF.move (tv (tN n) rfl)) (gF (dy fhg49_10) rfl rfl (OF.move (tv (tI g.Cols) rfl)) (gF (dy fhg49_10) rfl rfl (B.mul (n := (((n : Nat) : Int) * g.Cols)) (tv (tN n) rfl) (tv (tI g.Cols) rfl) (by first | (refine remN ?_; omega) | (refine quoN ?_ ?_ <;> omega) | (refine mulWn ?_ ?_ ?_ <;> omega) | rfl | (rw [wrap64 (by omega)]; omega) | (rw [wrap64 (by omega)]; done))) (gF (dy fhg49_10) rfl rfl (B.add (n := (((cell : Nat) : Int) + (((n : Nat) : Int) * g.Cols))) (tv (tN cell) rfl) (tv (tI (((n : Nat) : Int) * g.Cols)) rfl) (by first | (refine remN ?_; omega) | (refine quoN ?_ ?_ <;> omega) | (refine mulWn ?_ ?_ ?_ <;> omega) | rfl | (rw [wrap64 (by omega)]; omega) | (rw [wrap64 (by omega)]; done))) ?_)))))
        have hb11 : (Int.toNat (((cell : Nat) : Int) + (((n : Nat) : Int) * g.Cols))) < g.Cells.size := (by first | (refine remN ?_; omega) | (refine quoN ?_ ?_ <;> omega) | (refine mulWn ?_ ?_ ?_ <;> omega) | omega)
        refine gF (dy fhg49_10) rfl rfl (B.index (n := (bAt g.Cells (Int.toNat (((cell : Nat) : Int) + (((n : Nat) : Int) * g.Cols))))) (i := (Int.toNat (((cell : Nat) : Int) + (((n : Nat) : Int) * g.Cols)))) (tv (tS g.Cells) rfl) (tv (tI (((cell : Nat) : Int) + (((n : Nat) : Int) * g.Cols))) rfl) (by omega) hb11 Try.underlying9 (bAt_eq hb11)) (gF (dy fhg49_10) rfl rfl (B.eql (c := (decide (bAt g.Cells (Int.toNat (((cell : Nat) : Int) + (((n : Nat) : Int) * g.Cols))) = 46))) (tv (T.int .u8 (bAt g.Cells (Int.toNat (((cell : Nat) : Int) + (((n : Nat) : Int) * g.Cols))))) rfl) (VEv.int .u8 46) rfl) (fO (OF.pickT (VEv.tmpB (b := (decide ((((cell / g.Cols.toNat + n) : Nat) : Int) < g.Rows))) rfl (dy fhg49_10)) (tv (tB (decide (bAt g.Cells (Int.toNat (((cell : Nat) : Int) + (((n : Nat) : Int) * g.Cols))) = 46))) rfl)) (nt ?_)))
        refine cd (bAt g.Cells (Int.toNat (((cell : Nat) : Int) + (((n : Nat) : Int) * g.Cols))) = 46) rfl (fun fhc2 => ?_) fun fhc2 => ?_
        · refine sk ?_
          refine tn (VRun.block (VRun.region (mO (tN n) rfl (fO (B.add (n := (((n + 1) : Nat) : Int)) (tv (tN n) rfl) (VEv.int .i64 1) (by first | (refine remN ?_; omega) | (refine quoN ?_ ?_ <;> omega) | (refine mulWn ?_ ?_ ?_ <;> omega) | rfl | (rw [wrap64 (by omega)]; omega) | (rw [wrap64 (by omega)]; done))) (aO (tN (n + 1)) rfl (VRunO.nil (vinB.n (tn ?_))))))))
          refine ⟨(n + 1 : Nat), ?_, ?_, Wk.mk (fun k => k) ?_ ?_ ?_⟩
          · first | (refine ⟨?_, stepD fhc0 hI'.2 ?_ ?_⟩ <;> first | omega | (unfold slD; omega)) | (refine ⟨?_, stepA fhc0 hI'.2 ?_ ?_⟩ <;> first | omega | (unfold slA; omega))
          · first | omega | (simp only []; omega) | (show _ < _; omega) | (simp; omega)
          · exact (b2 (b2 (b2 (b2 (b2 (b2 (b2 (bn))))))))
          · exact (b3 (bn))
          · show List.Nodup ([0] : List Nat)
            decide
        refine VRun.exit (vthn.e (vthn.e (vinB.e (tn (sr (mO (tN n) rfl (aO (tN n) rfl (nt (rt (vi (n' := ((n : Nat) : Int)) rfl ?_))))))))))
        first | (refine zD fhc0 ?_; omega) | (refine zA fhc0 ?_; omega) | (refine rD fhc0 ?_ hI'.2 ?_ <;> first | omega | (unfold slD; omega)) | (refine rA fhc0 ?_ hI'.2 ?_ <;> first | omega | (unfold slA; omega))
      refine oO rfl rfl (dz fhg49_10) (oO rfl rfl (dz fhg49_10) (oO rfl rfl (dz fhg49_10) (oO rfl rfl (dz fhg49_10) (oO rfl rfl (dz fhg49_10) (oO rfl rfl (dz fhg49_10) (oO rfl rfl (dz fhg49_10) (oO rfl rfl (dz fhg49_10) (oO rfl rfl (dz fhg49_10) (fO (OF.pickF (VEv.tmpB (b := (decide ((((cell / g.Cols.toNat + n) : Nat) : Int) < g.Rows))) rfl (dz fhg49_10)) (VEv.bool false)) (nt ?_))))))))))
      refine VRun.cond (tv (tB false) rfl) (fun hk12 => ?_) (fun hk12 => ?_)
      · exact absurd (rfl.symm.trans hk12) (by decide)
      · skip
        refine VRun.exit (vthn.e (vthn.e (vinB.e (tn (sr (mO (tN n) rfl (aO (tN n) rfl (nt (rt (vi (n' := ((n : Nat) : Int)) rfl ?_))))))))))
        first | (refine zD fhc0 ?_; omega) | (refine zA fhc0 ?_; omega) | (refine rD fhc0 ?_ hI'.2 ?_ <;> first | omega | (unfold slD; omega)) | (refine rA fhc0 ?_ hI'.2 ?_ <;> first | omega | (unfold slA; omega))
  have fhc0 : down = false := hc0
  refine sk (tn (sq (sr (fO (OF.fieldAddrO (tv (T.op 0 0) rfl) fa29_2) (lO (OL.loadO1 (t := (tS g.Cells)) (tv (T.op 0 2) rfl) rfl rfl st9) (mO (tN cell) rfl ?_))))))
  have hb13 : cell < g.Cells.size := (by first | (refine remN ?_; omega) | (refine quoN ?_ ?_ <;> omega) | (refine mulWn ?_ ?_ ?_ <;> omega) | omega)
  refine fO (B.index (n := (bAt g.Cells cell)) (i := cell) (tv (tS g.Cells) rfl) (tv (tN cell) rfl) rfl hb13 Try.underlying9 (bAt_eq hb13)) (fO (B.neq (c := (!(decide (bAt g.Cells cell = 46)))) (tv (T.int .u8 (bAt g.Cells cell)) rfl) (VEv.int .u8 46) rfl) (mO (tB (!(decide (bAt g.Cells cell = 46)))) rfl ?_))
  refine gn (bAt g.Cells cell = 46) (fun fhg31_14 => ?_) fun fhg31_14 => ?_
  · refine oO rfl rfl (ny fhg31_14) ?_
    refine oO rfl rfl (ny fhg31_14) (oO rfl rfl (ny fhg31_14) (uO rfl rfl (uO rfl rfl (uO rfl rfl (uO rfl rfl (uO rfl rfl (uO rfl rfl (uO rfl rfl (oO rfl rfl (ny fhg31_14) (fO (OF.pickT (VEv.tmpB (b := (!(decide (bAt g.Cells cell = 46)))) rfl (ny fhg31_14)) (VEv.bool true)) (nt ?_)))))))))))
    refine VRun.cond (tv (tB true) rfl) (fun hk15 => ?_) (fun hk15 => ?_)
    · skip
      refine sr (fO (OF.assign (VEv.int .i64 0)) (nt (rt (tr (vi (n' := 0) rfl ?_)))))
      first | (refine zD fhc0 ?_; omega) | (refine zA fhc0 ?_; omega) | (refine rD fhc0 ?_ hI'.2 ?_ <;> first | omega | (unfold slD; omega)) | (refine rA fhc0 ?_ hI'.2 ?_ <;> first | omega | (unfold slA; omega))
    · exact absurd (rfl.symm.trans hk15) (by decide)
  refine gF (nz fhg31_14) rfl rfl (OF.move (tv (tN (cell % g.Cols.toNat)) rfl)) (gF (nz fhg31_14) rfl rfl (B.gtr (c := (decide (0 < cell % g.Cols.toNat))) (tv (tN (cell % g.Cols.toNat)) rfl) (VEv.int .i64 0) (by first | (refine remN ?_; omega) | (refine quoN ?_ ?_ <;> omega) | (refine mulWn ?_ ?_ ?_ <;> omega) | (exact decN (by omega)))) (gF (nz fhg31_14) rfl rfl (OF.move (tv (tB (decide (0 < cell % g.Cols.toNat))) rfl)) ?_))
  refine gw (0 < cell % g.Cols.toNat) (fun fhg34_16 => ?_) fun fhg34_16 => ?_
  · refine gF (dy fhg34_16) rfl rfl (OF.fieldAddrO (tv (T.op 0 0) rfl) fa29_2) ?_
    refine gL (dy fhg34_16) rfl rfl (OL.loadO1 (t := (tS g.Cells)) (tv (T.op 0 2) rfl) rfl rfl st9) (gF (dy fhg34_16) rfl rfl (OF.move (tv (tN cell) rfl)) (gF (dy fhg34_16) rfl rfl (OF.move (tv (tN 1) rfl)) (gF (dy fhg34_16) rfl rfl (B.sub (n := (((cell : Nat) : Int) - 1)) (tv (tN cell) rfl) (tv (tN 1) rfl) (by first | (refine remN ?_; omega) | (refine quoN ?_ ?_ <;> omega) | (refine mulWn ?_ ?_ ?_ <;> omega) | rfl | (rw [wrap64 (by omega)]; omega) | (rw [wrap64 (by omega)]; done))) ?_)))
    have hb17 : (Int.toNat (((cell : Nat) : Int) - 1)) < g.Cells.size := (by first | (refine remN ?_; omega) | (refine quoN ?_ ?_ <;> omega) | (refine mulWn ?_ ?_ ?_ <;> omega) | omega)
    refine gF (dy fhg34_16) rfl rfl (B.index (n := (bAt g.Cells (Int.toNat (((cell : Nat) : Int) - 1)))) (i := (Int.toNat (((cell : Nat) : Int) - 1))) (tv (tS g.Cells) rfl) (tv (tI (((cell : Nat) : Int) - 1)) rfl) (by omega) hb17 Try.underlying9 (bAt_eq hb17)) (gF (dy fhg34_16) rfl rfl (B.eql (c := (decide (bAt g.Cells (Int.toNat (((cell : Nat) : Int) - 1)) = 46))) (tv (T.int .u8 (bAt g.Cells (Int.toNat (((cell : Nat) : Int) - 1)))) rfl) (VEv.int .u8 46) rfl) (gF (nz fhg31_14) rfl rfl (OF.pickT (VEv.tmpB (b := (decide (0 < cell % g.Cols.toNat))) rfl (dy fhg34_16)) (tv (tB (decide (bAt g.Cells (Int.toNat (((cell : Nat) : Int) - 1)) = 46))) rfl)) (fO (OF.pickF (VEv.tmpB (b := (!(decide (bAt g.Cells cell = 46)))) rfl (nz fhg31_14)) (tv (tB (decide (bAt g.Cells (Int.toNat (((cell : Nat) : Int) - 1)) = 46))) rfl)) (nt ?_))))
    refine cd (bAt g.Cells (Int.toNat (((cell : Nat) : Int) - 1)) = 46) rfl (fun fhc1 => ?_) fun fhc1 => ?_
    · refine sr ?_
      refine fO (OF.assign (VEv.int .i64 0)) (nt (rt (tr (vi (n' := 0) rfl ?_))))
      first | (refine zD fhc0 ?_; omega) | (refine zA fhc0 ?_; omega) | (refine rD fhc0 ?_ hI'.2 ?_ <;> first | omega | (unfold slD; omega)) | (refine rA fhc0 ?_ hI'.2 ?_ <;> first | omega | (unfold slA; omega))
    refine sk (tn (sr (fO (OF.assign (VEv.int .i64 0)) (nt (sq (VRun.block ?_))))))
    refine VRun.loop (A := Nat) (fun s_ => [(1, (tN cell)), (3, (T.op 0 0)), (6, (tN 0)), (7, (tN 1)), (8, (tN (cell % g.Cols.toNat))), (9, (tI g.Cols)), (10, (tN s_))]) (fun s_ => mkO [(0, (Obj.cells (eGrid false g)))]) 1 (fun s_ => s_ ≤ 6 ∧ runI g cell down s_) (fun s_ => 6 - s_) (0 : Nat) ?_ (Wk.mk (fun k => k) ?_ ?_ ?_) ?_
    · exact ⟨Nat.zero_le _, runI_zero _ _ _⟩
    · exact (b2 (b2 (b2 (b2 (b2 (b2 (b2 (bn))))))))
    · exact (b3 (bn))
    · show List.Nodup ([0] : List Nat)
      decide
    rintro n (hI' : n ≤ 6 ∧ runI g cell down n)
    show VRun _ _ _ [(1, (tN cell)), (3, (T.op 0 0)), (6, (tN 0)), (7, (tN 1)), (8, (tN (cell % g.Cols.toNat))), (9, (tI g.Cols)), (10, (tN n))] (mkO [(0, (Obj.cells (eGrid false g)))]) 1 _
    have hI1 := hI'.1
    have hN := mulN hI1 hB.1 hB.2
    have hC6 := hC4 n
    have hC7 := hC5 n
    refine sq (sr (mO (tN (cell % g.Cols.toNat)) rfl (mO (tN n) rfl (fO (B.add (n := (((cell % g.Cols.toNat + n) : Nat) : Int)) (tv (tN (cell % g.Cols.toNat)) rfl) (tv (tN n) rfl) (by first | (refine remN ?_; omega) | (refine quoN ?_ ?_ <;> omega) | (refine mulWn ?_ ?_ ?_ <;> omega) | rfl | (rw [wrap64 (by omega)]; omega) | (rw [wrap64 (by omega)]; done))) (mO (tI g.Cols) rfl (fO (B.lss (c := (decide ((((cell % g.Cols.toNat + n) : Nat) : Int) < g.Cols))) (tv (tN (cell % g.Cols.toNat + n)) rfl) (tv (tI g.Cols) rfl) rfl) (mO (tB (decide ((((cell % g.Cols.toNat + n) : Nat) : Int) < g.Cols))) rfl ?_)))))))
    refine gw ((((cell % g.Cols.toNat + n) : Nat) : Int) < g.Cols) (fun fhg49_18 => ?_) fun fhg49_18 => ?_
    · refine gF (dy fhg49_18) rfl rfl (OF.fieldAddrO (tv (T.op 0 0) rfl) fa29_2) ?_
      refine gL (dy fhg49_18) rfl rfl (OL.loadO1 (t := (tS g.Cells)) (tv (T.op 0 2) rfl) rfl rfl st9) (gF (dy fhg49_18) rfl rfl (OF.move (tv (tN cell) rfl)) (gF (dy fhg49_18) rfl rfl (OF.move (tv (tN n) rfl)) (gF (dy fhg49_18) rfl rfl (OF.move (tv (tN 1) rfl)) (gF (dy fhg49_18) rfl rfl (B.mul (n := (((n * 1) : Nat) : Int)) (tv (tN n) rfl) (tv (tN 1) rfl) (by first | (refine remN ?_; omega) | (refine quoN ?_ ?_ <;> omega) | (refine mulWn ?_ ?_ ?_ <;> omega) | rfl | (rw [wrap64 (by omega)]; omega) | (rw [wrap64 (by omega)]; done))) (gF (dy fhg49_18) rfl rfl (B.add (n := (((cell + (n * 1)) : Nat) : Int)) (tv (tN cell) rfl) (tv (tN (n * 1)) rfl) (by first | (refine remN ?_; omega) | (refine quoN ?_ ?_ <;> omega) | (refine mulWn ?_ ?_ ?_ <;> omega) | rfl | (rw [wrap64 (by omega)]; omega) | (rw [wrap64 (by omega)]; done))) ?_)))))
      have hb19 : (cell + (n * 1)) < g.Cells.size := (by first | (refine remN ?_; omega) | (refine quoN ?_ ?_ <;> omega) | (refine mulWn ?_ ?_ ?_ <;> omega) | omega)
      refine gF (dy fhg49_18) rfl rfl (B.index (n := (bAt g.Cells (cell + (n * 1)))) (i := (cell + (n * 1))) (tv (tS g.Cells) rfl) (tv (tN (cell + (n * 1))) rfl) rfl hb19 Try.underlying9 (bAt_eq hb19)) (gF (dy fhg49_18) rfl rfl (B.eql (c := (decide (bAt g.Cells (cell + (n * 1)) = 46))) (tv (T.int .u8 (bAt g.Cells (cell + (n * 1)))) rfl) (VEv.int .u8 46) rfl) (fO (OF.pickT (VEv.tmpB (b := (decide ((((cell % g.Cols.toNat + n) : Nat) : Int) < g.Cols))) rfl (dy fhg49_18)) (tv (tB (decide (bAt g.Cells (cell + (n * 1)) = 46))) rfl)) (nt ?_)))
      refine cd (bAt g.Cells (cell + (n * 1)) = 46) rfl (fun fhc2 => ?_) fun fhc2 => ?_
      · refine sk ?_
        refine tn (VRun.block (VRun.region (mO (tN n) rfl (fO (B.add (n := (((n + 1) : Nat) : Int)) (tv (tN n) rfl) (VEv.int .i64 1) (by first | (refine remN ?_; omega) | (refine quoN ?_ ?_ <;> omega) | (refine mulWn ?_ ?_ ?_ <;> omega) | rfl | (rw [wrap64 (by omega)]; omega) | (rw [wrap64 (by omega)]; done))) (aO (tN (n + 1)) rfl (VRunO.nil (vinB.n (tn ?_))))))))
        refine ⟨(n + 1 : Nat), ?_, ?_, Wk.mk (fun k => k) ?_ ?_ ?_⟩
        · first | (refine ⟨?_, stepD fhc0 hI'.2 ?_ ?_⟩ <;> first | omega | (unfold slD; omega)) | (refine ⟨?_, stepA fhc0 hI'.2 ?_ ?_⟩ <;> first | omega | (unfold slA; omega))
        · first | omega | (simp only []; omega) | (show _ < _; omega) | (simp; omega)
        · exact (b2 (b2 (b2 (b2 (b2 (b2 (b2 (bn))))))))
        · exact (b3 (bn))
        · show List.Nodup ([0] : List Nat)
          decide
      refine VRun.exit (vthn.e (vthn.e (vinB.e (tn (sr (mO (tN n) rfl (aO (tN n) rfl (nt (rt (vi (n' := ((n : Nat) : Int)) rfl ?_))))))))))
      first | (refine zD fhc0 ?_; omega) | (refine zA fhc0 ?_; omega) | (refine rD fhc0 ?_ hI'.2 ?_ <;> first | omega | (unfold slD; omega)) | (refine rA fhc0 ?_ hI'.2 ?_ <;> first | omega | (unfold slA; omega))
    refine oO rfl rfl (dz fhg49_18) (oO rfl rfl (dz fhg49_18) (oO rfl rfl (dz fhg49_18) (oO rfl rfl (dz fhg49_18) (oO rfl rfl (dz fhg49_18) (oO rfl rfl (dz fhg49_18) (oO rfl rfl (dz fhg49_18) (oO rfl rfl (dz fhg49_18) (oO rfl rfl (dz fhg49_18) (fO (OF.pickF (VEv.tmpB (b := (decide ((((cell % g.Cols.toNat + n) : Nat) : Int) < g.Cols))) rfl (dz fhg49_18)) (VEv.bool false)) (nt ?_))))))))))
    refine VRun.cond (tv (tB false) rfl) (fun hk20 => ?_) (fun hk20 => ?_)
    · exact absurd (rfl.symm.trans hk20) (by decide)
    · skip
      refine VRun.exit (vthn.e (vthn.e (vinB.e (tn (sr (mO (tN n) rfl (aO (tN n) rfl (nt (rt (vi (n' := ((n : Nat) : Int)) rfl ?_))))))))))
      first | (refine zD fhc0 ?_; omega) | (refine zA fhc0 ?_; omega) | (refine rD fhc0 ?_ hI'.2 ?_ <;> first | omega | (unfold slD; omega)) | (refine rA fhc0 ?_ hI'.2 ?_ <;> first | omega | (unfold slA; omega))
  refine oO rfl rfl (dz fhg34_16) (oO rfl rfl (dz fhg34_16) (oO rfl rfl (dz fhg34_16) (oO rfl rfl (dz fhg34_16) (oO rfl rfl (dz fhg34_16) (oO rfl rfl (dz fhg34_16) (oO rfl rfl (dz fhg34_16) (gF (nz fhg31_14) rfl rfl (OF.pickF (VEv.tmpB (b := (decide (0 < cell % g.Cols.toNat))) rfl (dz fhg34_16)) (VEv.bool false)) (fO (OF.pickF (VEv.tmpB (b := (!(decide (bAt g.Cells cell = 46)))) rfl (nz fhg31_14)) (tv (tB false) rfl)) (nt ?_)))))))))
  refine VRun.cond (tv (tB false) rfl) (fun hk21 => ?_) (fun hk21 => ?_)
  · exact absurd (rfl.symm.trans hk21) (by decide)
  · skip
    refine sk (tn (sr (fO (OF.assign (VEv.int .i64 0)) (nt (sq (VRun.block ?_))))))
    refine VRun.loop (A := Nat) (fun s_ => [(1, (tN cell)), (3, (T.op 0 0)), (6, (tN 0)), (7, (tN 1)), (8, (tN (cell % g.Cols.toNat))), (9, (tI g.Cols)), (10, (tN s_))]) (fun s_ => mkO [(0, (Obj.cells (eGrid false g)))]) 1 (fun s_ => s_ ≤ 6 ∧ runI g cell down s_) (fun s_ => 6 - s_) (0 : Nat) ?_ (Wk.mk (fun k => k) ?_ ?_ ?_) ?_
    · exact ⟨Nat.zero_le _, runI_zero _ _ _⟩
    · exact (b2 (b2 (b2 (b2 (b2 (b2 (b2 (bn))))))))
    · exact (b3 (bn))
    · show List.Nodup ([0] : List Nat)
      decide
    rintro n (hI' : n ≤ 6 ∧ runI g cell down n)
    show VRun _ _ _ [(1, (tN cell)), (3, (T.op 0 0)), (6, (tN 0)), (7, (tN 1)), (8, (tN (cell % g.Cols.toNat))), (9, (tI g.Cols)), (10, (tN n))] (mkO [(0, (Obj.cells (eGrid false g)))]) 1 _
    have hI1 := hI'.1
    have hN := mulN hI1 hB.1 hB.2
    have hC6 := hC4 n
    have hC7 := hC5 n
    refine sq (sr (mO (tN (cell % g.Cols.toNat)) rfl (mO (tN n) rfl (fO (B.add (n := (((cell % g.Cols.toNat + n) : Nat) : Int)) (tv (tN (cell % g.Cols.toNat)) rfl) (tv (tN n) rfl) (by first | (refine remN ?_; omega) | (refine quoN ?_ ?_ <;> omega) | (refine mulWn ?_ ?_ ?_ <;> omega) | rfl | (rw [wrap64 (by omega)]; omega) | (rw [wrap64 (by omega)]; done))) (mO (tI g.Cols) rfl (fO (B.lss (c := (decide ((((cell % g.Cols.toNat + n) : Nat) : Int) < g.Cols))) (tv (tN (cell % g.Cols.toNat + n)) rfl) (tv (tI g.Cols) rfl) rfl) (mO (tB (decide ((((cell % g.Cols.toNat + n) : Nat) : Int) < g.Cols))) rfl ?_)))))))
    refine gw ((((cell % g.Cols.toNat + n) : Nat) : Int) < g.Cols) (fun fhg49_22 => ?_) fun fhg49_22 => ?_
    · refine gF (dy fhg49_22) rfl rfl (OF.fieldAddrO (tv (T.op 0 0) rfl) fa29_2) ?_
      refine gL (dy fhg49_22) rfl rfl (OL.loadO1 (t := (tS g.Cells)) (tv (T.op 0 2) rfl) rfl rfl st9) (gF (dy fhg49_22) rfl rfl (OF.move (tv (tN cell) rfl)) (gF (dy fhg49_22) rfl rfl (OF.move (tv (tN n) rfl)) (gF (dy fhg49_22) rfl rfl (OF.move (tv (tN 1) rfl)) (gF (dy fhg49_22) rfl rfl (B.mul (n := (((n * 1) : Nat) : Int)) (tv (tN n) rfl) (tv (tN 1) rfl) (by first | (refine remN ?_; omega) | (refine quoN ?_ ?_ <;> omega) | (refine mulWn ?_ ?_ ?_ <;> omega) | rfl | (rw [wrap64 (by omega)]; omega) | (rw [wrap64 (by omega)]; done))) (gF (dy fhg49_22) rfl rfl (B.add (n := (((cell + (n * 1)) : Nat) : Int)) (tv (tN cell) rfl) (tv (tN (n * 1)) rfl) (by first | (refine remN ?_; omega) | (refine quoN ?_ ?_ <;> omega) | (refine mulWn ?_ ?_ ?_ <;> omega) | rfl | (rw [wrap64 (by omega)]; omega) | (rw [wrap64 (by omega)]; done))) ?_)))))
      have hb23 : (cell + (n * 1)) < g.Cells.size := (by first | (refine remN ?_; omega) | (refine quoN ?_ ?_ <;> omega) | (refine mulWn ?_ ?_ ?_ <;> omega) | omega)
      refine gF (dy fhg49_22) rfl rfl (B.index (n := (bAt g.Cells (cell + (n * 1)))) (i := (cell + (n * 1))) (tv (tS g.Cells) rfl) (tv (tN (cell + (n * 1))) rfl) rfl hb23 Try.underlying9 (bAt_eq hb23)) (gF (dy fhg49_22) rfl rfl (B.eql (c := (decide (bAt g.Cells (cell + (n * 1)) = 46))) (tv (T.int .u8 (bAt g.Cells (cell + (n * 1)))) rfl) (VEv.int .u8 46) rfl) (fO (OF.pickT (VEv.tmpB (b := (decide ((((cell % g.Cols.toNat + n) : Nat) : Int) < g.Cols))) rfl (dy fhg49_22)) (tv (tB (decide (bAt g.Cells (cell + (n * 1)) = 46))) rfl)) (nt ?_)))
      refine cd (bAt g.Cells (cell + (n * 1)) = 46) rfl (fun fhc2 => ?_) fun fhc2 => ?_
      · refine sk ?_
        refine tn (VRun.block (VRun.region (mO (tN n) rfl (fO (B.add (n := (((n + 1) : Nat) : Int)) (tv (tN n) rfl) (VEv.int .i64 1) (by first | (refine remN ?_; omega) | (refine quoN ?_ ?_ <;> omega) | (refine mulWn ?_ ?_ ?_ <;> omega) | rfl | (rw [wrap64 (by omega)]; omega) | (rw [wrap64 (by omega)]; done))) (aO (tN (n + 1)) rfl (VRunO.nil (vinB.n (tn ?_))))))))
        refine ⟨(n + 1 : Nat), ?_, ?_, Wk.mk (fun k => k) ?_ ?_ ?_⟩
        · first | (refine ⟨?_, stepD fhc0 hI'.2 ?_ ?_⟩ <;> first | omega | (unfold slD; omega)) | (refine ⟨?_, stepA fhc0 hI'.2 ?_ ?_⟩ <;> first | omega | (unfold slA; omega))
        · first | omega | (simp only []; omega) | (show _ < _; omega) | (simp; omega)
        · exact (b2 (b2 (b2 (b2 (b2 (b2 (b2 (bn))))))))
        · exact (b3 (bn))
        · show List.Nodup ([0] : List Nat)
          decide
      refine VRun.exit (vthn.e (vthn.e (vinB.e (tn (sr (mO (tN n) rfl (aO (tN n) rfl (nt (rt (vi (n' := ((n : Nat) : Int)) rfl ?_))))))))))
      first | (refine zD fhc0 ?_; omega) | (refine zA fhc0 ?_; omega) | (refine rD fhc0 ?_ hI'.2 ?_ <;> first | omega | (unfold slD; omega)) | (refine rA fhc0 ?_ hI'.2 ?_ <;> first | omega | (unfold slA; omega))
    refine oO rfl rfl (dz fhg49_22) (oO rfl rfl (dz fhg49_22) (oO rfl rfl (dz fhg49_22) (oO rfl rfl (dz fhg49_22) (oO rfl rfl (dz fhg49_22) (oO rfl rfl (dz fhg49_22) (oO rfl rfl (dz fhg49_22) (oO rfl rfl (dz fhg49_22) (oO rfl rfl (dz fhg49_22) (fO (OF.pickF (VEv.tmpB (b := (decide ((((cell % g.Cols.toNat + n) : Nat) : Int) < g.Cols))) rfl (dz fhg49_22)) (VEv.bool false)) (nt ?_))))))))))
    refine VRun.cond (tv (tB false) rfl) (fun hk24 => ?_) (fun hk24 => ?_)
    · exact absurd (rfl.symm.trans hk24) (by decide)
    · skip
      refine VRun.exit (vthn.e (vthn.e (vinB.e (tn (sr (mO (tN n) rfl (aO (tN n) rfl (nt (rt (vi (n' := ((n : Nat) : Int)) rfl ?_))))))))))
      first | (refine zD fhc0 ?_; omega) | (refine zA fhc0 ?_; omega) | (refine rD fhc0 ?_ hI'.2 ?_ <;> first | omega | (unfold slD; omega)) | (refine rA fhc0 ?_ hI'.2 ?_ <;> first | omega | (unfold slA; omega))
theorem W_impl_run (n : Nat) (g : D.Grid) (cell : Nat) (down : Bool) (hg : gridOk g) (hc : cell < g.Cells.size) : Pure (acall Try.prog (n + 1)) 79 [(T.agg (eGrid false g)), (tN cell), (tB down)] (tN (fromG g cell down)) := by
  refine Pure.intro (rs := [ResultVar.tmp 6]) Try.func79 rfl rfl rfl (E0 := [(0, (T.agg (eGrid false g))), (1, (tN cell)), (2, (tB down))]) rfl ?_
  obtain ⟨hlim, hmx, hmax⟩ := lims
  have hsz := hg.size
  have hA := hg.1
  have hB := hg.2.1
  obtain ⟨hC1, hC2, hC3, hC4, hC5⟩ := cell_at hg hc
  have hq0 : 0 ≤ ((cell : Nat) : Int) / ((g.Cols.toNat : Nat) : Int) := Int.ediv_nonneg (by omega) (by omega)
  have hm0 : 0 ≤ ((cell : Nat) : Int) % ((g.Cols.toNat : Nat) : Int) := Int.emod_nonneg _ (by omega)
  refine sr (kO (B.box (ts := (eGrid false g)) (tv (T.agg (eGrid false g)) rfl) nofun rfl) (fO (OF.assign (VEv.int .i64 0)) (nt (sq (VRun.draw (B := [[], [], [1], [1, 2, 0], [], [4], [], [6, 0, 2, 1, 3], [3, 1, 2, 0, 6, 7, 4, 5]]) (by kernel_rfl) (by kernel_rfl) (mD (tN cell) rfl rfl (fD (OF.fieldAddrO (tv (T.op 0 0) rfl) fa29_1) rfl rfl (lD (OL.loadO1 (t := (tI g.Cols)) (tv (T.op 0 1) rfl) rfl rfl st3) rfl rfl (fD (B.rem (n := ((cell % g.Cols.toNat : Nat) : Int)) (tv (tN cell) rfl) (tv (tI g.Cols) rfl) (by omega) (by first | (refine remN ?_; omega) | (refine quoN ?_ ?_ <;> omega) | (refine mulWn ?_ ?_ ?_ <;> omega) | rfl | (rw [wrap64 (by omega)]; omega) | (rw [wrap64 (by omega)]; done))) rfl rfl (fD (OF.fieldAddrO (tv (T.op 0 0) rfl) fa29_1) rfl rfl (lD (OL.loadO1 (t := (tI g.Cols)) (tv (T.op 0 1) rfl) rfl rfl st3) rfl rfl ?_)))))))))))
  refine fD (OF.assign (VEv.int .i64 1)) rfl rfl (fD (OF.assign (tv (tN (cell % g.Cols.toNat)) rfl)) rfl rfl (fD (OF.assign (tv (tI g.Cols) rfl)) rfl rfl (VRunD.nil (tn (sq (sr (mO (tB down) rfl (nt ?_))))))))
  refine VRun.cond (tv (tB down) rfl) (fun hc0 => ?_) (fun hc0 => ?_)
  · have fhc0 : down = true := hc0
    refine VRun.draw (B := [[], [0], [], [], [3], [3, 4, 2], [], [6], [0, 1], [1, 0, 8, 2, 4, 3, 5], [5, 3, 4, 2, 8, 0, 1, 9, 6, 7]]) (by kernel_rfl) (by kernel_rfl) (fD (OF.fieldAddrO (tv (T.op 0 0) rfl) fa29_1) rfl rfl (lD (OL.loadO1 (t := (tI g.Cols)) (tv (T.op 0 1) rfl) rfl rfl st3) rfl rfl (mD (tN cell) rfl rfl (fD (OF.fieldAddrO (tv (T.op 0 0) rfl) fa29_1) rfl rfl (lD (OL.loadO1 (t := (tI g.Cols)) (tv (T.op 0 1) rfl) rfl rfl st3) rfl rfl (fD (B.quo (n := ((cell / g.Cols.toNat : Nat) : Int)) (tv (tN cell) rfl) (tv (tI g.Cols) rfl) (by omega) (by first | (refine remN ?_; omega) | (refine quoN ?_ ?_ <;> omega) | (refine mulWn ?_ ?_ ?_ <;> omega) | rfl | (rw [wrap64 (by omega)]; omega) | (rw [wrap64 (by omega)]; done))) rfl rfl (fD (OF.fieldAddrO (tv (T.op 0 0) rfl) fa29_0) rfl rfl (lD (OL.loadO1 (t := (tI g.Rows)) (tv (T.op 0 0) rfl) rfl rfl st3) rfl rfl (fD (OF.assign (tv (tI g.Cols) rfl)) rfl rfl (fD (OF.assign (tv (tN (cell / g.Cols.toNat)) rfl)) rfl rfl (fD (OF.assign (tv (tI g.Rows) rfl)) rfl rfl ?_)))))))))))
    refine VRunD.nil (tn (sq (sr (fO (OF.fieldAddrO (tv (T.op 0 0) rfl) fa29_2) (lO (OL.loadO1 (t := (tS g.Cells)) (tv (T.op 0 2) rfl) rfl rfl st9) (mO (tN cell) rfl ?_))))))
    have hb1 : cell < g.Cells.size := (by first | (refine remN ?_; omega) | (refine quoN ?_ ?_ <;> omega) | (refine mulWn ?_ ?_ ?_ <;> omega) | omega)
    refine fO (B.index (n := (bAt g.Cells cell)) (i := cell) (tv (tS g.Cells) rfl) (tv (tN cell) rfl) rfl hb1 Try.underlying9 (bAt_eq hb1)) (fO (B.neq (c := (!(decide (bAt g.Cells cell = 46)))) (tv (T.int .u8 (bAt g.Cells cell)) rfl) (VEv.int .u8 46) rfl) (mO (tB (!(decide (bAt g.Cells cell = 46)))) rfl ?_))
    refine gn (bAt g.Cells cell = 46) (fun fhg31_2 => ?_) fun fhg31_2 => ?_
    · refine oO rfl rfl (ny fhg31_2) ?_
      refine oO rfl rfl (ny fhg31_2) (oO rfl rfl (ny fhg31_2) (uO rfl rfl (uO rfl rfl (uO rfl rfl (uO rfl rfl (uO rfl rfl (uO rfl rfl (uO rfl rfl (oO rfl rfl (ny fhg31_2) (fO (OF.pickT (VEv.tmpB (b := (!(decide (bAt g.Cells cell = 46)))) rfl (ny fhg31_2)) (VEv.bool true)) (nt ?_)))))))))))
      refine VRun.cond (tv (tB true) rfl) (fun hk3 => ?_) (fun hk3 => ?_)
      · skip
        refine sr (fO (OF.assign (VEv.int .i64 0)) (nt (rt (tr (vi (n' := 0) rfl ?_)))))
        first | (refine zD fhc0 ?_; omega) | (refine zA fhc0 ?_; omega) | (refine rD fhc0 ?_ hI'.2 ?_ <;> first | omega | (unfold slD; omega)) | (refine rA fhc0 ?_ hI'.2 ?_ <;> first | omega | (unfold slA; omega))
      · exact absurd (rfl.symm.trans hk3) (by decide)
    refine gF (nz fhg31_2) rfl rfl (OF.move (tv (tN (cell / g.Cols.toNat)) rfl)) (gF (nz fhg31_2) rfl rfl (B.gtr (c := (decide (0 < cell / g.Cols.toNat))) (tv (tN (cell / g.Cols.toNat)) rfl) (VEv.int .i64 0) (by first | (refine remN ?_; omega) | (refine quoN ?_ ?_ <;> omega) | (refine mulWn ?_ ?_ ?_ <;> omega) | (exact decN (by omega)))) (gF (nz fhg31_2) rfl rfl (OF.move (tv (tB (decide (0 < cell / g.Cols.toNat))) rfl)) ?_))
    refine gw (0 < cell / g.Cols.toNat) (fun fhg34_4 => ?_) fun fhg34_4 => ?_
    · refine gF (dy fhg34_4) rfl rfl (OF.fieldAddrO (tv (T.op 0 0) rfl) fa29_2) ?_
      refine gL (dy fhg34_4) rfl rfl (OL.loadO1 (t := (tS g.Cells)) (tv (T.op 0 2) rfl) rfl rfl st9) (gF (dy fhg34_4) rfl rfl (OF.move (tv (tN cell) rfl)) (gF (dy fhg34_4) rfl rfl (OF.move (tv (tI g.Cols) rfl)) (gF (dy fhg34_4) rfl rfl (B.sub (n := (((cell : Nat) : Int) - g.Cols)) (tv (tN cell) rfl) (tv (tI g.Cols) rfl) (by first | (refine remN ?_; omega) | (refine quoN ?_ ?_ <;> omega) | (refine mulWn ?_ ?_ ?_ <;> omega) | rfl | (rw [wrap64 (by omega)]; omega) | (rw [wrap64 (by omega)]; done))) ?_)))
      have hb5 : (Int.toNat (((cell : Nat) : Int) - g.Cols)) < g.Cells.size := (by first | (refine remN ?_; omega) | (refine quoN ?_ ?_ <;> omega) | (refine mulWn ?_ ?_ ?_ <;> omega) | omega)
      refine gF (dy fhg34_4) rfl rfl (B.index (n := (bAt g.Cells (Int.toNat (((cell : Nat) : Int) - g.Cols)))) (i := (Int.toNat (((cell : Nat) : Int) - g.Cols))) (tv (tS g.Cells) rfl) (tv (tI (((cell : Nat) : Int) - g.Cols)) rfl) (by omega) hb5 Try.underlying9 (bAt_eq hb5)) (gF (dy fhg34_4) rfl rfl (B.eql (c := (decide (bAt g.Cells (Int.toNat (((cell : Nat) : Int) - g.Cols)) = 46))) (tv (T.int .u8 (bAt g.Cells (Int.toNat (((cell : Nat) : Int) - g.Cols)))) rfl) (VEv.int .u8 46) rfl) (gF (nz fhg31_2) rfl rfl (OF.pickT (VEv.tmpB (b := (decide (0 < cell / g.Cols.toNat))) rfl (dy fhg34_4)) (tv (tB (decide (bAt g.Cells (Int.toNat (((cell : Nat) : Int) - g.Cols)) = 46))) rfl)) (fO (OF.pickF (VEv.tmpB (b := (!(decide (bAt g.Cells cell = 46)))) rfl (nz fhg31_2)) (tv (tB (decide (bAt g.Cells (Int.toNat (((cell : Nat) : Int) - g.Cols)) = 46))) rfl)) (nt ?_))))
      refine cd (bAt g.Cells (Int.toNat (((cell : Nat) : Int) - g.Cols)) = 46) rfl (fun fhc1 => ?_) fun fhc1 => ?_
      · refine sr ?_
        refine fO (OF.assign (VEv.int .i64 0)) (nt (rt (tr (vi (n' := 0) rfl ?_))))
        first | (refine zD fhc0 ?_; omega) | (refine zA fhc0 ?_; omega) | (refine rD fhc0 ?_ hI'.2 ?_ <;> first | omega | (unfold slD; omega)) | (refine rA fhc0 ?_ hI'.2 ?_ <;> first | omega | (unfold slA; omega))
      refine sk (tn (sr (fO (OF.assign (VEv.int .i64 0)) (nt (sq (VRun.block ?_))))))
      refine VRun.loop (A := Nat) (fun s_ => [(1, (tN cell)), (3, (T.op 0 0)), (6, (tN 0)), (7, (tI g.Cols)), (8, (tN (cell / g.Cols.toNat))), (9, (tI g.Rows)), (10, (tN s_))]) (fun s_ => mkO [(0, (Obj.cells (eGrid false g)))]) 1 (fun s_ => s_ ≤ 6 ∧ runI g cell down s_) (fun s_ => 6 - s_) (0 : Nat) ?_ (Wk.mk (fun k => k) ?_ ?_ ?_) ?_
      · exact ⟨Nat.zero_le _, runI_zero _ _ _⟩
      · exact (b2 (b2 (b2 (b2 (b2 (b2 (b2 (bn))))))))
      · exact (b3 (bn))
      · show List.Nodup ([0] : List Nat)
        decide
      rintro n (hI' : n ≤ 6 ∧ runI g cell down n)
      show VRun _ _ _ [(1, (tN cell)), (3, (T.op 0 0)), (6, (tN 0)), (7, (tI g.Cols)), (8, (tN (cell / g.Cols.toNat))), (9, (tI g.Rows)), (10, (tN n))] (mkO [(0, (Obj.cells (eGrid false g)))]) 1 _
      have hI1 := hI'.1
      have hN := mulN hI1 hB.1 hB.2
      have hC6 := hC4 n
      have hC7 := hC5 n
      refine sq (sr (mO (tN (cell / g.Cols.toNat)) rfl (mO (tN n) rfl (fO (B.add (n := (((cell / g.Cols.toNat + n) : Nat) : Int)) (tv (tN (cell / g.Cols.toNat)) rfl) (tv (tN n) rfl) (by first | (refine remN ?_; omega) | (refine quoN ?_ ?_ <;> omega) | (refine mulWn ?_ ?_ ?_ <;> omega) | rfl | (rw [wrap64 (by omega)]; omega) | (rw [wrap64 (by omega)]; done))) (mO (tI g.Rows) rfl (fO (B.lss (c := (decide ((((cell / g.Cols.toNat + n) : Nat) : Int) < g.Rows))) (tv (tN (cell / g.Cols.toNat + n)) rfl) (tv (tI g.Rows) rfl) rfl) (mO (tB (decide ((((cell / g.Cols.toNat + n) : Nat) : Int) < g.Rows))) rfl ?_)))))))
      refine gw ((((cell / g.Cols.toNat + n) : Nat) : Int) < g.Rows) (fun fhg49_6 => ?_) fun fhg49_6 => ?_
      · refine gF (dy fhg49_6) rfl rfl (OF.fieldAddrO (tv (T.op 0 0) rfl) fa29_2) ?_
        refine gL (dy fhg49_6) rfl rfl (OL.loadO1 (t := (tS g.Cells)) (tv (T.op 0 2) rfl) rfl rfl st9) (gF (dy fhg49_6) rfl rfl (OF.move (tv (tN cell) rfl)) (gF (dy fhg49_6) rfl rfl (OF.move (tv (tN n) rfl)) (gF (dy fhg49_6) rfl rfl (OF.move (tv (tI g.Cols) rfl)) (gF (dy fhg49_6) rfl rfl (B.mul (n := (((n : Nat) : Int) * g.Cols)) (tv (tN n) rfl) (tv (tI g.Cols) rfl) (by first | (refine remN ?_; omega) | (refine quoN ?_ ?_ <;> omega) | (refine mulWn ?_ ?_ ?_ <;> omega) | rfl | (rw [wrap64 (by omega)]; omega) | (rw [wrap64 (by omega)]; done))) (gF (dy fhg49_6) rfl rfl (B.add (n := (((cell : Nat) : Int) + (((n : Nat) : Int) * g.Cols))) (tv (tN cell) rfl) (tv (tI (((n : Nat) : Int) * g.Cols)) rfl) (by first | (refine remN ?_; omega) | (refine quoN ?_ ?_ <;> omega) | (refine mulWn ?_ ?_ ?_ <;> omega) | rfl | (rw [wrap64 (by omega)]; omega) | (rw [wrap64 (by omega)]; done))) ?_)))))
        have hb7 : (Int.toNat (((cell : Nat) : Int) + (((n : Nat) : Int) * g.Cols))) < g.Cells.size := (by first | (refine remN ?_; omega) | (refine quoN ?_ ?_ <;> omega) | (refine mulWn ?_ ?_ ?_ <;> omega) | omega)
        refine gF (dy fhg49_6) rfl rfl (B.index (n := (bAt g.Cells (Int.toNat (((cell : Nat) : Int) + (((n : Nat) : Int) * g.Cols))))) (i := (Int.toNat (((cell : Nat) : Int) + (((n : Nat) : Int) * g.Cols)))) (tv (tS g.Cells) rfl) (tv (tI (((cell : Nat) : Int) + (((n : Nat) : Int) * g.Cols))) rfl) (by omega) hb7 Try.underlying9 (bAt_eq hb7)) (gF (dy fhg49_6) rfl rfl (B.eql (c := (decide (bAt g.Cells (Int.toNat (((cell : Nat) : Int) + (((n : Nat) : Int) * g.Cols))) = 46))) (tv (T.int .u8 (bAt g.Cells (Int.toNat (((cell : Nat) : Int) + (((n : Nat) : Int) * g.Cols))))) rfl) (VEv.int .u8 46) rfl) (fO (OF.pickT (VEv.tmpB (b := (decide ((((cell / g.Cols.toNat + n) : Nat) : Int) < g.Rows))) rfl (dy fhg49_6)) (tv (tB (decide (bAt g.Cells (Int.toNat (((cell : Nat) : Int) + (((n : Nat) : Int) * g.Cols))) = 46))) rfl)) (nt ?_)))
        refine cd (bAt g.Cells (Int.toNat (((cell : Nat) : Int) + (((n : Nat) : Int) * g.Cols))) = 46) rfl (fun fhc2 => ?_) fun fhc2 => ?_
        · refine sk ?_
          refine tn (VRun.block (VRun.region (mO (tN n) rfl (fO (B.add (n := (((n + 1) : Nat) : Int)) (tv (tN n) rfl) (VEv.int .i64 1) (by first | (refine remN ?_; omega) | (refine quoN ?_ ?_ <;> omega) | (refine mulWn ?_ ?_ ?_ <;> omega) | rfl | (rw [wrap64 (by omega)]; omega) | (rw [wrap64 (by omega)]; done))) (aO (tN (n + 1)) rfl (VRunO.nil (vinB.n (tn ?_))))))))
          refine ⟨(n + 1 : Nat), ?_, ?_, Wk.mk (fun k => k) ?_ ?_ ?_⟩
          · first | (refine ⟨?_, stepD fhc0 hI'.2 ?_ ?_⟩ <;> first | omega | (unfold slD; omega)) | (refine ⟨?_, stepA fhc0 hI'.2 ?_ ?_⟩ <;> first | omega | (unfold slA; omega))
          · first | omega | (simp only []; omega) | (show _ < _; omega) | (simp; omega)
          · exact (b2 (b2 (b2 (b2 (b2 (b2 (b2 (bn))))))))
          · exact (b3 (bn))
          · show List.Nodup ([0] : List Nat)
            decide
        refine VRun.exit (vthn.e (vthn.e (vinB.e (tn (sr (mO (tN n) rfl (aO (tN n) rfl (nt (rt (vi (n' := ((n : Nat) : Int)) rfl ?_))))))))))
        first | (refine zD fhc0 ?_; omega) | (refine zA fhc0 ?_; omega) | (refine rD fhc0 ?_ hI'.2 ?_ <;> first | omega | (unfold slD; omega)) | (refine rA fhc0 ?_ hI'.2 ?_ <;> first | omega | (unfold slA; omega))
      refine oO rfl rfl (dz fhg49_6) (oO rfl rfl (dz fhg49_6) (oO rfl rfl (dz fhg49_6) (oO rfl rfl (dz fhg49_6) (oO rfl rfl (dz fhg49_6) (oO rfl rfl (dz fhg49_6) (oO rfl rfl (dz fhg49_6) (oO rfl rfl (dz fhg49_6) (oO rfl rfl (dz fhg49_6) (fO (OF.pickF (VEv.tmpB (b := (decide ((((cell / g.Cols.toNat + n) : Nat) : Int) < g.Rows))) rfl (dz fhg49_6)) (VEv.bool false)) (nt ?_))))))))))
      refine VRun.cond (tv (tB false) rfl) (fun hk8 => ?_) (fun hk8 => ?_)
      · exact absurd (rfl.symm.trans hk8) (by decide)
      · skip
        refine VRun.exit (vthn.e (vthn.e (vinB.e (tn (sr (mO (tN n) rfl (aO (tN n) rfl (nt (rt (vi (n' := ((n : Nat) : Int)) rfl ?_))))))))))
        first | (refine zD fhc0 ?_; omega) | (refine zA fhc0 ?_; omega) | (refine rD fhc0 ?_ hI'.2 ?_ <;> first | omega | (unfold slD; omega)) | (refine rA fhc0 ?_ hI'.2 ?_ <;> first | omega | (unfold slA; omega))
    refine oO rfl rfl (dz fhg34_4) (oO rfl rfl (dz fhg34_4) (oO rfl rfl (dz fhg34_4) (oO rfl rfl (dz fhg34_4) (oO rfl rfl (dz fhg34_4) (oO rfl rfl (dz fhg34_4) (oO rfl rfl (dz fhg34_4) (gF (nz fhg31_2) rfl rfl (OF.pickF (VEv.tmpB (b := (decide (0 < cell / g.Cols.toNat))) rfl (dz fhg34_4)) (VEv.bool false)) (fO (OF.pickF (VEv.tmpB (b := (!(decide (bAt g.Cells cell = 46)))) rfl (nz fhg31_2)) (tv (tB false) rfl)) (nt ?_)))))))))
    refine VRun.cond (tv (tB false) rfl) (fun hk9 => ?_) (fun hk9 => ?_)
    · exact absurd (rfl.symm.trans hk9) (by decide)
    · skip
      refine sk (tn (sr (fO (OF.assign (VEv.int .i64 0)) (nt (sq (VRun.block ?_))))))
      refine VRun.loop (A := Nat) (fun s_ => [(1, (tN cell)), (3, (T.op 0 0)), (6, (tN 0)), (7, (tI g.Cols)), (8, (tN (cell / g.Cols.toNat))), (9, (tI g.Rows)), (10, (tN s_))]) (fun s_ => mkO [(0, (Obj.cells (eGrid false g)))]) 1 (fun s_ => s_ ≤ 6 ∧ runI g cell down s_) (fun s_ => 6 - s_) (0 : Nat) ?_ (Wk.mk (fun k => k) ?_ ?_ ?_) ?_
      · exact ⟨Nat.zero_le _, runI_zero _ _ _⟩
      · exact (b2 (b2 (b2 (b2 (b2 (b2 (b2 (bn))))))))
      · exact (b3 (bn))
      · show List.Nodup ([0] : List Nat)
        decide
      rintro n (hI' : n ≤ 6 ∧ runI g cell down n)
      show VRun _ _ _ [(1, (tN cell)), (3, (T.op 0 0)), (6, (tN 0)), (7, (tI g.Cols)), (8, (tN (cell / g.Cols.toNat))), (9, (tI g.Rows)), (10, (tN n))] (mkO [(0, (Obj.cells (eGrid false g)))]) 1 _
      have hI1 := hI'.1
      have hN := mulN hI1 hB.1 hB.2
      have hC6 := hC4 n
      have hC7 := hC5 n
      refine sq (sr (mO (tN (cell / g.Cols.toNat)) rfl (mO (tN n) rfl (fO (B.add (n := (((cell / g.Cols.toNat + n) : Nat) : Int)) (tv (tN (cell / g.Cols.toNat)) rfl) (tv (tN n) rfl) (by first | (refine remN ?_; omega) | (refine quoN ?_ ?_ <;> omega) | (refine mulWn ?_ ?_ ?_ <;> omega) | rfl | (rw [wrap64 (by omega)]; omega) | (rw [wrap64 (by omega)]; done))) (mO (tI g.Rows) rfl (fO (B.lss (c := (decide ((((cell / g.Cols.toNat + n) : Nat) : Int) < g.Rows))) (tv (tN (cell / g.Cols.toNat + n)) rfl) (tv (tI g.Rows) rfl) rfl) (mO (tB (decide ((((cell / g.Cols.toNat + n) : Nat) : Int) < g.Rows))) rfl ?_)))))))
      refine gw ((((cell / g.Cols.toNat + n) : Nat) : Int) < g.Rows) (fun fhg49_10 => ?_) fun fhg49_10 => ?_
      · refine gF (dy fhg49_10) rfl rfl (OF.fieldAddrO (tv (T.op 0 0) rfl) fa29_2) ?_
        refine gL (dy fhg49_10) rfl rfl (OL.loadO1 (t := (tS g.Cells)) (tv (T.op 0 2) rfl) rfl rfl st9) (gF (dy fhg49_10) rfl rfl (OF.move (tv (tN cell) rfl)) (gF (dy fhg49_10) rfl rfl (OF.move (tv (tN n) rfl)) (gF (dy fhg49_10) rfl rfl (OF.move (tv (tI g.Cols) rfl)) (gF (dy fhg49_10) rfl rfl (B.mul (n := (((n : Nat) : Int) * g.Cols)) (tv (tN n) rfl) (tv (tI g.Cols) rfl) (by first | (refine remN ?_; omega) | (refine quoN ?_ ?_ <;> omega) | (refine mulWn ?_ ?_ ?_ <;> omega) | rfl | (rw [wrap64 (by omega)]; omega) | (rw [wrap64 (by omega)]; done))) (gF (dy fhg49_10) rfl rfl (B.add (n := (((cell : Nat) : Int) + (((n : Nat) : Int) * g.Cols))) (tv (tN cell) rfl) (tv (tI (((n : Nat) : Int) * g.Cols)) rfl) (by first | (refine remN ?_; omega) | (refine quoN ?_ ?_ <;> omega) | (refine mulWn ?_ ?_ ?_ <;> omega) | rfl | (rw [wrap64 (by omega)]; omega) | (rw [wrap64 (by omega)]; done))) ?_)))))
        have hb11 : (Int.toNat (((cell : Nat) : Int) + (((n : Nat) : Int) * g.Cols))) < g.Cells.size := (by first | (refine remN ?_; omega) | (refine quoN ?_ ?_ <;> omega) | (refine mulWn ?_ ?_ ?_ <;> omega) | omega)
        refine gF (dy fhg49_10) rfl rfl (B.index (n := (bAt g.Cells (Int.toNat (((cell : Nat) : Int) + (((n : Nat) : Int) * g.Cols))))) (i := (Int.toNat (((cell : Nat) : Int) + (((n : Nat) : Int) * g.Cols)))) (tv (tS g.Cells) rfl) (tv (tI (((cell : Nat) : Int) + (((n : Nat) : Int) * g.Cols))) rfl) (by omega) hb11 Try.underlying9 (bAt_eq hb11)) (gF (dy fhg49_10) rfl rfl (B.eql (c := (decide (bAt g.Cells (Int.toNat (((cell : Nat) : Int) + (((n : Nat) : Int) * g.Cols))) = 46))) (tv (T.int .u8 (bAt g.Cells (Int.toNat (((cell : Nat) : Int) + (((n : Nat) : Int) * g.Cols))))) rfl) (VEv.int .u8 46) rfl) (fO (OF.pickT (VEv.tmpB (b := (decide ((((cell / g.Cols.toNat + n) : Nat) : Int) < g.Rows))) rfl (dy fhg49_10)) (tv (tB (decide (bAt g.Cells (Int.toNat (((cell : Nat) : Int) + (((n : Nat) : Int) * g.Cols))) = 46))) rfl)) (nt ?_)))
        refine cd (bAt g.Cells (Int.toNat (((cell : Nat) : Int) + (((n : Nat) : Int) * g.Cols))) = 46) rfl (fun fhc2 => ?_) fun fhc2 => ?_
        · refine sk ?_
          refine tn (VRun.block (VRun.region (mO (tN n) rfl (fO (B.add (n := (((n + 1) : Nat) : Int)) (tv (tN n) rfl) (VEv.int .i64 1) (by first | (refine remN ?_; omega) | (refine quoN ?_ ?_ <;> omega) | (refine mulWn ?_ ?_ ?_ <;> omega) | rfl | (rw [wrap64 (by omega)]; omega) | (rw [wrap64 (by omega)]; done))) (aO (tN (n + 1)) rfl (VRunO.nil (vinB.n (tn ?_))))))))
          refine ⟨(n + 1 : Nat), ?_, ?_, Wk.mk (fun k => k) ?_ ?_ ?_⟩
          · first | (refine ⟨?_, stepD fhc0 hI'.2 ?_ ?_⟩ <;> first | omega | (unfold slD; omega)) | (refine ⟨?_, stepA fhc0 hI'.2 ?_ ?_⟩ <;> first | omega | (unfold slA; omega))
          · first | omega | (simp only []; omega) | (show _ < _; omega) | (simp; omega)
          · exact (b2 (b2 (b2 (b2 (b2 (b2 (b2 (bn))))))))
          · exact (b3 (bn))
          · show List.Nodup ([0] : List Nat)
            decide
        refine VRun.exit (vthn.e (vthn.e (vinB.e (tn (sr (mO (tN n) rfl (aO (tN n) rfl (nt (rt (vi (n' := ((n : Nat) : Int)) rfl ?_))))))))))
        first | (refine zD fhc0 ?_; omega) | (refine zA fhc0 ?_; omega) | (refine rD fhc0 ?_ hI'.2 ?_ <;> first | omega | (unfold slD; omega)) | (refine rA fhc0 ?_ hI'.2 ?_ <;> first | omega | (unfold slA; omega))
      refine oO rfl rfl (dz fhg49_10) (oO rfl rfl (dz fhg49_10) (oO rfl rfl (dz fhg49_10) (oO rfl rfl (dz fhg49_10) (oO rfl rfl (dz fhg49_10) (oO rfl rfl (dz fhg49_10) (oO rfl rfl (dz fhg49_10) (oO rfl rfl (dz fhg49_10) (oO rfl rfl (dz fhg49_10) (fO (OF.pickF (VEv.tmpB (b := (decide ((((cell / g.Cols.toNat + n) : Nat) : Int) < g.Rows))) rfl (dz fhg49_10)) (VEv.bool false)) (nt ?_))))))))))
      refine VRun.cond (tv (tB false) rfl) (fun hk12 => ?_) (fun hk12 => ?_)
      · exact absurd (rfl.symm.trans hk12) (by decide)
      · skip
        refine VRun.exit (vthn.e (vthn.e (vinB.e (tn (sr (mO (tN n) rfl (aO (tN n) rfl (nt (rt (vi (n' := ((n : Nat) : Int)) rfl ?_))))))))))
        first | (refine zD fhc0 ?_; omega) | (refine zA fhc0 ?_; omega) | (refine rD fhc0 ?_ hI'.2 ?_ <;> first | omega | (unfold slD; omega)) | (refine rA fhc0 ?_ hI'.2 ?_ <;> first | omega | (unfold slA; omega))
  have fhc0 : down = false := hc0
  refine sk (tn (sq (sr (fO (OF.fieldAddrO (tv (T.op 0 0) rfl) fa29_2) (lO (OL.loadO1 (t := (tS g.Cells)) (tv (T.op 0 2) rfl) rfl rfl st9) (mO (tN cell) rfl ?_))))))
  have hb13 : cell < g.Cells.size := (by first | (refine remN ?_; omega) | (refine quoN ?_ ?_ <;> omega) | (refine mulWn ?_ ?_ ?_ <;> omega) | omega)
  refine fO (B.index (n := (bAt g.Cells cell)) (i := cell) (tv (tS g.Cells) rfl) (tv (tN cell) rfl) rfl hb13 Try.underlying9 (bAt_eq hb13)) (fO (B.neq (c := (!(decide (bAt g.Cells cell = 46)))) (tv (T.int .u8 (bAt g.Cells cell)) rfl) (VEv.int .u8 46) rfl) (mO (tB (!(decide (bAt g.Cells cell = 46)))) rfl ?_))
  refine gn (bAt g.Cells cell = 46) (fun fhg31_14 => ?_) fun fhg31_14 => ?_
  · refine oO rfl rfl (ny fhg31_14) ?_
    refine oO rfl rfl (ny fhg31_14) (oO rfl rfl (ny fhg31_14) (uO rfl rfl (uO rfl rfl (uO rfl rfl (uO rfl rfl (uO rfl rfl (uO rfl rfl (uO rfl rfl (oO rfl rfl (ny fhg31_14) (fO (OF.pickT (VEv.tmpB (b := (!(decide (bAt g.Cells cell = 46)))) rfl (ny fhg31_14)) (VEv.bool true)) (nt ?_)))))))))))
    refine VRun.cond (tv (tB true) rfl) (fun hk15 => ?_) (fun hk15 => ?_)
    · skip
      refine sr (fO (OF.assign (VEv.int .i64 0)) (nt (rt (tr (vi (n' := 0) rfl ?_)))))
      first | (refine zD fhc0 ?_; omega) | (refine zA fhc0 ?_; omega) | (refine rD fhc0 ?_ hI'.2 ?_ <;> first | omega | (unfold slD; omega)) | (refine rA fhc0 ?_ hI'.2 ?_ <;> first | omega | (unfold slA; omega))
    · exact absurd (rfl.symm.trans hk15) (by decide)
  refine gF (nz fhg31_14) rfl rfl (OF.move (tv (tN (cell % g.Cols.toNat)) rfl)) (gF (nz fhg31_14) rfl rfl (B.gtr (c := (decide (0 < cell % g.Cols.toNat))) (tv (tN (cell % g.Cols.toNat)) rfl) (VEv.int .i64 0) (by first | (refine remN ?_; omega) | (refine quoN ?_ ?_ <;> omega) | (refine mulWn ?_ ?_ ?_ <;> omega) | (exact decN (by omega)))) (gF (nz fhg31_14) rfl rfl (OF.move (tv (tB (decide (0 < cell % g.Cols.toNat))) rfl)) ?_))
  refine gw (0 < cell % g.Cols.toNat) (fun fhg34_16 => ?_) fun fhg34_16 => ?_
  · refine gF (dy fhg34_16) rfl rfl (OF.fieldAddrO (tv (T.op 0 0) rfl) fa29_2) ?_
    refine gL (dy fhg34_16) rfl rfl (OL.loadO1 (t := (tS g.Cells)) (tv (T.op 0 2) rfl) rfl rfl st9) (gF (dy fhg34_16) rfl rfl (OF.move (tv (tN cell) rfl)) (gF (dy fhg34_16) rfl rfl (OF.move (tv (tN 1) rfl)) (gF (dy fhg34_16) rfl rfl (B.sub (n := (((cell : Nat) : Int) - 1)) (tv (tN cell) rfl) (tv (tN 1) rfl) (by first | (refine remN ?_; omega) | (refine quoN ?_ ?_ <;> omega) | (refine mulWn ?_ ?_ ?_ <;> omega) | rfl | (rw [wrap64 (by omega)]; omega) | (rw [wrap64 (by omega)]; done))) ?_)))
    have hb17 : (Int.toNat (((cell : Nat) : Int) - 1)) < g.Cells.size := (by first | (refine remN ?_; omega) | (refine quoN ?_ ?_ <;> omega) | (refine mulWn ?_ ?_ ?_ <;> omega) | omega)
    refine gF (dy fhg34_16) rfl rfl (B.index (n := (bAt g.Cells (Int.toNat (((cell : Nat) : Int) - 1)))) (i := (Int.toNat (((cell : Nat) : Int) - 1))) (tv (tS g.Cells) rfl) (tv (tI (((cell : Nat) : Int) - 1)) rfl) (by omega) hb17 Try.underlying9 (bAt_eq hb17)) (gF (dy fhg34_16) rfl rfl (B.eql (c := (decide (bAt g.Cells (Int.toNat (((cell : Nat) : Int) - 1)) = 46))) (tv (T.int .u8 (bAt g.Cells (Int.toNat (((cell : Nat) : Int) - 1)))) rfl) (VEv.int .u8 46) rfl) (gF (nz fhg31_14) rfl rfl (OF.pickT (VEv.tmpB (b := (decide (0 < cell % g.Cols.toNat))) rfl (dy fhg34_16)) (tv (tB (decide (bAt g.Cells (Int.toNat (((cell : Nat) : Int) - 1)) = 46))) rfl)) (fO (OF.pickF (VEv.tmpB (b := (!(decide (bAt g.Cells cell = 46)))) rfl (nz fhg31_14)) (tv (tB (decide (bAt g.Cells (Int.toNat (((cell : Nat) : Int) - 1)) = 46))) rfl)) (nt ?_))))
    refine cd (bAt g.Cells (Int.toNat (((cell : Nat) : Int) - 1)) = 46) rfl (fun fhc1 => ?_) fun fhc1 => ?_
    · refine sr ?_
      refine fO (OF.assign (VEv.int .i64 0)) (nt (rt (tr (vi (n' := 0) rfl ?_))))
      first | (refine zD fhc0 ?_; omega) | (refine zA fhc0 ?_; omega) | (refine rD fhc0 ?_ hI'.2 ?_ <;> first | omega | (unfold slD; omega)) | (refine rA fhc0 ?_ hI'.2 ?_ <;> first | omega | (unfold slA; omega))
    refine sk (tn (sr (fO (OF.assign (VEv.int .i64 0)) (nt (sq (VRun.block ?_))))))
    refine VRun.loop (A := Nat) (fun s_ => [(1, (tN cell)), (3, (T.op 0 0)), (6, (tN 0)), (7, (tN 1)), (8, (tN (cell % g.Cols.toNat))), (9, (tI g.Cols)), (10, (tN s_))]) (fun s_ => mkO [(0, (Obj.cells (eGrid false g)))]) 1 (fun s_ => s_ ≤ 6 ∧ runI g cell down s_) (fun s_ => 6 - s_) (0 : Nat) ?_ (Wk.mk (fun k => k) ?_ ?_ ?_) ?_
    · exact ⟨Nat.zero_le _, runI_zero _ _ _⟩
    · exact (b2 (b2 (b2 (b2 (b2 (b2 (b2 (bn))))))))
    · exact (b3 (bn))
    · show List.Nodup ([0] : List Nat)
      decide
    rintro n (hI' : n ≤ 6 ∧ runI g cell down n)
    show VRun _ _ _ [(1, (tN cell)), (3, (T.op 0 0)), (6, (tN 0)), (7, (tN 1)), (8, (tN (cell % g.Cols.toNat))), (9, (tI g.Cols)), (10, (tN n))] (mkO [(0, (Obj.cells (eGrid false g)))]) 1 _
    have hI1 := hI'.1
    have hN := mulN hI1 hB.1 hB.2
    have hC6 := hC4 n
    have hC7 := hC5 n
    refine sq (sr (mO (tN (cell % g.Cols.toNat)) rfl (mO (tN n) rfl (fO (B.add (n := (((cell % g.Cols.toNat + n) : Nat) : Int)) (tv (tN (cell % g.Cols.toNat)) rfl) (tv (tN n) rfl) (by first | (refine remN ?_; omega) | (refine quoN ?_ ?_ <;> omega) | (refine mulWn ?_ ?_ ?_ <;> omega) | rfl | (rw [wrap64 (by omega)]; omega) | (rw [wrap64 (by omega)]; done))) (mO (tI g.Cols) rfl (fO (B.lss (c := (decide ((((cell % g.Cols.toNat + n) : Nat) : Int) < g.Cols))) (tv (tN (cell % g.Cols.toNat + n)) rfl) (tv (tI g.Cols) rfl) rfl) (mO (tB (decide ((((cell % g.Cols.toNat + n) : Nat) : Int) < g.Cols))) rfl ?_)))))))
    refine gw ((((cell % g.Cols.toNat + n) : Nat) : Int) < g.Cols) (fun fhg49_18 => ?_) fun fhg49_18 => ?_
    · refine gF (dy fhg49_18) rfl rfl (OF.fieldAddrO (tv (T.op 0 0) rfl) fa29_2) ?_
      refine gL (dy fhg49_18) rfl rfl (OL.loadO1 (t := (tS g.Cells)) (tv (T.op 0 2) rfl) rfl rfl st9) (gF (dy fhg49_18) rfl rfl (OF.move (tv (tN cell) rfl)) (gF (dy fhg49_18) rfl rfl (OF.move (tv (tN n) rfl)) (gF (dy fhg49_18) rfl rfl (OF.move (tv (tN 1) rfl)) (gF (dy fhg49_18) rfl rfl (B.mul (n := (((n * 1) : Nat) : Int)) (tv (tN n) rfl) (tv (tN 1) rfl) (by first | (refine remN ?_; omega) | (refine quoN ?_ ?_ <;> omega) | (refine mulWn ?_ ?_ ?_ <;> omega) | rfl | (rw [wrap64 (by omega)]; omega) | (rw [wrap64 (by omega)]; done))) (gF (dy fhg49_18) rfl rfl (B.add (n := (((cell + (n * 1)) : Nat) : Int)) (tv (tN cell) rfl) (tv (tN (n * 1)) rfl) (by first | (refine remN ?_; omega) | (refine quoN ?_ ?_ <;> omega) | (refine mulWn ?_ ?_ ?_ <;> omega) | rfl | (rw [wrap64 (by omega)]; omega) | (rw [wrap64 (by omega)]; done))) ?_)))))
      have hb19 : (cell + (n * 1)) < g.Cells.size := (by first | (refine remN ?_; omega) | (refine quoN ?_ ?_ <;> omega) | (refine mulWn ?_ ?_ ?_ <;> omega) | omega)
      refine gF (dy fhg49_18) rfl rfl (B.index (n := (bAt g.Cells (cell + (n * 1)))) (i := (cell + (n * 1))) (tv (tS g.Cells) rfl) (tv (tN (cell + (n * 1))) rfl) rfl hb19 Try.underlying9 (bAt_eq hb19)) (gF (dy fhg49_18) rfl rfl (B.eql (c := (decide (bAt g.Cells (cell + (n * 1)) = 46))) (tv (T.int .u8 (bAt g.Cells (cell + (n * 1)))) rfl) (VEv.int .u8 46) rfl) (fO (OF.pickT (VEv.tmpB (b := (decide ((((cell % g.Cols.toNat + n) : Nat) : Int) < g.Cols))) rfl (dy fhg49_18)) (tv (tB (decide (bAt g.Cells (cell + (n * 1)) = 46))) rfl)) (nt ?_)))
      refine cd (bAt g.Cells (cell + (n * 1)) = 46) rfl (fun fhc2 => ?_) fun fhc2 => ?_
      · refine sk ?_
        refine tn (VRun.block (VRun.region (mO (tN n) rfl (fO (B.add (n := (((n + 1) : Nat) : Int)) (tv (tN n) rfl) (VEv.int .i64 1) (by first | (refine remN ?_; omega) | (refine quoN ?_ ?_ <;> omega) | (refine mulWn ?_ ?_ ?_ <;> omega) | rfl | (rw [wrap64 (by omega)]; omega) | (rw [wrap64 (by omega)]; done))) (aO (tN (n + 1)) rfl (VRunO.nil (vinB.n (tn ?_))))))))
        refine ⟨(n + 1 : Nat), ?_, ?_, Wk.mk (fun k => k) ?_ ?_ ?_⟩
        · first | (refine ⟨?_, stepD fhc0 hI'.2 ?_ ?_⟩ <;> first | omega | (unfold slD; omega)) | (refine ⟨?_, stepA fhc0 hI'.2 ?_ ?_⟩ <;> first | omega | (unfold slA; omega))
        · first | omega | (simp only []; omega) | (show _ < _; omega) | (simp; omega)
        · exact (b2 (b2 (b2 (b2 (b2 (b2 (b2 (bn))))))))
        · exact (b3 (bn))
        · show List.Nodup ([0] : List Nat)
          decide
      refine VRun.exit (vthn.e (vthn.e (vinB.e (tn (sr (mO (tN n) rfl (aO (tN n) rfl (nt (rt (vi (n' := ((n : Nat) : Int)) rfl ?_))))))))))
      first | (refine zD fhc0 ?_; omega) | (refine zA fhc0 ?_; omega) | (refine rD fhc0 ?_ hI'.2 ?_ <;> first | omega | (unfold slD; omega)) | (refine rA fhc0 ?_ hI'.2 ?_ <;> first | omega | (unfold slA; omega))
    refine oO rfl rfl (dz fhg49_18) (oO rfl rfl (dz fhg49_18) (oO rfl rfl (dz fhg49_18) (oO rfl rfl (dz fhg49_18) (oO rfl rfl (dz fhg49_18) (oO rfl rfl (dz fhg49_18) (oO rfl rfl (dz fhg49_18) (oO rfl rfl (dz fhg49_18) (oO rfl rfl (dz fhg49_18) (fO (OF.pickF (VEv.tmpB (b := (decide ((((cell % g.Cols.toNat + n) : Nat) : Int) < g.Cols))) rfl (dz fhg49_18)) (VEv.bool false)) (nt ?_))))))))))
    refine VRun.cond (tv (tB false) rfl) (fun hk20 => ?_) (fun hk20 => ?_)
    · exact absurd (rfl.symm.trans hk20) (by decide)
    · skip
      refine VRun.exit (vthn.e (vthn.e (vinB.e (tn (sr (mO (tN n) rfl (aO (tN n) rfl (nt (rt (vi (n' := ((n : Nat) : Int)) rfl ?_))))))))))
      first | (refine zD fhc0 ?_; omega) | (refine zA fhc0 ?_; omega) | (refine rD fhc0 ?_ hI'.2 ?_ <;> first | omega | (unfold slD; omega)) | (refine rA fhc0 ?_ hI'.2 ?_ <;> first | omega | (unfold slA; omega))
  refine oO rfl rfl (dz fhg34_16) (oO rfl rfl (dz fhg34_16) (oO rfl rfl (dz fhg34_16) (oO rfl rfl (dz fhg34_16) (oO rfl rfl (dz fhg34_16) (oO rfl rfl (dz fhg34_16) (oO rfl rfl (dz fhg34_16) (gF (nz fhg31_14) rfl rfl (OF.pickF (VEv.tmpB (b := (decide (0 < cell % g.Cols.toNat))) rfl (dz fhg34_16)) (VEv.bool false)) (fO (OF.pickF (VEv.tmpB (b := (!(decide (bAt g.Cells cell = 46)))) rfl (nz fhg31_14)) (tv (tB false) rfl)) (nt ?_)))))))))
  refine VRun.cond (tv (tB false) rfl) (fun hk21 => ?_) (fun hk21 => ?_)
  · exact absurd (rfl.symm.trans hk21) (by decide)
  · skip
    refine sk (tn (sr (fO (OF.assign (VEv.int .i64 0)) (nt (sq (VRun.block ?_))))))
    refine VRun.loop (A := Nat) (fun s_ => [(1, (tN cell)), (3, (T.op 0 0)), (6, (tN 0)), (7, (tN 1)), (8, (tN (cell % g.Cols.toNat))), (9, (tI g.Cols)), (10, (tN s_))]) (fun s_ => mkO [(0, (Obj.cells (eGrid false g)))]) 1 (fun s_ => s_ ≤ 6 ∧ runI g cell down s_) (fun s_ => 6 - s_) (0 : Nat) ?_ (Wk.mk (fun k => k) ?_ ?_ ?_) ?_
    · exact ⟨Nat.zero_le _, runI_zero _ _ _⟩
    · exact (b2 (b2 (b2 (b2 (b2 (b2 (b2 (bn))))))))
    · exact (b3 (bn))
    · show List.Nodup ([0] : List Nat)
      decide
    rintro n (hI' : n ≤ 6 ∧ runI g cell down n)
    show VRun _ _ _ [(1, (tN cell)), (3, (T.op 0 0)), (6, (tN 0)), (7, (tN 1)), (8, (tN (cell % g.Cols.toNat))), (9, (tI g.Cols)), (10, (tN n))] (mkO [(0, (Obj.cells (eGrid false g)))]) 1 _
    have hI1 := hI'.1
    have hN := mulN hI1 hB.1 hB.2
    have hC6 := hC4 n
    have hC7 := hC5 n
    refine sq (sr (mO (tN (cell % g.Cols.toNat)) rfl (mO (tN n) rfl (fO (B.add (n := (((cell % g.Cols.toNat + n) : Nat) : Int)) (tv (tN (cell % g.Cols.toNat)) rfl) (tv (tN n) rfl) (by first | (refine remN ?_; omega) | (refine quoN ?_ ?_ <;> omega) | (refine mulWn ?_ ?_ ?_ <;> omega) | rfl | (rw [wrap64 (by omega)]; omega) | (rw [wrap64 (by omega)]; done))) (mO (tI g.Cols) rfl (fO (B.lss (c := (decide ((((cell % g.Cols.toNat + n) : Nat) : Int) < g.Cols))) (tv (tN (cell % g.Cols.toNat + n)) rfl) (tv (tI g.Cols) rfl) rfl) (mO (tB (decide ((((cell % g.Cols.toNat + n) : Nat) : Int) < g.Cols))) rfl ?_)))))))
    refine gw ((((cell % g.Cols.toNat + n) : Nat) : Int) < g.Cols) (fun fhg49_22 => ?_) fun fhg49_22 => ?_
    · refine gF (dy fhg49_22) rfl rfl (OF.fieldAddrO (tv (T.op 0 0) rfl) fa29_2) ?_
      refine gL (dy fhg49_22) rfl rfl (OL.loadO1 (t := (tS g.Cells)) (tv (T.op 0 2) rfl) rfl rfl st9) (gF (dy fhg49_22) rfl rfl (OF.move (tv (tN cell) rfl)) (gF (dy fhg49_22) rfl rfl (OF.move (tv (tN n) rfl)) (gF (dy fhg49_22) rfl rfl (OF.move (tv (tN 1) rfl)) (gF (dy fhg49_22) rfl rfl (B.mul (n := (((n * 1) : Nat) : Int)) (tv (tN n) rfl) (tv (tN 1) rfl) (by first | (refine remN ?_; omega) | (refine quoN ?_ ?_ <;> omega) | (refine mulWn ?_ ?_ ?_ <;> omega) | rfl | (rw [wrap64 (by omega)]; omega) | (rw [wrap64 (by omega)]; done))) (gF (dy fhg49_22) rfl rfl (B.add (n := (((cell + (n * 1)) : Nat) : Int)) (tv (tN cell) rfl) (tv (tN (n * 1)) rfl) (by first | (refine remN ?_; omega) | (refine quoN ?_ ?_ <;> omega) | (refine mulWn ?_ ?_ ?_ <;> omega) | rfl | (rw [wrap64 (by omega)]; omega) | (rw [wrap64 (by omega)]; done))) ?_)))))
      have hb23 : (cell + (n * 1)) < g.Cells.size := (by first | (refine remN ?_; omega) | (refine quoN ?_ ?_ <;> omega) | (refine mulWn ?_ ?_ ?_ <;> omega) | omega)
      refine gF (dy fhg49_22) rfl rfl (B.index (n := (bAt g.Cells (cell + (n * 1)))) (i := (cell + (n * 1))) (tv (tS g.Cells) rfl) (tv (tN (cell + (n * 1))) rfl) rfl hb23 Try.underlying9 (bAt_eq hb23)) (gF (dy fhg49_22) rfl rfl (B.eql (c := (decide (bAt g.Cells (cell + (n * 1)) = 46))) (tv (T.int .u8 (bAt g.Cells (cell + (n * 1)))) rfl) (VEv.int .u8 46) rfl) (fO (OF.pickT (VEv.tmpB (b := (decide ((((cell % g.Cols.toNat + n) : Nat) : Int) < g.Cols))) rfl (dy fhg49_22)) (tv (tB (decide (bAt g.Cells (cell + (n * 1)) = 46))) rfl)) (nt ?_)))
      refine cd (bAt g.Cells (cell + (n * 1)) = 46) rfl (fun fhc2 => ?_) fun fhc2 => ?_
      · refine sk ?_
        refine tn (VRun.block (VRun.region (mO (tN n) rfl (fO (B.add (n := (((n + 1) : Nat) : Int)) (tv (tN n) rfl) (VEv.int .i64 1) (by first | (refine remN ?_; omega) | (refine quoN ?_ ?_ <;> omega) | (refine mulWn ?_ ?_ ?_ <;> omega) | rfl | (rw [wrap64 (by omega)]; omega) | (rw [wrap64 (by omega)]; done))) (aO (tN (n + 1)) rfl (VRunO.nil (vinB.n (tn ?_))))))))
        refine ⟨(n + 1 : Nat), ?_, ?_, Wk.mk (fun k => k) ?_ ?_ ?_⟩
        · first | (refine ⟨?_, stepD fhc0 hI'.2 ?_ ?_⟩ <;> first | omega | (unfold slD; omega)) | (refine ⟨?_, stepA fhc0 hI'.2 ?_ ?_⟩ <;> first | omega | (unfold slA; omega))
        · first | omega | (simp only []; omega) | (show _ < _; omega) | (simp; omega)
        · exact (b2 (b2 (b2 (b2 (b2 (b2 (b2 (bn))))))))
        · exact (b3 (bn))
        · show List.Nodup ([0] : List Nat)
          decide
      refine VRun.exit (vthn.e (vthn.e (vinB.e (tn (sr (mO (tN n) rfl (aO (tN n) rfl (nt (rt (vi (n' := ((n : Nat) : Int)) rfl ?_))))))))))
      first | (refine zD fhc0 ?_; omega) | (refine zA fhc0 ?_; omega) | (refine rD fhc0 ?_ hI'.2 ?_ <;> first | omega | (unfold slD; omega)) | (refine rA fhc0 ?_ hI'.2 ?_ <;> first | omega | (unfold slA; omega))
    refine oO rfl rfl (dz fhg49_22) (oO rfl rfl (dz fhg49_22) (oO rfl rfl (dz fhg49_22) (oO rfl rfl (dz fhg49_22) (oO rfl rfl (dz fhg49_22) (oO rfl rfl (dz fhg49_22) (oO rfl rfl (dz fhg49_22) (oO rfl rfl (dz fhg49_22) (oO rfl rfl (dz fhg49_22) (fO (OF.pickF (VEv.tmpB (b := (decide ((((cell % g.Cols.toNat + n) : Nat) : Int) < g.Cols))) rfl (dz fhg49_22)) (VEv.bool false)) (nt ?_))))))))))
    refine VRun.cond (tv (tB false) rfl) (fun hk24 => ?_) (fun hk24 => ?_)
    · exact absurd (rfl.symm.trans hk24) (by decide)
    · skip
      refine VRun.exit (vthn.e (vthn.e (vinB.e (tn (sr (mO (tN n) rfl (aO (tN n) rfl (nt (rt (vi (n' := ((n : Nat) : Int)) rfl ?_))))))))))
      first | (refine zD fhc0 ?_; omega) | (refine zA fhc0 ?_; omega) | (refine rD fhc0 ?_ hI'.2 ?_ <;> first | omega | (unfold slD; omega)) | (refine rA fhc0 ?_ hI'.2 ?_ <;> first | omega | (unfold slA; omega))
end Go.Proofs.Ytjclbdgjkecbeaa.AE
namespace Go.Proofs.Ytjclbdgjkecbeaa.AE
open Go Go.RowKit
set_option linter.unusedVariables false
set_option linter.unusedSimpArgs false
set_option maxRecDepth 20000
set_option maxHeartbeats 2000000
noncomputable section
def slotStep (g : D.Grid) (st : List D.Slot × Nat) (i : Nat) : List D.Slot × Nat :=
  let k := if 2 ≤ fromG g i false ∨ 2 ≤ fromG g i true then st.2 + 1 else st.2
  ((st.1 ++ (if 2 ≤ fromG g i false then [D.Slot.mk ((k : Nat) : Int) false ((i : Nat) : Int) ((fromG g i false : Nat) : Int)] else [])) ++ (if 2 ≤ fromG g i true then [D.Slot.mk ((k : Nat) : Int) true ((i : Nat) : Int) ((fromG g i true : Nat) : Int)] else []), k)
def slotsN (g : D.Grid) : Nat → List D.Slot × Nat
  | 0 => ([], 0)
  | i + 1 => slotStep g (slotsN g i) i
def slotsG (g : D.Grid) : List D.Slot := if gridOk g then (slotsN g g.Cells.size).1 else []
theorem slotsN1 (g : D.Grid) (i : Nat) : (slotsN g (i + 1)).1 = ((slotsN g i).1 ++ (if 2 ≤ fromG g i false then [D.Slot.mk (((slotsN g (i + 1)).2 : Nat) : Int) false ((i : Nat) : Int) ((fromG g i false : Nat) : Int)] else [])) ++ (if 2 ≤ fromG g i true then [D.Slot.mk (((slotsN g (i + 1)).2 : Nat) : Int) true ((i : Nat) : Int) ((fromG g i true : Nat) : Int)] else []) := rfl
theorem slotsN2 (g : D.Grid) (i : Nat) : (slotsN g (i + 1)).2 = if 2 ≤ fromG g i false ∨ 2 ≤ fromG g i true then (slotsN g i).2 + 1 else (slotsN g i).2 := rfl
theorem slotsN_bd (g : D.Grid) : ∀ i, (slotsN g i).2 ≤ i ∧ (slotsN g i).1.length ≤ 2 * i
  | 0 => ⟨Nat.le_refl _, Nat.le_refl _⟩
  | i + 1 => by
    have h := slotsN_bd g i
    rw [slotsN1, slotsN2]
    refine ⟨by split <;> omega, ?_⟩
    rw [List.length_append, List.length_append]
    have e : ∀ (c : Prop) [Decidable c] (x : D.Slot), (if c then [x] else []).length ≤ 1 := fun c _ x => by split <;> simp
    refine Nat.le_trans (Nat.add_le_add (Nat.add_le_add h.2 (e _ _)) (e _ _)) ?_
    omega
theorem slots_end {g : D.Grid} {i : Nat} (h1 : i ≤ g.Cells.size) (h2 : gridOk g ∨ i = 0) (h3 : ¬ i < g.Cells.size ∨ ¬ gridOk g) : (slotsN g i).1 = slotsG g := by
  unfold slotsG
  split
  · rename_i hh
    rcases h3 with h3 | h3
    · rw [show i = g.Cells.size by omega]
    · contradiction
  · rename_i hh
    rw [h2.resolve_left hh]
    rfl
theorem slotsG_no {g : D.Grid} (h : ¬ gridOk g) : slotsG g = [] := if_neg h
theorem slotsG_len (g : D.Grid) : (slotsG g).length ≤ 72 := by
  unfold slotsG
  split
  · rename_i hh
    have := hh.size
    have := (slotsN_bd g g.Cells.size).2
    omega
  · simp
end
theorem W_spec_SlotsOf (n : Nat) (g : D.Grid) (hc : g.Cells.size ≤ maxLen) : Pure (acall Try.prog (n + 3)) 33 [(T.agg (eGrid false g))] (T.sl true 4 ((slotsG g).map (eSlot true))) := by
  refine Pure.intro (rs := [ResultVar.tmp 2]) Try.func33 rfl rfl rfl (E0 := [(0, (T.agg (eGrid false g)))]) rfl ?_
  obtain ⟨hlim, hmx, hmax⟩ := lims
  refine sr (kO (B.box (ts := (eGrid false g)) (tv (T.agg (eGrid false g)) rfl) nofun rfl) (fO (OF.assign VEv.nils) (nt (sr (kO (OM.slice0 Try.underlying62 zo83 (by kernel_rfl) rfl (by rw [sz83]; decide) sz83) (aO (T.os 4 1 0 0) rfl (nt (sr (fO (OF.assign (VEv.int .i64 0)) (nt (sq ?_)))))))))))
  refine sr (fO (OF.assign (VEv.int .i64 0)) (nt (VRun.block ?_)))
  have he1 : [] = (((slotsN g 0).1).map (eSlot true)) := by first | rfl | (rw [slotsN1, slotsN2]; simp [*]; done) | (simp; done) | omega
  refine VRun.loop (A := Nat) (fun s_ => [(1, (T.op 0 0)), (2, T.nils), (3, (T.os 4 1 0 ((((slotsN g s_).1).map (eSlot true)).length))), (4, (tN ((slotsN g s_).2))), (5, (tN s_))]) (fun s_ => mkO [(0, (Obj.cells (eGrid false g))), (1, (Obj.rows 4 (((slotsN g s_).1).map (eSlot true))))]) 2 (fun s_ => s_ ≤ g.Cells.size ∧ (gridOk g ∨ s_ = 0)) (fun s_ => g.Cells.size - s_) (0 : Nat) ?_ (Wk.mk (fun k => k) ?_ ?_ ?_) ?_
  · exact ⟨Nat.zero_le _, .inr rfl⟩
  · exact (b2 (b2 (bc ⟨(congrArg (fun n_ => T.os 4 1 0 n_) (show 0 = (((slotsN g 0).1).map (eSlot true)).length from (by first | rfl | (simp only [List.length_map]; omega) | (simp only [List.length_map, List.length_set, List.length_append, List.length_take, List.length_replicate, List.length_cons, List.length_nil]; omega)))), rfl⟩ (bc ⟨(congrArg (T.int .i64) (show 0 = (((slotsN g 0).2 : Nat) : Int) from (by first | rfl | omega | (rw [slotsN2]; simp [*]; done) | (simp; done) | (push_cast; omega)))), rfl⟩ (b2 (bn))))))
  · exact (b3 (bc ⟨(congrArg (fun l_ => some (Obj.rows 4 l_)) he1), (lb rfl), rfl⟩ (bn)))
  · show List.Nodup ([0, 1] : List Nat)
    decide
  rintro i (hI' : i ≤ g.Cells.size ∧ (gridOk g ∨ i = 0))
  show VRun _ _ _ [(1, (T.op 0 0)), (2, T.nils), (3, (T.os 4 1 0 ((((slotsN g i).1).map (eSlot true)).length))), (4, (tN ((slotsN g i).2))), (5, (tN i))] (mkO [(0, (Obj.cells (eGrid false g))), (1, (Obj.rows 4 (((slotsN g i).1).map (eSlot true))))]) 2 _
  have hI1 := hI'.1
  have hbd := slotsN_bd g i
  refine sq (sr (mO (tN i) rfl (fO (OF.fieldAddrO (tv (T.op 0 0) rfl) fa29_2) (lO (OL.loadO1 (t := (tS g.Cells)) (tv (T.op 0 2) rfl) rfl rfl st9) (lO (B.lenS (tv (tS g.Cells) rfl) Try.underlying9) (fO (B.lss (c := (decide (i < g.Cells.size))) (tv (tN i) rfl) (tv (tN g.Cells.size) rfl) (by first | assumption | (exact (by assumption : gridOk g).size.2) | (exact decN (by omega)))) (mO (tB (decide (i < g.Cells.size))) rfl ?_)))))))
  refine gw (i < g.Cells.size) (fun fhg14_2 => ?_) fun fhg14_2 => ?_
  · refine gL (dy fhg14_2) rfl rfl (OL.loadOn (us := (eGrid false g)) (tv (T.op 0 0) rfl) rfl st29 sz29 (lb rfl) rfl) ?_
    refine VRunO.chain (VWant.on (b := (decide (i < g.Cells.size))) rfl rfl (dy fhg14_2)) (cS (vc (tv (T.agg (eGrid false g)) rfl) VEvs.nil) (LendL.cons (lg okeGrid) (LendL.nil)) (W_spec_IsGrid (n + 0) g (by first | assumption | (exact (by assumption : gridOk g).size.2) | assumption | omega)) rfl rfl) (fO (OF.pickT (VEv.tmpB (b := (decide (i < g.Cells.size))) rfl (dy fhg14_2)) (tv (tB (decide (gridOk g))) rfl)) (nt ?_))
    refine cd (gridOk g) rfl (fun fhc0 => ?_) fun fhc0 => ?_
    · have hgo : gridOk g := by assumption
      have hsz := hgo.size
      refine sk (tn (sq (VRun.block (sr (lO (OL.loadOn (us := (eGrid false g)) (tv (T.op 0 0) rfl) rfl st29 sz29 (lb rfl) rfl) (mO (tN i) rfl (cO (cS (vc (tv (T.agg (eGrid false g)) rfl) (vc (tv (tN i) rfl) (vc (VEv.bool false) VEvs.nil))) (LendL.cons (lg okeGrid) (lp rfl (lp rfl (LendL.nil)))) (W_spec_l8From (n + 1) g i false (by first | assumption | (exact (by assumption : gridOk g).size.2) | assumption | omega) (by first | assumption | (exact (by assumption : gridOk g).size.2) | assumption | omega)) rfl rfl) (aO (tN (fromG g i false)) rfl (nt (sr (lO (OL.loadOn (us := (eGrid false g)) (tv (T.op 0 0) rfl) rfl st29 sz29 (lb rfl) rfl) ?_)))))))))))
      refine mO (tN i) rfl (cO (cS (vc (tv (T.agg (eGrid false g)) rfl) (vc (tv (tN i) rfl) (vc (VEv.bool true) VEvs.nil))) (LendL.cons (lg okeGrid) (lp rfl (lp rfl (LendL.nil)))) (W_spec_l8From (n + 1) g i true (by first | assumption | (exact (by assumption : gridOk g).size.2) | assumption | omega) (by first | assumption | (exact (by assumption : gridOk g).size.2) | assumption | omega)) rfl rfl) (aO (tN (fromG g i true)) rfl (nt (sq (sr (mO (tN (fromG g i false)) rfl (fO (B.geq (c := (decide (2 ≤ fromG g i false))) (tv (tN (fromG g i false)) rfl) (VEv.int .i64 2) (by first | assumption | (exact (by assumption : gridOk g).size.2) | (exact decN (by omega)))) (mO (tB (decide (2 ≤ fromG g i false))) rfl ?_))))))))
      refine gw (2 ≤ fromG g i false) (fun fhg28_3 => ?_) fun fhg28_3 => ?_
      · refine oO rfl rfl (dy fhg28_3) ?_
        refine oO rfl rfl (dy fhg28_3) (fO (OF.pickT (VEv.tmpB (b := (decide (2 ≤ fromG g i false))) rfl (dy fhg28_3)) (VEv.bool true)) (nt ?_))
        refine VRun.cond (tv (tB true) rfl) (fun hk4 => ?_) (fun hk4 => ?_)
        · skip
          refine VRun.region (mO (tN ((slotsN g i).2)) rfl (fO (B.add (n := ((((slotsN g i).2 + 1) : Nat) : Int)) (tv (tN ((slotsN g i).2)) rfl) (VEv.int .i64 1) (by first | assumption | (exact (by assumption : gridOk g).size.2) | rfl | (rw [wrap64 (by omega)]; omega) | (rw [wrap64 (by omega)]; done))) (aO (tN ((slotsN g i).2 + 1)) rfl (VRunO.nil (tn (sq (sr (mO (tN (fromG g i false)) rfl (fO (B.geq (c := (decide (2 ≤ fromG g i false))) (tv (tN (fromG g i false)) rfl) (VEv.int .i64 2) (by first | assumption | (exact (by assumption : gridOk g).size.2) | (exact decN (by omega)))) (nt ?_))))))))))
          refine VRun.cond (tv (tB (decide (2 ≤ fromG g i false))) rfl) (fun hk5 => ?_) (fun hk5 => ?_)
          · skip
            refine VRun.region (mO (T.os 4 1 0 ((((slotsN g i).1).map (eSlot true)).length)) rfl (mO (tN ((slotsN g i).2 + 1)) rfl (mO (tN i) rfl (mO (tN (fromG g i false)) rfl (fO (OF.build (l := [(0, (tN ((slotsN g i).2 + 1))), (2, (tN i)), (3, (tN (fromG g i false)))]) (zs := [(tN 0), (tB false), (tN 0), (tN 0)]) (out := [(tN ((slotsN g i).2 + 1)), (tB false), (tN i), (tN (fromG g i false))]) (VEvp.cons (i := 0) (tv (tN ((slotsN g i).2 + 1)) rfl) (VEvp.cons (i := 2) (tv (tN i) rfl) (VEvp.cons (i := 3) (tv (tN (fromG g i false)) rfl) VEvp.nil))) (bc nofun (bc nofun (bc nofun (bn)))) Try.underlying83 zo83 (fun _ => RL.cons (.int _ _) (RL.cons (.bool _) (RL.cons (.int _ _) (RL.cons (.int _ _) (RL.nil _))))) (by kernel_rfl) (by kernel_rfl)) (kO (OM.buildSlice (l := [(T.agg [(tN ((slotsN g i).2 + 1)), (tB false), (tN i), (tN (fromG g i false))])]) (VEvp.cons (tv (T.agg [(tN ((slotsN g i).2 + 1)), (tB false), (tN i), (tN (fromG g i false))]) rfl) VEvp.nil) rfl (by decide) (bc (nofun) (bn)) (bc ((bc (rfl) (bc (rfl) (bc (rfl) (bc (rfl) (bn)))))) (bn)) (bc (rfl) (bn)) Try.underlying62 zo83 (by kernel_rfl) rfl (by rw [sz83]; decide) sz83 (Nat.le_of_ble_eq_true rfl)) (cO (B.append (rows := (((slotsN g i).1).map (eSlot true))) (rows2 := [[(tN ((slotsN g i).2 + 1)), (tB false), (tN i), (tN (fromG g i false))]]) (rows3 := (((slotsN g i).1 ++ [(D.Slot.mk ((((slotsN g i).2 + 1) : Nat) : Int) false ((i : Nat) : Int) ((fromG g i false : Nat) : Int))]).map (eSlot true))) (VDst.own (tv (T.os 4 1 0 ((((slotsN g i).1).map (eSlot true)).length)) rfl) rfl rfl) (VSrc.own (tv (T.os 4 2 0 1) rfl) rfl rfl Try.underlying62 (bc (bc rfl (bc rfl (bc rfl (bc rfl (bn))))) (bn))) (by decide) Try.underlying62 sz83 (by decide) zo83 rfl (of_decide_eq_true (by kernel_rfl)) (by first | assumption | (exact (by assumption : gridOk g).size.2) | omega | (simp only [List.length_map]; omega) | (simp only [List.length_map, List.length_append, List.length_cons, List.length_nil, List.length_replicate, List.length_set, List.length_drop, List.length_take, lim] at *; omega)) ((List.map_append (f := eSlot true) (l₁ := (slotsN g i).1) (l₂ := [(D.Slot.mk ((((slotsN g i).2 + 1) : Nat) : Int) false ((i : Nat) : Int) ((fromG g i false : Nat) : Int))])).symm)) (aO (T.os 4 3 0 ((((slotsN g i).1 ++ [(D.Slot.mk ((((slotsN g i).2 + 1) : Nat) : Int) false ((i : Nat) : Int) ((fromG g i false : Nat) : Int))]).map (eSlot true)).length)) rfl (VRunO.nil (tn (sr ?_)))))))))))
            refine mO (tN (fromG g i true)) rfl (fO (B.geq (c := (decide (2 ≤ fromG g i true))) (tv (tN (fromG g i true)) rfl) (VEv.int .i64 2) (by first | assumption | (exact (by assumption : gridOk g).size.2) | (exact decN (by omega)))) (nt ?_))
            refine cd (2 ≤ fromG g i true) rfl (fun fhc3 => ?_) fun fhc3 => ?_
            · refine VRun.region ?_
              refine mO (T.os 4 3 0 ((((slotsN g i).1 ++ [(D.Slot.mk ((((slotsN g i).2 + 1) : Nat) : Int) false ((i : Nat) : Int) ((fromG g i false : Nat) : Int))]).map (eSlot true)).length)) rfl (mO (tN ((slotsN g i).2 + 1)) rfl (mO (tN i) rfl (mO (tN (fromG g i true)) rfl (fO (OF.build (l := [(0, (tN ((slotsN g i).2 + 1))), (1, (tB true)), (2, (tN i)), (3, (tN (fromG g i true)))]) (zs := [(tN 0), (tB false), (tN 0), (tN 0)]) (out := [(tN ((slotsN g i).2 + 1)), (tB true), (tN i), (tN (fromG g i true))]) (VEvp.cons (i := 0) (tv (tN ((slotsN g i).2 + 1)) rfl) (VEvp.cons (i := 1) (VEv.bool true) (VEvp.cons (i := 2) (tv (tN i) rfl) (VEvp.cons (i := 3) (tv (tN (fromG g i true)) rfl) VEvp.nil)))) (bc nofun (bc nofun (bc nofun (bc nofun (bn))))) Try.underlying83 zo83 (fun _ => RL.cons (.int _ _) (RL.cons (.bool _) (RL.cons (.int _ _) (RL.cons (.int _ _) (RL.nil _))))) (by kernel_rfl) (by kernel_rfl)) (kO (OM.buildSlice (l := [(T.agg [(tN ((slotsN g i).2 + 1)), (tB true), (tN i), (tN (fromG g i true))])]) (VEvp.cons (tv (T.agg [(tN ((slotsN g i).2 + 1)), (tB true), (tN i), (tN (fromG g i true))]) rfl) VEvp.nil) rfl (by decide) (bc (nofun) (bn)) (bc ((bc (rfl) (bc (rfl) (bc (rfl) (bc (rfl) (bn)))))) (bn)) (bc (rfl) (bn)) Try.underlying62 zo83 (by kernel_rfl) rfl (by rw [sz83]; decide) sz83 (Nat.le_of_ble_eq_true rfl)) (cO (B.append (rows := (((slotsN g i).1 ++ [(D.Slot.mk ((((slotsN g i).2 + 1) : Nat) : Int) false ((i : Nat) : Int) ((fromG g i false : Nat) : Int))]).map (eSlot true))) (rows2 := [[(tN ((slotsN g i).2 + 1)), (tB true), (tN i), (tN (fromG g i true))]]) (rows3 := ((((slotsN g i).1 ++ [(D.Slot.mk ((((slotsN g i).2 + 1) : Nat) : Int) false ((i : Nat) : Int) ((fromG g i false : Nat) : Int))]) ++ [(D.Slot.mk ((((slotsN g i).2 + 1) : Nat) : Int) true ((i : Nat) : Int) ((fromG g i true : Nat) : Int))]).map (eSlot true))) (VDst.own (tv (T.os 4 3 0 ((((slotsN g i).1 ++ [(D.Slot.mk ((((slotsN g i).2 + 1) : Nat) : Int) false ((i : Nat) : Int) ((fromG g i false : Nat) : Int))]).map (eSlot true)).length)) rfl) rfl rfl) (VSrc.own (tv (T.os 4 4 0 1) rfl) rfl rfl Try.underlying62 (bc (bc rfl (bc rfl (bc rfl (bc rfl (bn))))) (bn))) (by decide) Try.underlying62 sz83 (by decide) zo83 rfl (of_decide_eq_true (by kernel_rfl)) (by first | assumption | (exact (by assumption : gridOk g).size.2) | omega | (simp only [List.length_map]; omega) | (simp only [List.length_map, List.length_append, List.length_cons, List.length_nil, List.length_replicate, List.length_set, List.length_drop, List.length_take, lim] at *; omega)) ((List.map_append (f := eSlot true) (l₁ := ((slotsN g i).1 ++ [(D.Slot.mk ((((slotsN g i).2 + 1) : Nat) : Int) false ((i : Nat) : Int) ((fromG g i false : Nat) : Int))])) (l₂ := [(D.Slot.mk ((((slotsN g i).2 + 1) : Nat) : Int) true ((i : Nat) : Int) ((fromG g i true : Nat) : Int))])).symm)) (aO (T.os 4 5 0 (((((slotsN g i).1 ++ [(D.Slot.mk ((((slotsN g i).2 + 1) : Nat) : Int) false ((i : Nat) : Int) ((fromG g i false : Nat) : Int))]) ++ [(D.Slot.mk ((((slotsN g i).2 + 1) : Nat) : Int) true ((i : Nat) : Int) ((fromG g i true : Nat) : Int))]).map (eSlot true)).length)) rfl ?_)))))))
              refine VRunO.nil (vinB.n (tn (VRun.region (mO (tN i) rfl (fO (B.add (n := (((i + 1) : Nat) : Int)) (tv (tN i) rfl) (VEv.int .i64 1) (by first | assumption | (exact (by assumption : gridOk g).size.2) | rfl | (rw [wrap64 (by omega)]; omega) | (rw [wrap64 (by omega)]; done))) (aO (tN (i + 1)) rfl (VRunO.nil (tn ?_))))))))
              have hgo : gridOk g := by assumption
              have he6 : (((slotsN g i).1 ++ [(D.Slot.mk ((((slotsN g i).2 + 1) : Nat) : Int) false ((i : Nat) : Int) ((fromG g i false : Nat) : Int))]) ++ [(D.Slot.mk ((((slotsN g i).2 + 1) : Nat) : Int) true ((i : Nat) : Int) ((fromG g i true : Nat) : Int))]) = (slotsN g (i + 1)).1 := by first | rfl | (rw [slotsN1, slotsN2]; simp [*]; done) | (simp; done) | omega
              refine ⟨(i + 1 : Nat), ?_, ?_, Wk.mk (fun k => if k = 1 then 5 else  k) ?_ ?_ ?_⟩
              · exact ⟨by omega, .inl hgo⟩
              · first | omega | (simp only []; omega) | (show _ < _; omega) | (simp; omega)
              · exact (b2 (b2 (bc ⟨(congrArg (fun l_ => T.os 4 5 0 (List.map (eSlot true) l_).length) he6), rfl⟩ (bc ⟨(congrArg (T.int .i64) (show ((((slotsN g i).2 + 1) : Nat) : Int) = (((slotsN g (i + 1)).2 : Nat) : Int) from (by first | rfl | omega | (rw [slotsN2]; simp [*]; done) | (simp; done) | (push_cast; omega)))), rfl⟩ (b2 (bn))))))
              · exact (b3 (bc ⟨(congrArg (fun l_ => some (Obj.rows 4 (List.map (eSlot true) l_))) he6), (lb rfl), rfl⟩ (bn)))
              · show List.Nodup ([0, 5] : List Nat)
                decide
            refine sk (vinB.n (tn (VRun.region (mO (tN i) rfl (fO (B.add (n := (((i + 1) : Nat) : Int)) (tv (tN i) rfl) (VEv.int .i64 1) (by first | assumption | (exact (by assumption : gridOk g).size.2) | rfl | (rw [wrap64 (by omega)]; omega) | (rw [wrap64 (by omega)]; done))) (aO (tN (i + 1)) rfl (VRunO.nil (tn ?_))))))))
            have hgo : gridOk g := by assumption
            have he7 : ((slotsN g i).1 ++ [(D.Slot.mk ((((slotsN g i).2 + 1) : Nat) : Int) false ((i : Nat) : Int) ((fromG g i false : Nat) : Int))]) = (slotsN g (i + 1)).1 := by first | rfl | (rw [slotsN1, slotsN2]; simp [*]; done) | (simp; done) | omega
            refine ⟨(i + 1 : Nat), ?_, ?_, Wk.mk (fun k => if k = 1 then 3 else  k) ?_ ?_ ?_⟩
            · exact ⟨by omega, .inl hgo⟩
            · first | omega | (simp only []; omega) | (show _ < _; omega) | (simp; omega)
            · exact (b2 (b2 (bc ⟨(congrArg (fun l_ => T.os 4 3 0 (List.map (eSlot true) l_).length) he7), rfl⟩ (bc ⟨(congrArg (T.int .i64) (show ((((slotsN g i).2 + 1) : Nat) : Int) = (((slotsN g (i + 1)).2 : Nat) : Int) from (by first | rfl | omega | (rw [slotsN2]; simp [*]; done) | (simp; done) | (push_cast; omega)))), rfl⟩ (b2 (bn))))))
            · exact (b3 (bc ⟨(congrArg (fun l_ => some (Obj.rows 4 (List.map (eSlot true) l_))) he7), (lb rfl), rfl⟩ (bn)))
            · show List.Nodup ([0, 3] : List Nat)
              decide
          · exact absurd ((dy fhg28_3).symm.trans hk5) (by decide)
        · exact absurd (rfl.symm.trans hk4) (by decide)
      refine gF (dz fhg28_3) rfl rfl (OF.move (tv (tN (fromG g i true)) rfl)) (gF (dz fhg28_3) rfl rfl (B.geq (c := (decide (2 ≤ fromG g i true))) (tv (tN (fromG g i true)) rfl) (VEv.int .i64 2) (by first | assumption | (exact (by assumption : gridOk g).size.2) | (exact decN (by omega)))) (fO (OF.pickF (VEv.tmpB (b := (decide (2 ≤ fromG g i false))) rfl (dz fhg28_3)) (tv (tB (decide (2 ≤ fromG g i true))) rfl)) (nt ?_)))
      refine cd (2 ≤ fromG g i true) rfl (fun fhc1 => ?_) fun fhc1 => ?_
      · refine VRun.region ?_
        refine mO (tN ((slotsN g i).2)) rfl (fO (B.add (n := ((((slotsN g i).2 + 1) : Nat) : Int)) (tv (tN ((slotsN g i).2)) rfl) (VEv.int .i64 1) (by first | assumption | (exact (by assumption : gridOk g).size.2) | rfl | (rw [wrap64 (by omega)]; omega) | (rw [wrap64 (by omega)]; done))) (aO (tN ((slotsN g i).2 + 1)) rfl (VRunO.nil (tn (sq (sr (mO (tN (fromG g i false)) rfl (fO (B.geq (c := (decide (2 ≤ fromG g i false))) (tv (tN (fromG g i false)) rfl) (VEv.int .i64 2) (by first | assumption | (exact (by assumption : gridOk g).size.2) | (exact decN (by omega)))) (nt ?_)))))))))
        refine VRun.cond (tv (tB (decide (2 ≤ fromG g i false))) rfl) (fun hk8 => ?_) (fun hk8 => ?_)
        · exact absurd ((dz fhg28_3).symm.trans hk8) (by decide)
        · skip
          refine sk (tn (sr (mO (tN (fromG g i true)) rfl (fO (B.geq (c := (decide (2 ≤ fromG g i true))) (tv (tN (fromG g i true)) rfl) (VEv.int .i64 2) (by first | assumption | (exact (by assumption : gridOk g).size.2) | (exact decN (by omega)))) (nt ?_)))))
          refine VRun.cond (tv (tB (decide (2 ≤ fromG g i true))) rfl) (fun hk9 => ?_) (fun hk9 => ?_)
          · skip
            refine VRun.region (mO (T.os 4 1 0 ((((slotsN g i).1).map (eSlot true)).length)) rfl (mO (tN ((slotsN g i).2 + 1)) rfl (mO (tN i) rfl (mO (tN (fromG g i true)) rfl (fO (OF.build (l := [(0, (tN ((slotsN g i).2 + 1))), (1, (tB true)), (2, (tN i)), (3, (tN (fromG g i true)))]) (zs := [(tN 0), (tB false), (tN 0), (tN 0)]) (out := [(tN ((slotsN g i).2 + 1)), (tB true), (tN i), (tN (fromG g i true))]) (VEvp.cons (i := 0) (tv (tN ((slotsN g i).2 + 1)) rfl) (VEvp.cons (i := 1) (VEv.bool true) (VEvp.cons (i := 2) (tv (tN i) rfl) (VEvp.cons (i := 3) (tv (tN (fromG g i true)) rfl) VEvp.nil)))) (bc nofun (bc nofun (bc nofun (bc nofun (bn))))) Try.underlying83 zo83 (fun _ => RL.cons (.int _ _) (RL.cons (.bool _) (RL.cons (.int _ _) (RL.cons (.int _ _) (RL.nil _))))) (by kernel_rfl) (by kernel_rfl)) (kO (OM.buildSlice (l := [(T.agg [(tN ((slotsN g i).2 + 1)), (tB true), (tN i), (tN (fromG g i true))])]) (VEvp.cons (tv (T.agg [(tN ((slotsN g i).2 + 1)), (tB true), (tN i), (tN (fromG g i true))]) rfl) VEvp.nil) rfl (by decide) (bc (nofun) (bn)) (bc ((bc (rfl) (bc (rfl) (bc (rfl) (bc (rfl) (bn)))))) (bn)) (bc (rfl) (bn)) Try.underlying62 zo83 (by kernel_rfl) rfl (by rw [sz83]; decide) sz83 (Nat.le_of_ble_eq_true rfl)) (cO (B.append (rows := (((slotsN g i).1).map (eSlot true))) (rows2 := [[(tN ((slotsN g i).2 + 1)), (tB true), (tN i), (tN (fromG g i true))]]) (rows3 := (((slotsN g i).1 ++ [(D.Slot.mk ((((slotsN g i).2 + 1) : Nat) : Int) true ((i : Nat) : Int) ((fromG g i true : Nat) : Int))]).map (eSlot true))) (VDst.own (tv (T.os 4 1 0 ((((slotsN g i).1).map (eSlot true)).length)) rfl) rfl rfl) (VSrc.own (tv (T.os 4 2 0 1) rfl) rfl rfl Try.underlying62 (bc (bc rfl (bc rfl (bc rfl (bc rfl (bn))))) (bn))) (by decide) Try.underlying62 sz83 (by decide) zo83 rfl (of_decide_eq_true (by kernel_rfl)) (by first | assumption | (exact (by assumption : gridOk g).size.2) | omega | (simp only [List.length_map]; omega) | (simp only [List.length_map, List.length_append, List.length_cons, List.length_nil, List.length_replicate, List.length_set, List.length_drop, List.length_take, lim] at *; omega)) ((List.map_append (f := eSlot true) (l₁ := (slotsN g i).1) (l₂ := [(D.Slot.mk ((((slotsN g i).2 + 1) : Nat) : Int) true ((i : Nat) : Int) ((fromG g i true : Nat) : Int))])).symm)) (aO (T.os 4 3 0 ((((slotsN g i).1 ++ [(D.Slot.mk ((((slotsN g i).2 + 1) : Nat) : Int) true ((i : Nat) : Int) ((fromG g i true : Nat) : Int))]).map (eSlot true)).length)) rfl (VRunO.nil (vinB.n (tn ?_)))))))))))
            refine VRun.region (mO (tN i) rfl (fO (B.add (n := (((i + 1) : Nat) : Int)) (tv (tN i) rfl) (VEv.int .i64 1) (by first | assumption | (exact (by assumption : gridOk g).size.2) | rfl | (rw [wrap64 (by omega)]; omega) | (rw [wrap64 (by omega)]; done))) (aO (tN (i + 1)) rfl (VRunO.nil (tn ?_)))))
            have hgo : gridOk g := by assumption
            have he10 : ((slotsN g i).1 ++ [(D.Slot.mk ((((slotsN g i).2 + 1) : Nat) : Int) true ((i : Nat) : Int) ((fromG g i true : Nat) : Int))]) = (slotsN g (i + 1)).1 := by first | rfl | (rw [slotsN1, slotsN2]; simp [*]; done) | (simp; done) | omega
            refine ⟨(i + 1 : Nat), ?_, ?_, Wk.mk (fun k => if k = 1 then 3 else  k) ?_ ?_ ?_⟩
            · exact ⟨by omega, .inl hgo⟩
            · first | omega | (simp only []; omega) | (show _ < _; omega) | (simp; omega)
            · exact (b2 (b2 (bc ⟨(congrArg (fun l_ => T.os 4 3 0 (List.map (eSlot true) l_).length) he10), rfl⟩ (bc ⟨(congrArg (T.int .i64) (show ((((slotsN g i).2 + 1) : Nat) : Int) = (((slotsN g (i + 1)).2 : Nat) : Int) from (by first | rfl | omega | (rw [slotsN2]; simp [*]; done) | (simp; done) | (push_cast; omega)))), rfl⟩ (b2 (bn))))))
            · exact (b3 (bc ⟨(congrArg (fun l_ => some (Obj.rows 4 (List.map (eSlot true) l_))) he10), (lb rfl), rfl⟩ (bn)))
            · show List.Nodup ([0, 3] : List Nat)
              decide
          · exact absurd ((dy fhc1).symm.trans hk9) (by decide)
      refine sk (tn (sq (sr (mO (tN (fromG g i false)) rfl (fO (B.geq (c := (decide (2 ≤ fromG g i false))) (tv (tN (fromG g i false)) rfl) (VEv.int .i64 2) (by first | assumption | (exact (by assumption : gridOk g).size.2) | (exact decN (by omega)))) (nt ?_))))))
      refine VRun.cond (tv (tB (decide (2 ≤ fromG g i false))) rfl) (fun hk11 => ?_) (fun hk11 => ?_)
      · exact absurd ((dz fhg28_3).symm.trans hk11) (by decide)
      · skip
        refine sk (tn (sr (mO (tN (fromG g i true)) rfl (fO (B.geq (c := (decide (2 ≤ fromG g i true))) (tv (tN (fromG g i true)) rfl) (VEv.int .i64 2) (by first | assumption | (exact (by assumption : gridOk g).size.2) | (exact decN (by omega)))) (nt ?_)))))
        refine VRun.cond (tv (tB (decide (2 ≤ fromG g i true))) rfl) (fun hk12 => ?_) (fun hk12 => ?_)
        · exact absurd ((dz fhc1).symm.trans hk12) (by decide)
        · skip
          refine sk (vinB.n (tn (VRun.region (mO (tN i) rfl (fO (B.add (n := (((i + 1) : Nat) : Int)) (tv (tN i) rfl) (VEv.int .i64 1) (by first | assumption | (exact (by assumption : gridOk g).size.2) | rfl | (rw [wrap64 (by omega)]; omega) | (rw [wrap64 (by omega)]; done))) (aO (tN (i + 1)) rfl (VRunO.nil (tn ?_))))))))
          have hgo : gridOk g := by assumption
          have he13 : (slotsN g i).1 = (slotsN g (i + 1)).1 := by first | rfl | (rw [slotsN1, slotsN2]; simp [*]; done) | (simp; done) | omega
          refine ⟨(i + 1 : Nat), ?_, ?_, Wk.mk (fun k => k) ?_ ?_ ?_⟩
          · exact ⟨by omega, .inl hgo⟩
          · first | omega | (simp only []; omega) | (show _ < _; omega) | (simp; omega)
          · exact (b2 (b2 (bc ⟨(congrArg (fun l_ => T.os 4 1 0 (List.map (eSlot true) l_).length) he13), rfl⟩ (bc ⟨(congrArg (T.int .i64) (show (((slotsN g i).2 : Nat) : Int) = (((slotsN g (i + 1)).2 : Nat) : Int) from (by first | rfl | omega | (rw [slotsN2]; simp [*]; done) | (simp; done) | (push_cast; omega)))), rfl⟩ (b2 (bn))))))
          · exact (b3 (bc ⟨(congrArg (fun l_ => some (Obj.rows 4 (List.map (eSlot true) l_))) he13), (lb rfl), rfl⟩ (bn)))
          · show List.Nodup ([0, 1] : List Nat)
            decide
    refine VRun.exit (vthn.e (vthn.e (vinB.e (tn (sr (mO (T.os 4 1 0 ((((slotsN g i).1).map (eSlot true)).length)) rfl (aO (T.os 4 1 0 ((((slotsN g i).1).map (eSlot true)).length)) rfl (nt (rt ?_)))))))))
    refine vfin.eq (r' := (T.sl true 4 (((slotsN g i).1).map (eSlot true)))) ?_ (vfin.r (VRes.tmp (t := (T.os 4 1 0 ((((slotsN g i).1).map (eSlot true)).length))) rfl VRes.nil) (Give.os rfl rfl (okeSlot.cleanMap _)))
    show (T.sl true 4 (((slotsN g i).1).map (eSlot true))) = (T.sl true 4 ((slotsG g).map (eSlot true)))
    refine congrArg (fun l_ => T.sl true 4 (List.map (eSlot true) l_)) ?_
    refine slots_end hI1 hI'.2 ?_; first | (left; assumption) | (right; assumption)
  refine oO rfl rfl (dz fhg14_2) (oO rfl rfl (dz fhg14_2) (fO (OF.pickF (VEv.tmpB (b := (decide (i < g.Cells.size))) rfl (dz fhg14_2)) (VEv.bool false)) (nt ?_)))
  refine VRun.cond (tv (tB false) rfl) (fun hk14 => ?_) (fun hk14 => ?_)
  · exact absurd (rfl.symm.trans hk14) (by decide)
  · skip
    refine VRun.exit (vthn.e (vthn.e (vinB.e (tn (sr (mO (T.os 4 1 0 ((((slotsN g i).1).map (eSlot true)).length)) rfl (aO (T.os 4 1 0 ((((slotsN g i).1).map (eSlot true)).length)) rfl (nt (rt ?_)))))))))
    refine vfin.eq (r' := (T.sl true 4 (((slotsN g i).1).map (eSlot true)))) ?_ (vfin.r (VRes.tmp (t := (T.os 4 1 0 ((((slotsN g i).1).map (eSlot true)).length))) rfl VRes.nil) (Give.os rfl rfl (okeSlot.cleanMap _)))
    show (T.sl true 4 (((slotsN g i).1).map (eSlot true))) = (T.sl true 4 ((slotsG g).map (eSlot true)))
    refine congrArg (fun l_ => T.sl true 4 (List.map (eSlot true) l_)) ?_
    refine slots_end hI1 hI'.2 ?_; first | (left; assumption) | (right; assumption)
theorem W_impl_SlotsOf (n : Nat) (g : D.Grid) (hc : g.Cells.size ≤ maxLen) : Pure (acall Try.prog (n + 3)) 39 [(T.agg (eGrid false g))] (T.sl true 4 ((slotsG g).map (eSlot true))) := by
  refine Pure.intro (rs := [ResultVar.tmp 2]) Try.func39 rfl rfl rfl (E0 := [(0, (T.agg (eGrid false g)))]) rfl ?_
  obtain ⟨hlim, hmx, hmax⟩ := lims
  refine sr (kO (B.box (ts := (eGrid false g)) (tv (T.agg (eGrid false g)) rfl) nofun rfl) (fO (OF.assign VEv.nils) (nt (sq (sr (lO (OL.loadOn (us := (eGrid false g)) (tv (T.op 0 0) rfl) rfl st29 sz29 (lb rfl) rfl) (cO (cS (vc (tv (T.agg (eGrid false g)) rfl) VEvs.nil) (LendL.cons (lg okeGrid) (LendL.nil)) (W_impl_IsGrid (n + 0) g (by first | assumption | assumption | omega)) rfl rfl) (fO (B.not (c := (!(decide (gridOk g)))) (tv (tB (decide (gridOk g))) rfl) rfl) (nt ?_)))))))))
  refine cn (gridOk g) rfl (fun fhc0 => ?_) fun fhc0 => ?_
  · refine sr ?_
    refine fO (OF.assign VEv.nils) (nt (rt (tr ?_)))
    refine vfin.eq (r' := (T.sl true 4 [])) ?_ (vfin.r (VRes.tmp (t := T.nils) rfl VRes.nil) (Give.nils 4))
    show (T.sl true 4 []) = (T.sl true 4 ((slotsG g).map (eSlot true)))
    refine congrArg (fun l_ => T.sl true 4 (List.map (eSlot true) l_)) (a₁ := []) ?_
    exact (slotsG_no fhc0).symm
  refine sk (tn (sr (fO (OF.assign VEv.nils) (nt (sr (fO (OF.assign (VEv.int .i64 0)) (nt (sq (sr (fO (OF.fieldAddrO (tv (T.op 0 0) rfl) fa29_2) (lO (OL.loadO1 (t := (tS g.Cells)) (tv (T.op 0 2) rfl) rfl rfl st9) ?_)))))))))))
  refine lO (B.lenS (tv (tS g.Cells) rfl) Try.underlying9) (fO (OF.move (VEv.int .i64 0)) (nt (VRun.block (VRun.wk (Wk.phantom 3 4 rfl) ?_))))
  have he1 : [] = (((slotsN g 0).1).map (eSlot true)) := by first | rfl | (rw [slotsN1, slotsN2]; simp [*]; done) | (simp; done) | omega
  refine VRun.loop (A := Nat) (fun s_ => [(1, (T.op 0 0)), (2, T.nils), (3, (T.os 4 1 0 ((((slotsN g s_).1).map (eSlot true)).length))), (4, (tN ((slotsN g s_).2))), (13, (tN g.Cells.size)), (14, (tN s_))]) (fun s_ => mkO [(0, (Obj.cells (eGrid false g))), (1, (Obj.rows 4 (((slotsN g s_).1).map (eSlot true))))]) 2 (fun s_ => s_ ≤ g.Cells.size) (fun s_ => g.Cells.size - s_) (0 : Nat) ?_ (Wk.mk (fun k => k) ?_ ?_ ?_) ?_
  · first | trivial | (simp; done) | omega | (constructor <;> simp)
  · exact (b2 (b2 (bc ⟨(congrArg (fun n_ => T.os 4 1 0 n_) (show 0 = (((slotsN g 0).1).map (eSlot true)).length from (by first | rfl | (simp only [List.length_map]; omega) | (simp only [List.length_map, List.length_set, List.length_append, List.length_take, List.length_replicate, List.length_cons, List.length_nil]; omega)))), rfl⟩ (bc ⟨(congrArg (T.int .i64) (show 0 = (((slotsN g 0).2 : Nat) : Int) from (by first | rfl | omega | (rw [slotsN2]; simp [*]; done) | (simp; done) | (push_cast; omega)))), rfl⟩ (b2 (b2 (bn)))))))
  · exact (b3 (bc ⟨(congrArg (fun l_ => some (Obj.rows 4 l_)) he1), (lb rfl), rfl⟩ (bn)))
  · show List.Nodup ([0, 1] : List Nat)
    decide
  rintro i (hI' : i ≤ g.Cells.size)
  show VRun _ _ _ [(1, (T.op 0 0)), (2, T.nils), (3, (T.os 4 1 0 ((((slotsN g i).1).map (eSlot true)).length))), (4, (tN ((slotsN g i).2))), (13, (tN g.Cells.size)), (14, (tN i))] (mkO [(0, (Obj.cells (eGrid false g))), (1, (Obj.rows 4 (((slotsN g i).1).map (eSlot true))))]) 2 _
  have hI1 := hI'
  have hbd := slotsN_bd g i
  have hgo : gridOk g := by assumption
  have hsz := hgo.size
  refine sr (fO (B.lss (c := (decide (i < g.Cells.size))) (tv (tN i) rfl) (tv (tN g.Cells.size) rfl) (by first | assumption | (exact decN (by omega)))) (nt (sq ?_)))
  refine cd (i < g.Cells.size) rfl (fun fhc1 => ?_) fun fhc1 => ?_
  · refine sk ?_
    refine tn (sq (VRun.block (sr (mO (tN i) rfl (aO (tN i) rfl (nt (sq (VRun.draw (B := [[], [], [1, 0], [], [], [0, 1, 2, 4, 3], [3, 4, 5, 0, 1, 2], [6, 3, 4, 2, 1, 0, 5]]) (by kernel_rfl) (by kernel_rfl) (lD (OL.loadOn (us := (eGrid false g)) (tv (T.op 0 0) rfl) rfl st29 sz29 (lb rfl) rfl) rfl rfl (mD (tN i) rfl rfl (VRunD.quiet (bi := [1, 0]) rfl VWant.always rfl rfl rfl (bn) (cS (vc (tv (T.agg (eGrid false g)) rfl) (vc (tv (tN i) rfl) (vc (VEv.bool false) VEvs.nil))) (LendL.cons (lg okeGrid) (lp rfl (lp rfl (LendL.nil)))) (W_impl_run (n + 1) g i false (by first | assumption | assumption | omega) (by first | assumption | assumption | omega)) rfl rfl) ?_)))))))))))
    refine lD (OL.loadOn (us := (eGrid false g)) (tv (T.op 0 0) rfl) rfl st29 sz29 (lb rfl) rfl) rfl rfl (mD (tN i) rfl rfl (VRunD.quiet (bi := [0, 1, 2, 4, 3]) rfl VWant.always rfl rfl rfl (bn) (cS (vc (tv (T.agg (eGrid false g)) rfl) (vc (tv (tN i) rfl) (vc (VEv.bool true) VEvs.nil))) (LendL.cons (lg okeGrid) (lp rfl (lp rfl (LendL.nil)))) (W_impl_run (n + 1) g i true (by first | assumption | assumption | omega) (by first | assumption | assumption | omega)) rfl rfl) (fD (OF.assign (tv (tN (fromG g i false)) rfl)) rfl rfl (fD (OF.assign (tv (tN (fromG g i true)) rfl)) rfl rfl (VRunD.nil (tn (sq (sr (mO (tN (fromG g i false)) rfl (fO (B.geq (c := (decide (2 ≤ fromG g i false))) (tv (tN (fromG g i false)) rfl) (VEv.int .i64 2) (by first | assumption | (exact decN (by omega)))) (mO (tB (decide (2 ≤ fromG g i false))) rfl ?_)))))))))))
    refine gw (2 ≤ fromG g i false) (fun fhg25_2 => ?_) fun fhg25_2 => ?_
    · refine oO rfl rfl (dy fhg25_2) ?_
      refine oO rfl rfl (dy fhg25_2) (fO (OF.pickT (VEv.tmpB (b := (decide (2 ≤ fromG g i false))) rfl (dy fhg25_2)) (VEv.bool true)) (nt ?_))
      refine VRun.cond (tv (tB true) rfl) (fun hk3 => ?_) (fun hk3 => ?_)
      · skip
        refine VRun.region (mO (tN ((slotsN g i).2)) rfl (fO (B.add (n := ((((slotsN g i).2 + 1) : Nat) : Int)) (tv (tN ((slotsN g i).2)) rfl) (VEv.int .i64 1) (by first | assumption | rfl | (rw [wrap64 (by omega)]; omega) | (rw [wrap64 (by omega)]; done))) (aO (tN ((slotsN g i).2 + 1)) rfl (VRunO.nil (tn (sq (sr (mO (tN (fromG g i false)) rfl (fO (B.geq (c := (decide (2 ≤ fromG g i false))) (tv (tN (fromG g i false)) rfl) (VEv.int .i64 2) (by first | assumption | (exact decN (by omega)))) (nt ?_))))))))))
        refine VRun.cond (tv (tB (decide (2 ≤ fromG g i false))) rfl) (fun hk4 => ?_) (fun hk4 => ?_)
        · skip
          refine VRun.region (mO (T.os 4 1 0 ((((slotsN g i).1).map (eSlot true)).length)) rfl (mO (tN ((slotsN g i).2 + 1)) rfl (mO (tN i) rfl (mO (tN (fromG g i false)) rfl (fO (OF.build (l := [(0, (tN ((slotsN g i).2 + 1))), (1, (tB false)), (2, (tN i)), (3, (tN (fromG g i false)))]) (zs := [(tN 0), (tB false), (tN 0), (tN 0)]) (out := [(tN ((slotsN g i).2 + 1)), (tB false), (tN i), (tN (fromG g i false))]) (VEvp.cons (i := 0) (tv (tN ((slotsN g i).2 + 1)) rfl) (VEvp.cons (i := 1) (VEv.bool false) (VEvp.cons (i := 2) (tv (tN i) rfl) (VEvp.cons (i := 3) (tv (tN (fromG g i false)) rfl) VEvp.nil)))) (bc nofun (bc nofun (bc nofun (bc nofun (bn))))) Try.underlying83 zo83 (fun _ => RL.cons (.int _ _) (RL.cons (.bool _) (RL.cons (.int _ _) (RL.cons (.int _ _) (RL.nil _))))) (by kernel_rfl) (by kernel_rfl)) (kO (OM.buildSlice (l := [(T.agg [(tN ((slotsN g i).2 + 1)), (tB false), (tN i), (tN (fromG g i false))])]) (VEvp.cons (tv (T.agg [(tN ((slotsN g i).2 + 1)), (tB false), (tN i), (tN (fromG g i false))]) rfl) VEvp.nil) rfl (by decide) (bc (nofun) (bn)) (bc ((bc (rfl) (bc (rfl) (bc (rfl) (bc (rfl) (bn)))))) (bn)) (bc (rfl) (bn)) Try.underlying62 zo83 (by kernel_rfl) rfl (by rw [sz83]; decide) sz83 (Nat.le_of_ble_eq_true rfl)) (cO (B.append (rows := (((slotsN g i).1).map (eSlot true))) (rows2 := [[(tN ((slotsN g i).2 + 1)), (tB false), (tN i), (tN (fromG g i false))]]) (rows3 := (((slotsN g i).1 ++ [(D.Slot.mk ((((slotsN g i).2 + 1) : Nat) : Int) false ((i : Nat) : Int) ((fromG g i false : Nat) : Int))]).map (eSlot true))) (VDst.own (tv (T.os 4 1 0 ((((slotsN g i).1).map (eSlot true)).length)) rfl) rfl rfl) (VSrc.own (tv (T.os 4 2 0 1) rfl) rfl rfl Try.underlying62 (bc (bc rfl (bc rfl (bc rfl (bc rfl (bn))))) (bn))) (by decide) Try.underlying62 sz83 (by decide) zo83 rfl (of_decide_eq_true (by kernel_rfl)) (by first | assumption | omega | (simp only [List.length_map]; omega) | (simp only [List.length_map, List.length_append, List.length_cons, List.length_nil, List.length_replicate, List.length_set, List.length_drop, List.length_take, lim] at *; omega)) ((List.map_append (f := eSlot true) (l₁ := (slotsN g i).1) (l₂ := [(D.Slot.mk ((((slotsN g i).2 + 1) : Nat) : Int) false ((i : Nat) : Int) ((fromG g i false : Nat) : Int))])).symm)) (aO (T.os 4 3 0 ((((slotsN g i).1 ++ [(D.Slot.mk ((((slotsN g i).2 + 1) : Nat) : Int) false ((i : Nat) : Int) ((fromG g i false : Nat) : Int))]).map (eSlot true)).length)) rfl (VRunO.nil (tn (sr ?_)))))))))))
          refine mO (tN (fromG g i true)) rfl (fO (B.geq (c := (decide (2 ≤ fromG g i true))) (tv (tN (fromG g i true)) rfl) (VEv.int .i64 2) (by first | assumption | (exact decN (by omega)))) (nt ?_))
          refine cd (2 ≤ fromG g i true) rfl (fun fhc4 => ?_) fun fhc4 => ?_
          · refine VRun.region ?_
            refine mO (T.os 4 3 0 ((((slotsN g i).1 ++ [(D.Slot.mk ((((slotsN g i).2 + 1) : Nat) : Int) false ((i : Nat) : Int) ((fromG g i false : Nat) : Int))]).map (eSlot true)).length)) rfl (mO (tN ((slotsN g i).2 + 1)) rfl (mO (tN i) rfl (mO (tN (fromG g i true)) rfl (fO (OF.build (l := [(0, (tN ((slotsN g i).2 + 1))), (1, (tB true)), (2, (tN i)), (3, (tN (fromG g i true)))]) (zs := [(tN 0), (tB false), (tN 0), (tN 0)]) (out := [(tN ((slotsN g i).2 + 1)), (tB true), (tN i), (tN (fromG g i true))]) (VEvp.cons (i := 0) (tv (tN ((slotsN g i).2 + 1)) rfl) (VEvp.cons (i := 1) (VEv.bool true) (VEvp.cons (i := 2) (tv (tN i) rfl) (VEvp.cons (i := 3) (tv (tN (fromG g i true)) rfl) VEvp.nil)))) (bc nofun (bc nofun (bc nofun (bc nofun (bn))))) Try.underlying83 zo83 (fun _ => RL.cons (.int _ _) (RL.cons (.bool _) (RL.cons (.int _ _) (RL.cons (.int _ _) (RL.nil _))))) (by kernel_rfl) (by kernel_rfl)) (kO (OM.buildSlice (l := [(T.agg [(tN ((slotsN g i).2 + 1)), (tB true), (tN i), (tN (fromG g i true))])]) (VEvp.cons (tv (T.agg [(tN ((slotsN g i).2 + 1)), (tB true), (tN i), (tN (fromG g i true))]) rfl) VEvp.nil) rfl (by decide) (bc (nofun) (bn)) (bc ((bc (rfl) (bc (rfl) (bc (rfl) (bc (rfl) (bn)))))) (bn)) (bc (rfl) (bn)) Try.underlying62 zo83 (by kernel_rfl) rfl (by rw [sz83]; decide) sz83 (Nat.le_of_ble_eq_true rfl)) (cO (B.append (rows := (((slotsN g i).1 ++ [(D.Slot.mk ((((slotsN g i).2 + 1) : Nat) : Int) false ((i : Nat) : Int) ((fromG g i false : Nat) : Int))]).map (eSlot true))) (rows2 := [[(tN ((slotsN g i).2 + 1)), (tB true), (tN i), (tN (fromG g i true))]]) (rows3 := ((((slotsN g i).1 ++ [(D.Slot.mk ((((slotsN g i).2 + 1) : Nat) : Int) false ((i : Nat) : Int) ((fromG g i false : Nat) : Int))]) ++ [(D.Slot.mk ((((slotsN g i).2 + 1) : Nat) : Int) true ((i : Nat) : Int) ((fromG g i true : Nat) : Int))]).map (eSlot true))) (VDst.own (tv (T.os 4 3 0 ((((slotsN g i).1 ++ [(D.Slot.mk ((((slotsN g i).2 + 1) : Nat) : Int) false ((i : Nat) : Int) ((fromG g i false : Nat) : Int))]).map (eSlot true)).length)) rfl) rfl rfl) (VSrc.own (tv (T.os 4 4 0 1) rfl) rfl rfl Try.underlying62 (bc (bc rfl (bc rfl (bc rfl (bc rfl (bn))))) (bn))) (by decide) Try.underlying62 sz83 (by decide) zo83 rfl (of_decide_eq_true (by kernel_rfl)) (by first | assumption | omega | (simp only [List.length_map]; omega) | (simp only [List.length_map, List.length_append, List.length_cons, List.length_nil, List.length_replicate, List.length_set, List.length_drop, List.length_take, lim] at *; omega)) ((List.map_append (f := eSlot true) (l₁ := ((slotsN g i).1 ++ [(D.Slot.mk ((((slotsN g i).2 + 1) : Nat) : Int) false ((i : Nat) : Int) ((fromG g i false : Nat) : Int))])) (l₂ := [(D.Slot.mk ((((slotsN g i).2 + 1) : Nat) : Int) true ((i : Nat) : Int) ((fromG g i true : Nat) : Int))])).symm)) (aO (T.os 4 5 0 (((((slotsN g i).1 ++ [(D.Slot.mk ((((slotsN g i).2 + 1) : Nat) : Int) false ((i : Nat) : Int) ((fromG g i false : Nat) : Int))]) ++ [(D.Slot.mk ((((slotsN g i).2 + 1) : Nat) : Int) true ((i : Nat) : Int) ((fromG g i true : Nat) : Int))]).map (eSlot true)).length)) rfl ?_)))))))
            refine VRunO.nil (vinB.n (tn (VRun.region (fO (B.add (n := (((i + 1) : Nat) : Int)) (tv (tN i) rfl) (VEv.int .i64 1) (by first | assumption | rfl | (rw [wrap64 (by omega)]; omega) | (rw [wrap64 (by omega)]; done))) (mO (tN (i + 1)) rfl (VRunO.nil (tn ?_)))))))
            have he5 : (((slotsN g i).1 ++ [(D.Slot.mk ((((slotsN g i).2 + 1) : Nat) : Int) false ((i : Nat) : Int) ((fromG g i false : Nat) : Int))]) ++ [(D.Slot.mk ((((slotsN g i).2 + 1) : Nat) : Int) true ((i : Nat) : Int) ((fromG g i true : Nat) : Int))]) = (slotsN g (i + 1)).1 := by first | rfl | (rw [slotsN1, slotsN2]; simp [*]; done) | (simp; done) | omega
            refine ⟨(i + 1 : Nat), ?_, ?_, Wk.mk (fun k => if k = 1 then 5 else  k) ?_ ?_ ?_⟩
            · first | trivial | omega | (simp; done) | exact ⟨by omega, hI'.2⟩
            · first | omega | (simp only []; omega) | (show _ < _; omega) | (simp; omega)
            · exact (b2 (b2 (bc ⟨(congrArg (fun l_ => T.os 4 5 0 (List.map (eSlot true) l_).length) he5), rfl⟩ (bc ⟨(congrArg (T.int .i64) (show ((((slotsN g i).2 + 1) : Nat) : Int) = (((slotsN g (i + 1)).2 : Nat) : Int) from (by first | rfl | omega | (rw [slotsN2]; simp [*]; done) | (simp; done) | (push_cast; omega)))), rfl⟩ (b2 (b2 (bn)))))))
            · exact (b3 (bc ⟨(congrArg (fun l_ => some (Obj.rows 4 (List.map (eSlot true) l_))) he5), (lb rfl), rfl⟩ (bn)))
            · show List.Nodup ([0, 5] : List Nat)
              decide
          refine sk (vinB.n (tn (VRun.region (fO (B.add (n := (((i + 1) : Nat) : Int)) (tv (tN i) rfl) (VEv.int .i64 1) (by first | assumption | rfl | (rw [wrap64 (by omega)]; omega) | (rw [wrap64 (by omega)]; done))) (mO (tN (i + 1)) rfl (VRunO.nil (tn ?_)))))))
          have he6 : ((slotsN g i).1 ++ [(D.Slot.mk ((((slotsN g i).2 + 1) : Nat) : Int) false ((i : Nat) : Int) ((fromG g i false : Nat) : Int))]) = (slotsN g (i + 1)).1 := by first | rfl | (rw [slotsN1, slotsN2]; simp [*]; done) | (simp; done) | omega
          refine ⟨(i + 1 : Nat), ?_, ?_, Wk.mk (fun k => if k = 1 then 3 else  k) ?_ ?_ ?_⟩
          · first | trivial | omega | (simp; done) | exact ⟨by omega, hI'.2⟩
          · first | omega | (simp only []; omega) | (show _ < _; omega) | (simp; omega)
          · exact (b2 (b2 (bc ⟨(congrArg (fun l_ => T.os 4 3 0 (List.map (eSlot true) l_).length) he6), rfl⟩ (bc ⟨(congrArg (T.int .i64) (show ((((slotsN g i).2 + 1) : Nat) : Int) = (((slotsN g (i + 1)).2 : Nat) : Int) from (by first | rfl | omega | (rw [slotsN2]; simp [*]; done) | (simp; done) | (push_cast; omega)))), rfl⟩ (b2 (b2 (bn)))))))
          · exact (b3 (bc ⟨(congrArg (fun l_ => some (Obj.rows 4 (List.map (eSlot true) l_))) he6), (lb rfl), rfl⟩ (bn)))
          · show List.Nodup ([0, 3] : List Nat)
            decide
        · exact absurd ((dy fhg25_2).symm.trans hk4) (by decide)
      · exact absurd (rfl.symm.trans hk3) (by decide)
    refine gF (dz fhg25_2) rfl rfl (OF.move (tv (tN (fromG g i true)) rfl)) (gF (dz fhg25_2) rfl rfl (B.geq (c := (decide (2 ≤ fromG g i true))) (tv (tN (fromG g i true)) rfl) (VEv.int .i64 2) (by first | assumption | (exact decN (by omega)))) (fO (OF.pickF (VEv.tmpB (b := (decide (2 ≤ fromG g i false))) rfl (dz fhg25_2)) (tv (tB (decide (2 ≤ fromG g i true))) rfl)) (nt ?_)))
    refine cd (2 ≤ fromG g i true) rfl (fun fhc2 => ?_) fun fhc2 => ?_
    · refine VRun.region ?_
      refine mO (tN ((slotsN g i).2)) rfl (fO (B.add (n := ((((slotsN g i).2 + 1) : Nat) : Int)) (tv (tN ((slotsN g i).2)) rfl) (VEv.int .i64 1) (by first | assumption | rfl | (rw [wrap64 (by omega)]; omega) | (rw [wrap64 (by omega)]; done))) (aO (tN ((slotsN g i).2 + 1)) rfl (VRunO.nil (tn (sq (sr (mO (tN (fromG g i false)) rfl (fO (B.geq (c := (decide (2 ≤ fromG g i false))) (tv (tN (fromG g i false)) rfl) (VEv.int .i64 2) (by first | assumption | (exact decN (by omega)))) (nt ?_)))))))))
      refine VRun.cond (tv (tB (decide (2 ≤ fromG g i false))) rfl) (fun hk7 => ?_) (fun hk7 => ?_)
      · exact absurd ((dz fhg25_2).symm.trans hk7) (by decide)
      · skip
        refine sk (tn (sr (mO (tN (fromG g i true)) rfl (fO (B.geq (c := (decide (2 ≤ fromG g i true))) (tv (tN (fromG g i true)) rfl) (VEv.int .i64 2) (by first | assumption | (exact decN (by omega)))) (nt ?_)))))
        refine VRun.cond (tv (tB (decide (2 ≤ fromG g i true))) rfl) (fun hk8 => ?_) (fun hk8 => ?_)
        · skip
          refine VRun.region (mO (T.os 4 1 0 ((((slotsN g i).1).map (eSlot true)).length)) rfl (mO (tN ((slotsN g i).2 + 1)) rfl (mO (tN i) rfl (mO (tN (fromG g i true)) rfl (fO (OF.build (l := [(0, (tN ((slotsN g i).2 + 1))), (1, (tB true)), (2, (tN i)), (3, (tN (fromG g i true)))]) (zs := [(tN 0), (tB false), (tN 0), (tN 0)]) (out := [(tN ((slotsN g i).2 + 1)), (tB true), (tN i), (tN (fromG g i true))]) (VEvp.cons (i := 0) (tv (tN ((slotsN g i).2 + 1)) rfl) (VEvp.cons (i := 1) (VEv.bool true) (VEvp.cons (i := 2) (tv (tN i) rfl) (VEvp.cons (i := 3) (tv (tN (fromG g i true)) rfl) VEvp.nil)))) (bc nofun (bc nofun (bc nofun (bc nofun (bn))))) Try.underlying83 zo83 (fun _ => RL.cons (.int _ _) (RL.cons (.bool _) (RL.cons (.int _ _) (RL.cons (.int _ _) (RL.nil _))))) (by kernel_rfl) (by kernel_rfl)) (kO (OM.buildSlice (l := [(T.agg [(tN ((slotsN g i).2 + 1)), (tB true), (tN i), (tN (fromG g i true))])]) (VEvp.cons (tv (T.agg [(tN ((slotsN g i).2 + 1)), (tB true), (tN i), (tN (fromG g i true))]) rfl) VEvp.nil) rfl (by decide) (bc (nofun) (bn)) (bc ((bc (rfl) (bc (rfl) (bc (rfl) (bc (rfl) (bn)))))) (bn)) (bc (rfl) (bn)) Try.underlying62 zo83 (by kernel_rfl) rfl (by rw [sz83]; decide) sz83 (Nat.le_of_ble_eq_true rfl)) (cO (B.append (rows := (((slotsN g i).1).map (eSlot true))) (rows2 := [[(tN ((slotsN g i).2 + 1)), (tB true), (tN i), (tN (fromG g i true))]]) (rows3 := (((slotsN g i).1 ++ [(D.Slot.mk ((((slotsN g i).2 + 1) : Nat) : Int) true ((i : Nat) : Int) ((fromG g i true : Nat) : Int))]).map (eSlot true))) (VDst.own (tv (T.os 4 1 0 ((((slotsN g i).1).map (eSlot true)).length)) rfl) rfl rfl) (VSrc.own (tv (T.os 4 2 0 1) rfl) rfl rfl Try.underlying62 (bc (bc rfl (bc rfl (bc rfl (bc rfl (bn))))) (bn))) (by decide) Try.underlying62 sz83 (by decide) zo83 rfl (of_decide_eq_true (by kernel_rfl)) (by first | assumption | omega | (simp only [List.length_map]; omega) | (simp only [List.length_map, List.length_append, List.length_cons, List.length_nil, List.length_replicate, List.length_set, List.length_drop, List.length_take, lim] at *; omega)) ((List.map_append (f := eSlot true) (l₁ := (slotsN g i).1) (l₂ := [(D.Slot.mk ((((slotsN g i).2 + 1) : Nat) : Int) true ((i : Nat) : Int) ((fromG g i true : Nat) : Int))])).symm)) (aO (T.os 4 3 0 ((((slotsN g i).1 ++ [(D.Slot.mk ((((slotsN g i).2 + 1) : Nat) : Int) true ((i : Nat) : Int) ((fromG g i true : Nat) : Int))]).map (eSlot true)).length)) rfl (VRunO.nil (vinB.n (tn ?_)))))))))))
          refine VRun.region (fO (B.add (n := (((i + 1) : Nat) : Int)) (tv (tN i) rfl) (VEv.int .i64 1) (by first | assumption | rfl | (rw [wrap64 (by omega)]; omega) | (rw [wrap64 (by omega)]; done))) (mO (tN (i + 1)) rfl (VRunO.nil (tn ?_))))
          have he9 : ((slotsN g i).1 ++ [(D.Slot.mk ((((slotsN g i).2 + 1) : Nat) : Int) true ((i : Nat) : Int) ((fromG g i true : Nat) : Int))]) = (slotsN g (i + 1)).1 := by first | rfl | (rw [slotsN1, slotsN2]; simp [*]; done) | (simp; done) | omega
          refine ⟨(i + 1 : Nat), ?_, ?_, Wk.mk (fun k => if k = 1 then 3 else  k) ?_ ?_ ?_⟩
          · first | trivial | omega | (simp; done) | exact ⟨by omega, hI'.2⟩
          · first | omega | (simp only []; omega) | (show _ < _; omega) | (simp; omega)
          · exact (b2 (b2 (bc ⟨(congrArg (fun l_ => T.os 4 3 0 (List.map (eSlot true) l_).length) he9), rfl⟩ (bc ⟨(congrArg (T.int .i64) (show ((((slotsN g i).2 + 1) : Nat) : Int) = (((slotsN g (i + 1)).2 : Nat) : Int) from (by first | rfl | omega | (rw [slotsN2]; simp [*]; done) | (simp; done) | (push_cast; omega)))), rfl⟩ (b2 (b2 (bn)))))))
          · exact (b3 (bc ⟨(congrArg (fun l_ => some (Obj.rows 4 (List.map (eSlot true) l_))) he9), (lb rfl), rfl⟩ (bn)))
          · show List.Nodup ([0, 3] : List Nat)
            decide
        · exact absurd ((dy fhc2).symm.trans hk8) (by decide)
    refine sk (tn (sq (sr (mO (tN (fromG g i false)) rfl (fO (B.geq (c := (decide (2 ≤ fromG g i false))) (tv (tN (fromG g i false)) rfl) (VEv.int .i64 2) (by first | assumption | (exact decN (by omega)))) (nt ?_))))))
    refine VRun.cond (tv (tB (decide (2 ≤ fromG g i false))) rfl) (fun hk10 => ?_) (fun hk10 => ?_)
    · exact absurd ((dz fhg25_2).symm.trans hk10) (by decide)
    · skip
      refine sk (tn (sr (mO (tN (fromG g i true)) rfl (fO (B.geq (c := (decide (2 ≤ fromG g i true))) (tv (tN (fromG g i true)) rfl) (VEv.int .i64 2) (by first | assumption | (exact decN (by omega)))) (nt ?_)))))
      refine VRun.cond (tv (tB (decide (2 ≤ fromG g i true))) rfl) (fun hk11 => ?_) (fun hk11 => ?_)
      · exact absurd ((dz fhc2).symm.trans hk11) (by decide)
      · skip
        refine sk (vinB.n (tn (VRun.region (fO (B.add (n := (((i + 1) : Nat) : Int)) (tv (tN i) rfl) (VEv.int .i64 1) (by first | assumption | rfl | (rw [wrap64 (by omega)]; omega) | (rw [wrap64 (by omega)]; done))) (mO (tN (i + 1)) rfl (VRunO.nil (tn ?_)))))))
        have he12 : (slotsN g i).1 = (slotsN g (i + 1)).1 := by first | rfl | (rw [slotsN1, slotsN2]; simp [*]; done) | (simp; done) | omega
        refine ⟨(i + 1 : Nat), ?_, ?_, Wk.mk (fun k => k) ?_ ?_ ?_⟩
        · first | trivial | omega | (simp; done) | exact ⟨by omega, hI'.2⟩
        · first | omega | (simp only []; omega) | (show _ < _; omega) | (simp; omega)
        · exact (b2 (b2 (bc ⟨(congrArg (fun l_ => T.os 4 1 0 (List.map (eSlot true) l_).length) he12), rfl⟩ (bc ⟨(congrArg (T.int .i64) (show (((slotsN g i).2 : Nat) : Int) = (((slotsN g (i + 1)).2 : Nat) : Int) from (by first | rfl | omega | (rw [slotsN2]; simp [*]; done) | (simp; done) | (push_cast; omega)))), rfl⟩ (b2 (b2 (bn)))))))
        · exact (b3 (bc ⟨(congrArg (fun l_ => some (Obj.rows 4 (List.map (eSlot true) l_))) he12), (lb rfl), rfl⟩ (bn)))
        · show List.Nodup ([0, 1] : List Nat)
          decide
  refine VRun.exit (vthn.e (vthn.e (vinB.e (tn (sr (mO (T.os 4 1 0 ((((slotsN g i).1).map (eSlot true)).length)) rfl (aO (T.os 4 1 0 ((((slotsN g i).1).map (eSlot true)).length)) rfl (nt (rt ?_)))))))))
  refine vfin.eq (r' := (T.sl true 4 (((slotsN g i).1).map (eSlot true)))) ?_ (vfin.r (VRes.tmp (t := (T.os 4 1 0 ((((slotsN g i).1).map (eSlot true)).length))) rfl VRes.nil) (Give.os rfl rfl (okeSlot.cleanMap _)))
  show (T.sl true 4 (((slotsN g i).1).map (eSlot true))) = (T.sl true 4 ((slotsG g).map (eSlot true)))
  refine congrArg (fun l_ => T.sl true 4 (List.map (eSlot true) l_)) ?_
  refine slots_end hI1 (.inl hgo) ?_; left; assumption
noncomputable section
def shortG (g : D.Grid) : Prop := ∃ s ∈ slotsG g, s.Length < 3
instance (g : D.Grid) : Decidable (shortG g) := Classical.propDecidable _
end
theorem W_spec_l10Short (n : Nat) (g : D.Grid) (hc : g.Cells.size ≤ maxLen) : Pure (acall Try.prog (n + 4)) 70 [(T.agg (eGrid false g))] (tB (decide (shortG g))) := by
  refine Pure.intro (rs := [ResultVar.tmp 2]) Try.func70 rfl rfl rfl (E0 := [(0, (T.agg (eGrid false g)))]) rfl ?_
  obtain ⟨hlim, hmx, hmax⟩ := lims
  have hsl := slotsG_len g
  refine sr (kO (B.box (ts := (eGrid false g)) (tv (T.agg (eGrid false g)) rfl) nofun rfl) (fO (OF.assign (VEv.bool false)) (nt (sr (lO (OL.loadOn (us := (eGrid false g)) (tv (T.op 0 0) rfl) rfl st29 sz29 (lb rfl) rfl) (cO (OC.callF (us := [(T.agg (eGrid false g))]) (r := (T.sl true 4 ((slotsG g).map (eSlot true)))) (r' := (T.os 4 1 0 (((slotsG g).map (eSlot true)).length))) (objs := [(Obj.rows 4 ((slotsG g).map (eSlot true)))]) rfl (vc (tv (T.agg (eGrid false g)) rfl) VEvs.nil) (LendL.cons (lg okeGrid) (LendL.nil)) (W_spec_SlotsOf (n + 0) g (by first | assumption | omega)) rfl) (aO (T.os 4 1 0 (((slotsG g).map (eSlot true)).length)) rfl (nt (sq (sr (fO (OF.assign (VEv.int .i64 0)) ?_)))))))))))
  refine nt (VRun.block ?_)
  refine VRun.loop (A := Nat) (fun s_ => [(3, (T.os 4 0 0 (((slotsG g).map (eSlot true)).length))), (4, (tN s_))]) (fun s_ => mkO [(0, (Obj.rows 4 ((slotsG g).map (eSlot true))))]) 1 (fun s_ => NoneTo (fun s : D.Slot => s.Length < 3) (slotsG g) s_) (fun s_ => (slotsG g).length - s_) (0 : Nat) ?_ (Wk.mk (fun k => if k = 0 then 1 else  k) ?_ ?_ ?_) ?_
  · exact NoneTo.start _ _
  · exact (b2 (b2 (bn)))
  · exact (b3 (bn))
  · show List.Nodup ([1] : List Nat)
    decide
  rintro i (hI' : NoneTo (fun s : D.Slot => s.Length < 3) (slotsG g) i)
  show VRun _ _ _ [(3, (T.os 4 0 0 (((slotsG g).map (eSlot true)).length))), (4, (tN i))] (mkO [(0, (Obj.rows 4 ((slotsG g).map (eSlot true))))]) 1 _
  have hI1 := hI'.1
  refine sq (sr (mO (tN i) rfl (mO (T.os 4 0 0 (((slotsG g).map (eSlot true)).length)) rfl (lO (B.lenO (m := (slotsG g).length) (tv (T.os 4 0 0 (((slotsG g).map (eSlot true)).length)) rfl) Try.underlying62 (List.length_map ..)) (fO (B.lss (c := (decide (i < (slotsG g).length))) (tv (tN i) rfl) (tv (tN ((slotsG g).length)) rfl) (decN (by omega))) (nt ?_))))))
  refine cd (i < (slotsG g).length) rfl (fun fhc0 => ?_) fun fhc0 => ?_
  · refine sk ?_
    refine tn (sq (VRun.block (sr (mO (T.os 4 0 0 (((slotsG g).map (eSlot true)).length)) rfl (mO (tN i) rfl ?_)))))
    obtain ⟨x1, hx1⟩ : ∃ x, (slotsG g)[i]? = some x := ⟨_, List.getElem?_eq_getElem (by omega)⟩
    refine fO (B.indexAddrO (i := i) (tv (T.os 4 0 0 (((slotsG g).map (eSlot true)).length)) rfl) (tv (tN i) rfl) rfl (by first | omega | (simp only [List.length_map]; omega) | (simp only [List.length_map, List.length_append, List.length_cons, List.length_nil, List.length_replicate, List.length_set, List.length_drop, List.length_take, lim] at *; omega)) Try.underlying62 sz83 if83) (fO (OF.fieldAddrP (tv (T.orp 4 0 i 0) rfl) fa83_3) (lO (OL.loadP1 (t := (tI x1.Length)) (row := (eSlot true x1)) (tv (T.orp 4 0 i 3) rfl) rfl (map_at _ hx1) rfl rfl st3) (fO (B.lss (c := (decide (x1.Length < 3))) (tv (tI x1.Length) rfl) (VEv.int .i64 3) rfl) (nt ?_))))
    refine cd (x1.Length < 3) rfl (fun fhc1 => ?_) fun fhc1 => ?_
    · refine sr ?_
      refine fO (OF.assign (VEv.bool true)) (nt (rt (vinB.r (tr (tr (vinB.r (tr (vb (b' := true) rfl ?_))))))))
      symm; rw [decide_eq_true_eq]; exact ⟨x1, List.mem_of_getElem? hx1, fhc1⟩
    refine sk (vinB.n (tn (VRun.region (mO (tN i) rfl (fO (B.add (n := (((i + 1) : Nat) : Int)) (tv (tN i) rfl) (VEv.int .i64 1) (by first | rfl | (rw [wrap64 (by omega)]; omega) | (rw [wrap64 (by omega)]; done))) (aO (tN (i + 1)) rfl (VRunO.nil (tn ?_))))))))
    refine ⟨(i + 1 : Nat), ?_, ?_, Wk.mk (fun k => k) ?_ ?_ ?_⟩
    · exact hI'.next hx1 fhc1
    · first | omega | (simp only []; omega) | (show _ < _; omega) | (simp; omega)
    · exact (b2 (b2 (bn)))
    · exact (b3 (bn))
    · show List.Nodup ([0] : List Nat)
      decide
  refine VRun.exit (vthn.e (vthn.e (vinB.e (tn (sr (fO (OF.assign (VEv.bool false)) (nt (rt (vb (b' := false) rfl ?_)))))))))
  symm; rw [decide_eq_false_iff_not]; rintro ⟨y, hy, hy2⟩; exact hI'.mem fhc0 y hy hy2
end Go.Proofs.Ytjclbdgjkecbeaa.AE
namespace Go.Proofs.Ytjclbdgjkecbeaa.AE
open Go Go.RowKit
set_option linter.unusedVariables false
set_option linter.unusedSimpArgs false
set_option maxRecDepth 20000
set_option maxHeartbeats 2000000
noncomputable section
def stepS (g : D.Grid) (s : D.Slot) : Int := if s.Down = true then g.Cols else 1
def cellsS (g : D.Grid) (s : D.Slot) (n : Nat) : List Int := (List.range n).map fun k => s.Cell + ((k : Nat) : Int) * stepS g s
theorem cellsS_len (g : D.Grid) (s : D.Slot) (n : Nat) : (cellsS g s n).length = n := by simp [cellsS]
theorem cellsS_next (g : D.Grid) (s : D.Slot) (n : Nat) : cellsS g s (n + 1) = cellsS g s n ++ [s.Cell + ((n : Nat) : Int) * stepS g s] := by
  simp [cellsS, List.range_succ]
def slotOk (g : D.Grid) (s : D.Slot) : Prop := gridOk g ∧ (0 ≤ s.Cell ∧ s.Cell ≤ 36) ∧ (0 ≤ s.Length ∧ s.Length ≤ 6)
theorem runN_le {ok : Nat → Prop} [DecidablePred ok] : ∀ f n, runN ok f n ≤ n + f
  | 0, n => Nat.le_refl _
  | f + 1, n => by
    simp only [runN]
    split
    · have := runN_le (ok := ok) f (n + 1)
      omega
    · omega
theorem fromG_le (g : D.Grid) (cell : Nat) (down : Bool) : fromG g cell down ≤ 6 := by
  unfold fromG fromA fromD
  split <;> split <;> first | omega | (have := runN_le (ok := slD g cell) 6 0; omega) | (have := runN_le (ok := slA g cell) 6 0; omega)
theorem slotsN_ok (g : D.Grid) (hg : gridOk g) : ∀ i, i ≤ g.Cells.size → ∀ s ∈ (slotsN g i).1, slotOk g s
  | 0, _, s, hs => by simp [slotsN] at hs
  | i + 1, hi, s, hs => by
    have hsz := hg.size
    rw [slotsN1, List.mem_append, List.mem_append] at hs
    rcases hs with (hs | hs) | hs
    · exact slotsN_ok g hg i (by omega) s hs
    · split at hs
      · obtain rfl := List.mem_singleton.1 hs
        have := fromG_le g i false
        exact ⟨hg, by simp only; omega, by simp only; omega⟩
      · cases hs
    · split at hs
      · obtain rfl := List.mem_singleton.1 hs
        have := fromG_le g i true
        exact ⟨hg, by simp only; omega, by simp only; omega⟩
      · cases hs
theorem slotsG_ok {g : D.Grid} {s : D.Slot} (hs : s ∈ slotsG g) : slotOk g s := by
  unfold slotsG at hs
  split at hs
  · exact slotsN_ok g ‹_› _ (Nat.le_refl _) s hs
  · cases hs
end
theorem W_impl_cells (n : Nat) (g : D.Grid) (s : D.Slot) (hs : slotOk g s) : Pure (acall Try.prog (n + 1)) 92 [(T.agg (eGrid false g)), (T.agg (eSlot false s))] (T.sl true 1 ((cellsS g s s.Length.toNat).map (eInt true))) := by
  refine Pure.intro (rs := [ResultVar.tmp 4]) Try.func92 rfl rfl rfl (E0 := [(0, (T.agg (eGrid false g))), (1, (T.agg (eSlot false s)))]) rfl ?_
  obtain ⟨hlim, hmx, hmax⟩ := lims
  obtain ⟨hg, hc, hl⟩ := hs
  have hB := hg.2.1
  refine sr (kO (B.box (ts := (eGrid false g)) (tv (T.agg (eGrid false g)) rfl) nofun rfl) (kO (B.box (ts := (eSlot false s)) (tv (T.agg (eSlot false s)) rfl) nofun rfl) (fO (OF.assign VEv.nils) (nt (sr (fO (OF.assign (VEv.int .i64 1)) (nt (sq (sr (fO (OF.fieldAddrO (tv (T.op 1 0) rfl) fa83_1) (lO (OL.loadO1 (t := (tB s.Down)) (tv (T.op 1 1) rfl) rfl rfl st4) ?_)))))))))))
  refine nt ?_
  refine VRun.cond (tv (tB s.Down) rfl) (fun hc0 => ?_) (fun hc0 => ?_)
  · have fhc0 : s.Down = true := hc0
    refine VRun.region (fO (OF.fieldAddrO (tv (T.op 0 0) rfl) fa29_1) (lO (OL.loadO1 (t := (tI g.Cols)) (tv (T.op 0 1) rfl) rfl rfl st3) (aO (tI g.Cols) rfl (VRunO.nil (tn (sr (fO (OF.assign VEv.nils) (nt (sq (sr (fO (OF.fieldAddrO (tv (T.op 1 0) rfl) fa83_3) ?_)))))))))))
    refine lO (OL.loadO1 (t := (tI s.Length)) (tv (T.op 1 3) rfl) rfl rfl st3) (fO (OF.move (VEv.int .i64 0)) (nt (VRun.block (VRun.wk (Wk.phantom 6 1 rfl) ?_))))
    have he1 : [] = ((cellsS g s 0).map (eInt true)) := by first | rfl | (rw [cellsS_next, stepS, if_pos fhc0]) | (rw [cellsS_next, stepS, fhc0]; rfl) | (rw [cellsS_next, stepS, fhc0]; simp; done) | (simp; done) | omega
    refine VRun.loop (A := Nat) (fun s_ => [(3, (T.op 0 0)), (4, T.nils), (5, (tI g.Cols)), (6, (T.os 1 1 0 (((cellsS g s s_).map (eInt true)).length))), (13, (tI s.Length)), (14, (tN s_))]) (fun s_ => mkO [(0, (Obj.cells (eSlot false s))), (1, (Obj.rows 1 ((cellsS g s s_).map (eInt true))))]) 2 (fun s_ => s_ ≤ s.Length.toNat) (fun s_ => s.Length.toNat - s_) (0 : Nat) ?_ (Wk.mk (fun k => if k = 0 then 1 else if k = 1 then 2 else  k) ?_ ?_ ?_) ?_
    · first | trivial | (simp; done) | omega | (constructor <;> simp)
    · exact (b2 (b2 (b2 (bc ⟨(congrArg (fun n_ => T.os 1 2 0 n_) (show 0 = ((cellsS g s 0).map (eInt true)).length from (by first | rfl | (simp only [List.length_map]; omega) | (simp only [List.length_map, List.length_set, List.length_append, List.length_take, List.length_replicate, List.length_cons, List.length_nil]; omega)))), rfl⟩ (b2 (b2 (bn)))))))
    · exact (b3 (bc ⟨(congrArg (fun l_ => some (Obj.rows 1 l_)) he1), (lb rfl), rfl⟩ (bn)))
    · show List.Nodup ([1, 2] : List Nat)
      decide
    rintro i (hI' : i ≤ s.Length.toNat)
    show VRun _ _ _ [(3, (T.op 0 0)), (4, T.nils), (5, (tI g.Cols)), (6, (T.os 1 1 0 (((cellsS g s i).map (eInt true)).length))), (13, (tI s.Length)), (14, (tN i))] (mkO [(0, (Obj.cells (eSlot false s))), (1, (Obj.rows 1 ((cellsS g s i).map (eInt true))))]) 2 _
    have hI1 := hI'
    have hN := mulN (n := i) (c := g.Cols) (by omega) hB.1 hB.2
    have hcl := cellsS_len g s i
    refine sr (fO (B.lss (c := (decide (((i : Nat) : Int) < s.Length))) (tv (tN i) rfl) (tv (tI s.Length) rfl) rfl) (nt (sq ?_)))
    refine cd (((i : Nat) : Int) < s.Length) rfl (fun fhc1 => ?_) fun fhc1 => ?_
    · refine sk ?_
      refine tn (sq (VRun.block (sr (mO (tN i) rfl (aO (tN i) rfl (nt (VRun.region (mO (T.os 1 1 0 (((cellsS g s i).map (eInt true)).length)) rfl (fO (OF.fieldAddrO (tv (T.op 0 0) rfl) fa83_2) (lO (OL.loadO1 (t := (tI s.Cell)) (tv (T.op 0 2) rfl) rfl rfl st3) (mO (tN i) rfl ?_)))))))))))
      refine mO (tI g.Cols) rfl (fO (B.mul (n := (((i : Nat) : Int) * g.Cols)) (tv (tN i) rfl) (tv (tI g.Cols) rfl) (by first | (refine mulWn ?_ ?_ ?_ <;> omega) | rfl | (rw [wrap64 (by omega)]; omega) | (rw [wrap64 (by omega)]; done))) (fO (B.add (n := (s.Cell + (((i : Nat) : Int) * g.Cols))) (tv (tI s.Cell) rfl) (tv (tI (((i : Nat) : Int) * g.Cols)) rfl) (by first | (refine mulWn ?_ ?_ ?_ <;> omega) | rfl | (rw [wrap64 (by omega)]; omega) | (rw [wrap64 (by omega)]; done))) (kO (OM.buildSlice (l := [(tI (s.Cell + (((i : Nat) : Int) * g.Cols)))]) (VEvp.cons (tv (tI (s.Cell + (((i : Nat) : Int) * g.Cols))) rfl) VEvp.nil) rfl (by decide) (bc (nofun) (bn)) (bc ((bc (rfl) (bn))) (bn)) (bc (rfl) (bn)) Try.underlying36 zo3 (by kernel_rfl) rfl (by rw [sz3]; decide) sz3 (Nat.le_of_ble_eq_true rfl)) (cO (B.append (rows := ((cellsS g s i).map (eInt true))) (rows2 := [[(tI (s.Cell + (((i : Nat) : Int) * g.Cols)))]]) (rows3 := ((cellsS g s i ++ [(s.Cell + (((i : Nat) : Int) * g.Cols))]).map (eInt true))) (VDst.own (tv (T.os 1 1 0 (((cellsS g s i).map (eInt true)).length)) rfl) rfl rfl) (VSrc.own (tv (T.os 1 2 0 1) rfl) rfl rfl Try.underlying36 (bc (bc rfl (bn)) (bn))) (by decide) Try.underlying36 sz3 (by decide) zo3 rfl (of_decide_eq_true (by kernel_rfl)) (by first | (refine mulWn ?_ ?_ ?_ <;> omega) | omega | (simp only [List.length_map]; omega) | (simp only [List.length_map, List.length_append, List.length_cons, List.length_nil, List.length_replicate, List.length_set, List.length_drop, List.length_take, lim] at *; omega)) ((List.map_append (f := eInt true) (l₁ := cellsS g s i) (l₂ := [(s.Cell + (((i : Nat) : Int) * g.Cols))])).symm)) (aO (T.os 1 3 0 (((cellsS g s i ++ [(s.Cell + (((i : Nat) : Int) * g.Cols))]).map (eInt true)).length)) rfl (VRunO.nil (vinB.n (tn (VRun.region (fO (B.add (n := (((i + 1) : Nat) : Int)) (tv (tN i) rfl) (VEv.int .i64 1) (by first | (refine mulWn ?_ ?_ ?_ <;> omega) | rfl | (rw [wrap64 (by omega)]; omega) | (rw [wrap64 (by omega)]; done))) (mO (tN (i + 1)) rfl ?_)))))))))))
      refine VRunO.nil (tn ?_)
      have he2 : (cellsS g s i ++ [(s.Cell + (((i : Nat) : Int) * g.Cols))]) = cellsS g s (i + 1) := by first | rfl | (rw [cellsS_next, stepS, if_pos fhc0]) | (rw [cellsS_next, stepS, fhc0]; rfl) | (rw [cellsS_next, stepS, fhc0]; simp; done) | (simp; done) | omega
      refine ⟨(i + 1 : Nat), ?_, ?_, Wk.mk (fun k => if k = 1 then 3 else  k) ?_ ?_ ?_⟩
      · first | trivial | omega | (simp; done) | exact ⟨by omega, hI'.2⟩
      · first | omega | (simp only []; omega) | (show _ < _; omega) | (simp; omega)
      · exact (b2 (b2 (b2 (bc ⟨(congrArg (fun l_ => T.os 1 3 0 (List.map (eInt true) l_).length) he2), rfl⟩ (b2 (b2 (bn)))))))
      · exact (b3 (bc ⟨(congrArg (fun l_ => some (Obj.rows 1 (List.map (eInt true) l_))) he2), (lb rfl), rfl⟩ (bn)))
      · show List.Nodup ([0, 3] : List Nat)
        decide
    refine VRun.exit (vthn.e (vthn.e (vinB.e (tn (sr (mO (T.os 1 1 0 (((cellsS g s i).map (eInt true)).length)) rfl (aO (T.os 1 1 0 (((cellsS g s i).map (eInt true)).length)) rfl (nt (rt ?_)))))))))
    refine vfin.eq (r' := (T.sl true 1 ((cellsS g s i).map (eInt true)))) ?_ (vfin.r (VRes.tmp (t := (T.os 1 1 0 (((cellsS g s i).map (eInt true)).length))) rfl VRes.nil) (Give.os rfl rfl (okInt.cleanMap _)))
    show (T.sl true 1 ((cellsS g s i).map (eInt true))) = (T.sl true 1 ((cellsS g s s.Length.toNat).map (eInt true)))
    refine congrArg (fun l_ => T.sl true 1 (List.map (eInt true) l_)) ?_
    rw [show i = s.Length.toNat from by omega]
  have fhc0 : s.Down = false := hc0
  refine sk (tn (sr (fO (OF.assign VEv.nils) (nt (sq (sr (fO (OF.fieldAddrO (tv (T.op 1 0) rfl) fa83_3) (lO (OL.loadO1 (t := (tI s.Length)) (tv (T.op 1 3) rfl) rfl rfl st3) (fO (OF.move (VEv.int .i64 0)) (nt (VRun.block ?_)))))))))))
  refine VRun.wk (Wk.phantom 6 1 rfl) ?_
  have he3 : [] = ((cellsS g s 0).map (eInt true)) := by first | rfl | (rw [cellsS_next, stepS, if_pos fhc0]) | (rw [cellsS_next, stepS, fhc0]; rfl) | (rw [cellsS_next, stepS, fhc0]; simp; done) | (simp; done) | omega
  refine VRun.loop (A := Nat) (fun s_ => [(3, (T.op 0 0)), (4, T.nils), (5, (tN 1)), (6, (T.os 1 1 0 (((cellsS g s s_).map (eInt true)).length))), (13, (tI s.Length)), (14, (tN s_))]) (fun s_ => mkO [(0, (Obj.cells (eSlot false s))), (1, (Obj.rows 1 ((cellsS g s s_).map (eInt true))))]) 2 (fun s_ => s_ ≤ s.Length.toNat) (fun s_ => s.Length.toNat - s_) (0 : Nat) ?_ (Wk.mk (fun k => if k = 0 then 1 else if k = 1 then 2 else  k) ?_ ?_ ?_) ?_
  · first | trivial | (simp; done) | omega | (constructor <;> simp)
  · exact (b2 (b2 (b2 (bc ⟨(congrArg (fun n_ => T.os 1 2 0 n_) (show 0 = ((cellsS g s 0).map (eInt true)).length from (by first | rfl | (simp only [List.length_map]; omega) | (simp only [List.length_map, List.length_set, List.length_append, List.length_take, List.length_replicate, List.length_cons, List.length_nil]; omega)))), rfl⟩ (b2 (b2 (bn)))))))
  · exact (b3 (bc ⟨(congrArg (fun l_ => some (Obj.rows 1 l_)) he3), (lb rfl), rfl⟩ (bn)))
  · show List.Nodup ([1, 2] : List Nat)
    decide
  rintro i (hI' : i ≤ s.Length.toNat)
  show VRun _ _ _ [(3, (T.op 0 0)), (4, T.nils), (5, (tN 1)), (6, (T.os 1 1 0 (((cellsS g s i).map (eInt true)).length))), (13, (tI s.Length)), (14, (tN i))] (mkO [(0, (Obj.cells (eSlot false s))), (1, (Obj.rows 1 ((cellsS g s i).map (eInt true))))]) 2 _
  have hI1 := hI'
  have hN := mulN (n := i) (c := g.Cols) (by omega) hB.1 hB.2
  have hcl := cellsS_len g s i
  refine sr (fO (B.lss (c := (decide (((i : Nat) : Int) < s.Length))) (tv (tN i) rfl) (tv (tI s.Length) rfl) rfl) (nt (sq ?_)))
  refine cd (((i : Nat) : Int) < s.Length) rfl (fun fhc1 => ?_) fun fhc1 => ?_
  · refine sk ?_
    refine tn (sq (VRun.block (sr (mO (tN i) rfl (aO (tN i) rfl (nt (VRun.region (mO (T.os 1 1 0 (((cellsS g s i).map (eInt true)).length)) rfl (fO (OF.fieldAddrO (tv (T.op 0 0) rfl) fa83_2) (lO (OL.loadO1 (t := (tI s.Cell)) (tv (T.op 0 2) rfl) rfl rfl st3) (mO (tN i) rfl ?_)))))))))))
    refine mO (tN 1) rfl (fO (B.mul (n := (((i * 1) : Nat) : Int)) (tv (tN i) rfl) (tv (tN 1) rfl) (by first | (refine mulWn ?_ ?_ ?_ <;> omega) | rfl | (rw [wrap64 (by omega)]; omega) | (rw [wrap64 (by omega)]; done))) (fO (B.add (n := (s.Cell + (((i * 1) : Nat) : Int))) (tv (tI s.Cell) rfl) (tv (tN (i * 1)) rfl) (by first | (refine mulWn ?_ ?_ ?_ <;> omega) | rfl | (rw [wrap64 (by omega)]; omega) | (rw [wrap64 (by omega)]; done))) (kO (OM.buildSlice (l := [(tI (s.Cell + (((i * 1) : Nat) : Int)))]) (VEvp.cons (tv (tI (s.Cell + (((i * 1) : Nat) : Int))) rfl) VEvp.nil) rfl (by decide) (bc (nofun) (bn)) (bc ((bc (rfl) (bn))) (bn)) (bc (rfl) (bn)) Try.underlying36 zo3 (by kernel_rfl) rfl (by rw [sz3]; decide) sz3 (Nat.le_of_ble_eq_true rfl)) (cO (B.append (rows := ((cellsS g s i).map (eInt true))) (rows2 := [[(tI (s.Cell + (((i * 1) : Nat) : Int)))]]) (rows3 := ((cellsS g s i ++ [(s.Cell + (((i * 1) : Nat) : Int))]).map (eInt true))) (VDst.own (tv (T.os 1 1 0 (((cellsS g s i).map (eInt true)).length)) rfl) rfl rfl) (VSrc.own (tv (T.os 1 2 0 1) rfl) rfl rfl Try.underlying36 (bc (bc rfl (bn)) (bn))) (by decide) Try.underlying36 sz3 (by decide) zo3 rfl (of_decide_eq_true (by kernel_rfl)) (by first | (refine mulWn ?_ ?_ ?_ <;> omega) | omega | (simp only [List.length_map]; omega) | (simp only [List.length_map, List.length_append, List.length_cons, List.length_nil, List.length_replicate, List.length_set, List.length_drop, List.length_take, lim] at *; omega)) ((List.map_append (f := eInt true) (l₁ := cellsS g s i) (l₂ := [(s.Cell + (((i * 1) : Nat) : Int))])).symm)) (aO (T.os 1 3 0 (((cellsS g s i ++ [(s.Cell + (((i * 1) : Nat) : Int))]).map (eInt true)).length)) rfl (VRunO.nil (vinB.n (tn (VRun.region (fO (B.add (n := (((i + 1) : Nat) : Int)) (tv (tN i) rfl) (VEv.int .i64 1) (by first | (refine mulWn ?_ ?_ ?_ <;> omega) | rfl | (rw [wrap64 (by omega)]; omega) | (rw [wrap64 (by omega)]; done))) (mO (tN (i + 1)) rfl ?_)))))))))))
    refine VRunO.nil (tn ?_)
    have he4 : (cellsS g s i ++ [(s.Cell + (((i * 1) : Nat) : Int))]) = cellsS g s (i + 1) := by first | rfl | (rw [cellsS_next, stepS, if_pos fhc0]) | (rw [cellsS_next, stepS, fhc0]; rfl) | (rw [cellsS_next, stepS, fhc0]; simp; done) | (simp; done) | omega
    refine ⟨(i + 1 : Nat), ?_, ?_, Wk.mk (fun k => if k = 1 then 3 else  k) ?_ ?_ ?_⟩
    · first | trivial | omega | (simp; done) | exact ⟨by omega, hI'.2⟩
    · first | omega | (simp only []; omega) | (show _ < _; omega) | (simp; omega)
    · exact (b2 (b2 (b2 (bc ⟨(congrArg (fun l_ => T.os 1 3 0 (List.map (eInt true) l_).length) he4), rfl⟩ (b2 (b2 (bn)))))))
    · exact (b3 (bc ⟨(congrArg (fun l_ => some (Obj.rows 1 (List.map (eInt true) l_))) he4), (lb rfl), rfl⟩ (bn)))
    · show List.Nodup ([0, 3] : List Nat)
      decide
  refine VRun.exit (vthn.e (vthn.e (vinB.e (tn (sr (mO (T.os 1 1 0 (((cellsS g s i).map (eInt true)).length)) rfl (aO (T.os 1 1 0 (((cellsS g s i).map (eInt true)).length)) rfl (nt (rt ?_)))))))))
  refine vfin.eq (r' := (T.sl true 1 ((cellsS g s i).map (eInt true)))) ?_ (vfin.r (VRes.tmp (t := (T.os 1 1 0 (((cellsS g s i).map (eInt true)).length))) rfl VRes.nil) (Give.os rfl rfl (okInt.cleanMap _)))
  show (T.sl true 1 ((cellsS g s i).map (eInt true))) = (T.sl true 1 ((cellsS g s s.Length.toNat).map (eInt true)))
  refine congrArg (fun l_ => T.sl true 1 (List.map (eInt true) l_)) ?_
  rw [show i = s.Length.toNat from by omega]
noncomputable section
def layG (g : D.Grid) : List (List Int) := (slotsG g).map fun s => cellsS g s s.Length.toNat
theorem layG_next {g : D.Grid} {i : Nat} {s : D.Slot} (h : (slotsG g)[i]? = some s) : (layG g).take (i + 1) = (layG g).take i ++ [cellsS g s s.Length.toNat] := by
  unfold layG
  rw [List.take_add_one, List.getElem?_map, h]
  rfl
theorem layG_len (g : D.Grid) : (layG g).length = (slotsG g).length := by simp [layG]
end
theorem W_impl_layout (n : Nat) (g : D.Grid) (hc : g.Cells.size ≤ maxLen) : Pure (acall Try.prog (n + 4)) 63 [(T.agg (eGrid false g))] (T.sl true 1 ((layG g).map ((eSl 1 eInt) true))) := by
  refine Pure.intro (rs := [ResultVar.tmp 2]) Try.func63 rfl rfl rfl (E0 := [(0, (T.agg (eGrid false g)))]) rfl ?_
  obtain ⟨hlim, hmx, hmax⟩ := lims
  have hsl := slotsG_len g
  have hll := layG_len g
  refine sr (kO (B.box (ts := (eGrid false g)) (tv (T.agg (eGrid false g)) rfl) nofun rfl) (fO (OF.assign VEv.nils) (nt (sr (fO (OF.assign VEv.nils) (nt (sq (sr (lO (OL.loadOn (us := (eGrid false g)) (tv (T.op 0 0) rfl) rfl st29 sz29 (lb rfl) rfl) (cO (OC.callF (us := [(T.agg (eGrid false g))]) (r := (T.sl true 4 ((slotsG g).map (eSlot true)))) (r' := (T.os 4 1 0 (((slotsG g).map (eSlot true)).length))) (objs := [(Obj.rows 4 ((slotsG g).map (eSlot true)))]) rfl (vc (tv (T.agg (eGrid false g)) rfl) VEvs.nil) (LendL.cons (lg okeGrid) (LendL.nil)) (W_impl_SlotsOf (n + 0) g (by first | exact slotsG_ok (List.mem_of_getElem? hx1) | (rw [List.length_map, List.length_take]; simp only [List.length_cons, List.length_nil]; omega) | assumption | omega)) rfl) (lO (B.lenO (m := (slotsG g).length) (tv (T.os 4 1 0 (((slotsG g).map (eSlot true)).length)) rfl) Try.underlying62 (List.length_map ..)) ?_)))))))))))
  refine fO (OF.move (VEv.int .i64 0)) (nt (VRun.block (VRun.wk (Wk.phantom 3 1 rfl) ?_)))
  have he1 : [] = (((layG g).take 0).map ((eSl 1 eInt) true)) := by first | rfl | (exact (layG_next hx1).symm) | (simp; done) | omega
  refine VRun.loop (A := Nat) (fun s_ => [(1, (T.op 0 0)), (2, T.nils), (3, (T.os 1 2 0 ((((layG g).take s_).map ((eSl 1 eInt) true)).length))), (7, (T.os 4 1 0 (((slotsG g).map (eSlot true)).length))), (8, (tN ((slotsG g).length))), (9, (tN s_))]) (fun s_ => mkO [(0, (Obj.cells (eGrid false g))), (1, (Obj.rows 4 ((slotsG g).map (eSlot true)))), (2, (Obj.rows 1 (((layG g).take s_).map ((eSl 1 eInt) true))))]) 3 (fun s_ => s_ ≤ (slotsG g).length) (fun s_ => (slotsG g).length - s_) (0 : Nat) ?_ (Wk.mk (fun k => k) ?_ ?_ ?_) ?_
  · first | trivial | (simp; done) | omega | (constructor <;> simp)
  · exact (b2 (b2 (bc ⟨(congrArg (fun n_ => T.os 1 2 0 n_) (show 0 = (((layG g).take 0).map ((eSl 1 eInt) true)).length from (by first | rfl | (simp only [List.length_map]; omega) | (simp only [List.length_map, List.length_set, List.length_append, List.length_take, List.length_replicate, List.length_cons, List.length_nil]; omega)))), rfl⟩ (b2 (b2 (b2 (bn)))))))
  · exact (b3 (b3 (bc ⟨(congrArg (fun l_ => some (Obj.rows 1 l_)) he1), (lb rfl), rfl⟩ (bn))))
  · show List.Nodup ([0, 1, 2] : List Nat)
    decide
  rintro i (hI' : i ≤ (slotsG g).length)
  show VRun _ _ _ [(1, (T.op 0 0)), (2, T.nils), (3, (T.os 1 2 0 ((((layG g).take i).map ((eSl 1 eInt) true)).length))), (7, (T.os 4 1 0 (((slotsG g).map (eSlot true)).length))), (8, (tN ((slotsG g).length))), (9, (tN i))] (mkO [(0, (Obj.cells (eGrid false g))), (1, (Obj.rows 4 ((slotsG g).map (eSlot true)))), (2, (Obj.rows 1 (((layG g).take i).map ((eSl 1 eInt) true))))]) 3 _
  have hI1 := hI'
  refine sr (fO (B.lss (c := (decide (i < (slotsG g).length))) (tv (tN i) rfl) (tv (tN ((slotsG g).length)) rfl) (by first | exact slotsG_ok (List.mem_of_getElem? hx1) | (rw [List.length_map, List.length_take]; simp only [List.length_cons, List.length_nil]; omega) | (exact decN (by omega)))) (nt (sq ?_)))
  refine cd (i < (slotsG g).length) rfl (fun fhc0 => ?_) fun fhc0 => ?_
  · refine sk ?_
    refine tn (sq (VRun.block (sr ?_)))
    obtain ⟨x1, hx1⟩ : ∃ x, (slotsG g)[i]? = some x := ⟨_, List.getElem?_eq_getElem (by first | exact slotsG_ok (List.mem_of_getElem? hx1) | (rw [List.length_map, List.length_take]; simp only [List.length_cons, List.length_nil]; omega) | omega)⟩
    refine fO (B.indexAddrO (i := i) (tv (T.os 4 1 0 (((slotsG g).map (eSlot true)).length)) rfl) (tv (tN i) rfl) rfl (by first | exact slotsG_ok (List.mem_of_getElem? hx1) | (rw [List.length_map, List.length_take]; simp only [List.length_cons, List.length_nil]; omega) | omega | (simp only [List.length_map]; omega) | (simp only [List.length_map, List.length_append, List.length_cons, List.length_nil, List.length_replicate, List.length_set, List.length_drop, List.length_take, lim] at *; omega)) Try.underlying62 sz83 if83) (lO (OL.loadPn (us := (eSlot false x1)) (row := (eSlot true x1)) (tv (T.orp 4 1 i 0) rfl) rfl (map_at _ hx1) st83 sz83 (lb rfl) rfl (bc rfl (bc rfl (bc rfl (bc rfl (bn)))))) (kO (B.alloc (t := (T.agg [(tN 0), (tB false), (tN 0), (tN 0)])) (ts := [(tN 0), (tB false), (tN 0), (tN 0)]) zo83 zc83 nofun (fun _ => .agg _ _ rfl (RLof (RL.cons (.int _ _) (RL.cons (.bool _) (RL.cons (.int _ _) (RL.cons (.int _ _) (RL.nil _))))))) rfl) (cO (B.storeO (us := (eSlot false x1)) (ws := (eSlot false x1)) (tv (T.op 3 0) rfl) (tv (T.agg (eSlot false x1)) rfl) nofun rfl rfl (lb rfl) if83 sz83 (bc rfl (bc rfl (bc rfl (bc rfl (bn))))) rfl) (nt (VRun.region (mO (T.os 1 2 0 ((((layG g).take i).map ((eSl 1 eInt) true)).length)) rfl (lO (OL.loadOn (us := (eGrid false g)) (tv (T.op 0 0) rfl) rfl st29 sz29 (lb rfl) rfl) (lO (OL.loadOn (us := (eSlot false x1)) (tv (T.op 3 0) rfl) rfl st83 sz83 (lb rfl) rfl) (cO (OC.callF (us := [(T.agg (eGrid false g)), (T.agg (eSlot false x1))]) (r := (T.sl true 1 ((cellsS g x1 x1.Length.toNat).map (eInt true)))) (r' := (T.os 1 4 0 (((cellsS g x1 x1.Length.toNat).map (eInt true)).length))) (objs := [(Obj.rows 1 ((cellsS g x1 x1.Length.toNat).map (eInt true)))]) rfl (vc (tv (T.agg (eGrid false g)) rfl) (vc (tv (T.agg (eSlot false x1)) rfl) VEvs.nil)) (LendL.cons (lg okeGrid) (LendL.cons (lg okeSlot) (LendL.nil))) (W_impl_cells (n + 2) g x1 (by first | exact slotsG_ok (List.mem_of_getElem? hx1) | (rw [List.length_map, List.length_take]; simp only [List.length_cons, List.length_nil]; omega) | assumption | omega)) rfl) ?_)))))))))
    refine B.sliceB (t := (T.os 1 4 0 (((cellsS g x1 x1.Length.toNat).map (eInt true)).length))) (us := [(T.os 1 4 0 (((cellsS g x1 x1.Length.toNat).map (eInt true)).length))]) (rows := [[(T.sl true 1 ((cellsS g x1 x1.Length.toNat).map (eInt true)))]]) VWant.always (VEvp.cons (tv (T.os 1 4 0 (((cellsS g x1 x1.Length.toNat).map (eInt true)).length)) rfl) VEvp.nil) nofun rfl (Bury.os rfl rfl Bury.nil (by decide)) rfl (bc rfl bn) rfl Try.underlying85 zo36 (by kernel_rfl) rfl (by rw [sz36]; decide) sz36 (Nat.le_of_ble_eq_true rfl) ?_
    refine cO (B.append (rows := (((layG g).take i).map ((eSl 1 eInt) true))) (rows2 := [[(T.sl true 1 ((cellsS g x1 x1.Length.toNat).map (eInt true)))]]) (rows3 := (((layG g).take i ++ [cellsS g x1 x1.Length.toNat]).map ((eSl 1 eInt) true))) (VDst.own (tv (T.os 1 2 0 ((((layG g).take i).map ((eSl 1 eInt) true)).length)) rfl) rfl rfl) (VSrc.own (tv (T.os 1 5 0 1) rfl) rfl rfl Try.underlying85 (bc (bc rfl (bn)) (bn))) (by decide) Try.underlying85 sz36 (by decide) zo36 rfl (of_decide_eq_true (by kernel_rfl)) (by first | exact slotsG_ok (List.mem_of_getElem? hx1) | (rw [List.length_map, List.length_take]; simp only [List.length_cons, List.length_nil]; omega) | omega | (simp only [List.length_map]; omega) | (simp only [List.length_map, List.length_append, List.length_cons, List.length_nil, List.length_replicate, List.length_set, List.length_drop, List.length_take, lim] at *; omega)) ((List.map_append (f := (eSl 1 eInt) true) (l₁ := (layG g).take i) (l₂ := [cellsS g x1 x1.Length.toNat])).symm)) (aO (T.os 1 6 0 ((((layG g).take i ++ [cellsS g x1 x1.Length.toNat]).map ((eSl 1 eInt) true)).length)) rfl (VRunO.nil (vinB.n (tn (VRun.region (fO (B.add (n := (((i + 1) : Nat) : Int)) (tv (tN i) rfl) (VEv.int .i64 1) (by first | exact slotsG_ok (List.mem_of_getElem? hx1) | (rw [List.length_map, List.length_take]; simp only [List.length_cons, List.length_nil]; omega) | rfl | (rw [wrap64 (by omega)]; omega) | (rw [wrap64 (by omega)]; done))) (mO (tN (i + 1)) rfl (VRunO.nil (tn ?_)))))))))
    have he2 : ((layG g).take i ++ [cellsS g x1 x1.Length.toNat]) = (layG g).take (i + 1) := by first | rfl | (exact (layG_next hx1).symm) | (simp; done) | omega
    refine ⟨(i + 1 : Nat), ?_, ?_, Wk.mk (fun k => if k = 2 then 6 else  k) ?_ ?_ ?_⟩
    · first | trivial | omega | (simp; done) | exact ⟨by omega, hI'.2⟩
    · first | omega | (simp only []; omega) | (show _ < _; omega) | (simp; omega)
    · exact (b2 (b2 (bc ⟨(congrArg (fun l_ => T.os 1 6 0 (List.map ((eSl 1 eInt) true) l_).length) he2), rfl⟩ (b2 (b2 (b2 (bn)))))))
    · exact (b3 (b3 (bc ⟨(congrArg (fun l_ => some (Obj.rows 1 (List.map ((eSl 1 eInt) true) l_))) he2), (lb rfl), rfl⟩ (bn))))
    · show List.Nodup ([0, 1, 6] : List Nat)
      decide
  refine VRun.exit (vthn.e (vthn.e (vinB.e (tn (sr (mO (T.os 1 2 0 ((((layG g).take i).map ((eSl 1 eInt) true)).length)) rfl (aO (T.os 1 2 0 ((((layG g).take i).map ((eSl 1 eInt) true)).length)) rfl (nt (rt ?_)))))))))
  refine vfin.eq (r' := (T.sl true 1 (((layG g).take i).map ((eSl 1 eInt) true)))) ?_ (vfin.r (VRes.tmp (t := (T.os 1 2 0 ((((layG g).take i).map ((eSl 1 eInt) true)).length))) rfl VRes.nil) (Give.os rfl rfl ((okSl okInt).cleanMap _)))
  show (T.sl true 1 (((layG g).take i).map ((eSl 1 eInt) true))) = (T.sl true 1 ((layG g).map ((eSl 1 eInt) true)))
  refine congrArg (fun l_ => T.sl true 1 (List.map ((eSl 1 eInt) true) l_)) ?_
  rw [List.take_of_length_le (by omega)]
end Go.Proofs.Ytjclbdgjkecbeaa.AE
namespace Go.Proofs.Ytjclbdgjkecbeaa.AE
open Go Go.RowKit
set_option linter.unusedVariables false
set_option linter.unusedSimpArgs false
set_option maxRecDepth 20000
set_option maxHeartbeats 2000000
noncomputable section
theorem slotsN_cell (g : D.Grid) : ∀ i, ∀ s ∈ (slotsN g i).1, s.Cell < ((i : Nat) : Int)
  | 0, s, hs => by simp [slotsN] at hs
  | i + 1, s, hs => by
    rw [slotsN1, List.mem_append, List.mem_append] at hs
    rcases hs with (hs | hs) | hs
    · have := slotsN_cell g i s hs
      omega
    · split at hs
      · obtain rfl := List.mem_singleton.1 hs
        simp only; omega
      · cases hs
    · split at hs
      · obtain rfl := List.mem_singleton.1 hs
        simp only; omega
      · cases hs
theorem slotsN_nodup (g : D.Grid) : ∀ i, (slotsN g i).1.Nodup
  | 0 => by simp [slotsN]
  | i + 1 => by
    have h := slotsN_cell g i
    rw [slotsN1, List.nodup_append, List.nodup_append]
    refine ⟨⟨slotsN_nodup g i, by split <;> simp, fun a ha b hb e => ?_⟩, by split <;> simp, fun a ha b hb e => ?_⟩
    · split at hb
      · obtain rfl := List.mem_singleton.1 hb
        have := h a ha
        rw [e] at this
        simp only at this
        omega
      · cases hb
    · split at hb
      · obtain rfl := List.mem_singleton.1 hb
        rcases List.mem_append.1 ha with ha | ha
        · have := h a ha
          rw [e] at this
          simp only at this
          omega
        · split at ha
          · obtain rfl := List.mem_singleton.1 ha
            cases e
          · cases ha
      · cases hb
theorem slotsG_nodup (g : D.Grid) : (slotsG g).Nodup := by
  unfold slotsG
  split
  · exact slotsN_nodup g _
  · simp
def hitN (g : D.Grid) (s : D.Slot) (i : Nat) : List Int := if s ∈ (slotsG g).take i then cellsS g s s.Length.toNat else []
theorem hit_no {g : D.Grid} {s x : D.Slot} {i : Nat} (h : (slotsG g)[i]? = some x) (hn : ¬ x = s) : hitN g s (i + 1) = hitN g s i := by
  unfold hitN
  rw [List.take_add_one, h]
  simp [show ¬ s = x from fun e => hn e.symm]
theorem hit_zero {g : D.Grid} {s x : D.Slot} {i : Nat} (h : (slotsG g)[i]? = some x) (hn : x = s) : hitN g s i = [] := by
  subst hn
  refine if_neg fun hm => ?_
  have hd := slotsG_nodup g
  have hi := (List.getElem?_eq_some_iff.1 h).1
  rw [← List.take_append_drop i (slotsG g), List.nodup_append] at hd
  refine hd.2.2 x hm x ?_ rfl
  rw [List.drop_eq_getElem_cons hi, (List.getElem?_eq_some_iff.1 h).2]
  exact List.mem_cons_self
theorem hit_yes {g : D.Grid} {s x : D.Slot} {i : Nat} (h : (slotsG g)[i]? = some x) (hn : x = s) : hitN g s (i + 1) = cellsS g s s.Length.toNat := by
  subst hn
  refine if_pos ?_
  rw [List.take_add_one, h]
  simp
theorem hit_end {g : D.Grid} {s x : D.Slot} {i k : Nat} (h : (slotsG g)[i]? = some x) (hn : x = s) (h1 : ¬ ((k : Nat) : Int) < s.Length) (h2 : k ≤ s.Length.toNat) : cellsS g s k = hitN g s (i + 1) := by
  rw [hit_yes h hn, show k = s.Length.toNat by omega]
theorem hit_all (g : D.Grid) (s : D.Slot) {i : Nat} (h : (slotsG g).length ≤ i) : hitN g s i = if s ∈ slotsG g then cellsS g s s.Length.toNat else [] := by
  rw [hitN, List.take_of_length_le h]
end
theorem W_spec_CellsOf (n : Nat) (g : D.Grid) (s : D.Slot) (hc : g.Cells.size ≤ maxLen) : Pure (acall Try.prog (n + 4)) 62 [(T.agg (eGrid false g)), (T.agg (eSlot false s))] (T.sl true 1 ((if s ∈ slotsG g then cellsS g s s.Length.toNat else []).map (eInt true))) := by
  refine Pure.intro (rs := [ResultVar.tmp 4]) Try.func62 rfl rfl rfl (E0 := [(0, (T.agg (eGrid false g))), (1, (T.agg (eSlot false s)))]) rfl ?_
  obtain ⟨hlim, hmx, hmax⟩ := lims
  have hsl := slotsG_len g
  refine sr (kO (B.box (ts := (eGrid false g)) (tv (T.agg (eGrid false g)) rfl) nofun rfl) (kO (B.box (ts := (eSlot false s)) (tv (T.agg (eSlot false s)) rfl) nofun rfl) (fO (OF.assign VEv.nils) (nt (sr (kO (OM.slice0 Try.underlying36 zo3 (by kernel_rfl) rfl (by rw [sz3]; decide) sz3) (aO (T.os 1 2 0 0) rfl (nt (sr (lO (OL.loadOn (us := (eGrid false g)) (tv (T.op 0 0) rfl) rfl st29 sz29 (lb rfl) rfl) (cO (OC.callF (us := [(T.agg (eGrid false g))]) (r := (T.sl true 4 ((slotsG g).map (eSlot true)))) (r' := (T.os 4 3 0 (((slotsG g).map (eSlot true)).length))) (objs := [(Obj.rows 4 ((slotsG g).map (eSlot true)))]) rfl (vc (tv (T.agg (eGrid false g)) rfl) VEvs.nil) (LendL.cons (lg okeGrid) (LendL.nil)) (W_spec_SlotsOf (n + 0) g (by first | (refine mulWn ?_ ?_ ?_ <;> omega) | assumption | omega)) rfl) ?_)))))))))))
  refine aO (T.os 4 3 0 (((slotsG g).map (eSlot true)).length)) rfl (nt (sq (sr (fO (OF.assign (VEv.int .i64 0)) (nt (VRun.block ?_))))))
  have he1 : [] = ((hitN g s 0).map (eInt true)) := by first | rfl | (exact (hit_no hx1 fhc1).symm) | (exact hit_end hx1 fhc1 fhc2 hJ1) | (simp; done) | omega
  refine VRun.loop (A := Nat) (fun s_ => [(2, (T.op 0 0)), (3, (T.op 1 0)), (4, T.nils), (5, (T.os 1 3 0 (((hitN g s s_).map (eInt true)).length))), (6, (T.os 4 2 0 (((slotsG g).map (eSlot true)).length))), (7, (tN s_))]) (fun s_ => mkO [(0, (Obj.cells (eGrid false g))), (1, (Obj.cells (eSlot false s))), (2, (Obj.rows 4 ((slotsG g).map (eSlot true)))), (3, (Obj.rows 1 ((hitN g s s_).map (eInt true))))]) 4 (fun s_ => s_ ≤ (slotsG g).length) (fun s_ => (slotsG g).length - s_) (0 : Nat) ?_ (Wk.mk (fun k => if k = 2 then 3 else if k = 3 then 2 else  k) ?_ ?_ ?_) ?_
  · first | trivial | (simp; done) | omega | (constructor <;> simp)
  · exact (b2 (b2 (b2 (bc ⟨(congrArg (fun n_ => T.os 1 2 0 n_) (show 0 = ((hitN g s 0).map (eInt true)).length from (by first | rfl | (simp only [List.length_map]; omega) | (simp only [List.length_map, List.length_set, List.length_append, List.length_take, List.length_replicate, List.length_cons, List.length_nil]; omega)))), rfl⟩ (b2 (b2 (bn)))))))
  · exact (b3 (b3 (b3 (bc ⟨(congrArg (fun l_ => some (Obj.rows 1 l_)) he1), (lb rfl), rfl⟩ (bn)))))
  · show List.Nodup ([0, 1, 3, 2] : List Nat)
    decide
  rintro i (hI' : i ≤ (slotsG g).length)
  show VRun _ _ _ [(2, (T.op 0 0)), (3, (T.op 1 0)), (4, T.nils), (5, (T.os 1 3 0 (((hitN g s i).map (eInt true)).length))), (6, (T.os 4 2 0 (((slotsG g).map (eSlot true)).length))), (7, (tN i))] (mkO [(0, (Obj.cells (eGrid false g))), (1, (Obj.cells (eSlot false s))), (2, (Obj.rows 4 ((slotsG g).map (eSlot true)))), (3, (Obj.rows 1 ((hitN g s i).map (eInt true))))]) 4 _
  have hI1 := hI'
  refine sq (sr (mO (tN i) rfl (mO (T.os 4 2 0 (((slotsG g).map (eSlot true)).length)) rfl (lO (B.lenO (m := (slotsG g).length) (tv (T.os 4 2 0 (((slotsG g).map (eSlot true)).length)) rfl) Try.underlying62 (List.length_map ..)) (fO (B.lss (c := (decide (i < (slotsG g).length))) (tv (tN i) rfl) (tv (tN ((slotsG g).length)) rfl) (by first | (refine mulWn ?_ ?_ ?_ <;> omega) | (exact decN (by omega)))) (nt ?_))))))
  refine cd (i < (slotsG g).length) rfl (fun fhc0 => ?_) fun fhc0 => ?_
  · refine sk ?_
    refine tn (sq (VRun.block (sq (sq (VRun.draw (B := [[], [], [1, 0], [0, 1, 2], [], [4, 2, 1, 0, 3]]) (by kernel_rfl) (by kernel_rfl) (mD (T.os 4 2 0 (((slotsG g).map (eSlot true)).length)) rfl rfl (mD (tN i) rfl rfl ?_)))))))
    obtain ⟨x1, hx1⟩ : ∃ x, (slotsG g)[i]? = some x := ⟨_, List.getElem?_eq_getElem (by first | (refine mulWn ?_ ?_ ?_ <;> omega) | omega)⟩
    refine fD (B.indexAddrO (i := i) (tv (T.os 4 2 0 (((slotsG g).map (eSlot true)).length)) rfl) (tv (tN i) rfl) rfl (by first | (refine mulWn ?_ ?_ ?_ <;> omega) | omega | (simp only [List.length_map]; omega) | (simp only [List.length_map, List.length_append, List.length_cons, List.length_nil, List.length_replicate, List.length_set, List.length_drop, List.length_take, lim] at *; omega)) Try.underlying62 sz83 if83) rfl rfl (lD (OL.loadPn (us := (eSlot false x1)) (row := (eSlot true x1)) (tv (T.orp 4 2 i 0) rfl) rfl (map_at _ hx1) st83 sz83 (lb rfl) rfl (bc rfl (bc rfl (bc rfl (bc rfl (bn)))))) rfl rfl (lD (OL.loadOn (us := (eSlot false s)) (tv (T.op 1 0) rfl) rfl st83 sz83 (lb rfl) rfl) rfl rfl (fD (B.neq83 (a := x1) (b := s) (m := false) (m' := false) (tv (T.agg (eSlot false x1)) rfl) (tv (T.agg (eSlot false s)) rfl)) rfl rfl (VRunD.nil (tn ?_)))))
    refine cn (x1 = s) rfl (fun fhc1 => ?_) fun fhc1 => ?_
    · refine VRun.exit ?_
      refine vthn.e (vinB.e (tn (VRun.region (mO (tN i) rfl (fO (B.add (n := (((i + 1) : Nat) : Int)) (tv (tN i) rfl) (VEv.int .i64 1) (by first | (refine mulWn ?_ ?_ ?_ <;> omega) | rfl | (rw [wrap64 (by omega)]; omega) | (rw [wrap64 (by omega)]; done))) (aO (tN (i + 1)) rfl (VRunO.nil (tn ?_))))))))
      have he2 : hitN g s i = hitN g s (i + 1) := by first | rfl | (exact (hit_no hx1 fhc1).symm) | (exact hit_end hx1 fhc1 fhc2 hJ1) | (simp; done) | omega
      refine ⟨(i + 1 : Nat), ?_, ?_, Wk.mk (fun k => k) ?_ ?_ ?_⟩
      · first | trivial | omega | (simp; done) | exact ⟨by omega, hI'.2⟩
      · first | omega | (simp only []; omega) | (show _ < _; omega) | (simp; omega)
      · exact (b2 (b2 (b2 (bc ⟨(congrArg (fun l_ => T.os 1 3 0 (List.map (eInt true) l_).length) he2), rfl⟩ (b2 (b2 (bn)))))))
      · exact (b3 (b3 (b3 (bc ⟨(congrArg (fun l_ => some (Obj.rows 1 (List.map (eInt true) l_))) he2), (lb rfl), rfl⟩ (bn)))))
      · show List.Nodup ([0, 1, 2, 3] : List Nat)
        decide
    have hok : slotOk g s := fhc1 ▸ slotsG_ok (List.mem_of_getElem? hx1)
    obtain ⟨hg, hcc, hll⟩ := hok
    have hB := hg.2.1
    refine sk (tn (sr (fO (OF.assign (VEv.int .i64 0)) (nt (VRun.block ?_)))))
    have he3 : hitN g s i = cellsS g s 0 := by first | rfl | (rw [hit_zero hx1 fhc1]; rfl) | (rw [cellsS_next, stepS, if_pos fhc3]) | (rw [cellsS_next, stepS, fhc3]; simp; done) | (simp; done) | omega
    refine VRun.loop (A := Nat) (fun s_ => [(2, (T.op 0 0)), (3, (T.op 1 0)), (4, T.nils), (5, (T.os 1 3 0 (((cellsS g s s_).map (eInt true)).length))), (6, (T.os 4 2 0 (((slotsG g).map (eSlot true)).length))), (7, (tN i)), (8, (tN s_))]) (fun s_ => mkO [(0, (Obj.cells (eGrid false g))), (1, (Obj.cells (eSlot false s))), (2, (Obj.rows 4 ((slotsG g).map (eSlot true)))), (3, (Obj.rows 1 ((cellsS g s s_).map (eInt true))))]) 4 (fun s_ => s_ ≤ s.Length.toNat) (fun s_ => s.Length.toNat - s_) (0 : Nat) ?_ (Wk.mk (fun k => k) ?_ ?_ ?_) ?_
    · first | trivial | (simp; done) | omega | (constructor <;> simp)
    · exact (b2 (b2 (b2 (bc ⟨(congrArg (fun l_ => T.os 1 3 0 (List.map (eInt true) l_).length) he3), rfl⟩ (b2 (b2 (b2 (bn))))))))
    · exact (b3 (b3 (b3 (bc ⟨(congrArg (fun l_ => some (Obj.rows 1 (List.map (eInt true) l_))) he3), (lb rfl), rfl⟩ (bn)))))
    · show List.Nodup ([0, 1, 2, 3] : List Nat)
      decide
    rintro k (hI' : k ≤ s.Length.toNat)
    show VRun _ _ _ [(2, (T.op 0 0)), (3, (T.op 1 0)), (4, T.nils), (5, (T.os 1 3 0 (((cellsS g s k).map (eInt true)).length))), (6, (T.os 4 2 0 (((slotsG g).map (eSlot true)).length))), (7, (tN i)), (8, (tN k))] (mkO [(0, (Obj.cells (eGrid false g))), (1, (Obj.cells (eSlot false s))), (2, (Obj.rows 4 ((slotsG g).map (eSlot true)))), (3, (Obj.rows 1 ((cellsS g s k).map (eInt true))))]) 4 _
    have hJ1 := hI'
    have hN := mulN (n := k) (c := g.Cols) (by omega) hB.1 hB.2
    have hcl := cellsS_len g s k
    refine sq (sr (mO (tN k) rfl (fO (OF.fieldAddrO (tv (T.op 1 0) rfl) fa83_3) (lO (OL.loadO1 (t := (tI s.Length)) (tv (T.op 1 3) rfl) rfl rfl st3) (fO (B.lss (c := (decide (((k : Nat) : Int) < s.Length))) (tv (tN k) rfl) (tv (tI s.Length) rfl) rfl) (nt ?_))))))
    refine cd (((k : Nat) : Int) < s.Length) rfl (fun fhc2 => ?_) fun fhc2 => ?_
    · refine sk ?_
      refine tn (sq (VRun.block (sr (fO (OF.fieldAddrO (tv (T.op 1 0) rfl) fa83_1) (lO (OL.loadO1 (t := (tB s.Down)) (tv (T.op 1 1) rfl) rfl rfl st4) (nt ?_))))))
      refine VRun.cond (tv (tB s.Down) rfl) (fun hc3 => ?_) (fun hc3 => ?_)
      · have fhc3 : s.Down = true := hc3
        refine VRun.region (mO (T.os 1 3 0 (((cellsS g s k).map (eInt true)).length)) rfl (fO (OF.fieldAddrO (tv (T.op 1 0) rfl) fa83_2) (lO (OL.loadO1 (t := (tI s.Cell)) (tv (T.op 1 2) rfl) rfl rfl st3) (mO (tN k) rfl (fO (OF.fieldAddrO (tv (T.op 0 0) rfl) fa29_1) (lO (OL.loadO1 (t := (tI g.Cols)) (tv (T.op 0 1) rfl) rfl rfl st3) (fO (B.mul (n := (((k : Nat) : Int) * g.Cols)) (tv (tN k) rfl) (tv (tI g.Cols) rfl) (by first | (refine mulWn ?_ ?_ ?_ <;> omega) | rfl | (rw [wrap64 (by omega)]; omega) | (rw [wrap64 (by omega)]; done))) (fO (B.add (n := (s.Cell + (((k : Nat) : Int) * g.Cols))) (tv (tI s.Cell) rfl) (tv (tI (((k : Nat) : Int) * g.Cols)) rfl) (by first | (refine mulWn ?_ ?_ ?_ <;> omega) | rfl | (rw [wrap64 (by omega)]; omega) | (rw [wrap64 (by omega)]; done))) (kO (OM.buildSlice (l := [(tI (s.Cell + (((k : Nat) : Int) * g.Cols)))]) (VEvp.cons (tv (tI (s.Cell + (((k : Nat) : Int) * g.Cols))) rfl) VEvp.nil) rfl (by decide) (bc (nofun) (bn)) (bc ((bc (rfl) (bn))) (bn)) (bc (rfl) (bn)) Try.underlying36 zo3 (by kernel_rfl) rfl (by rw [sz3]; decide) sz3 (Nat.le_of_ble_eq_true rfl)) (cO (B.append (rows := ((cellsS g s k).map (eInt true))) (rows2 := [[(tI (s.Cell + (((k : Nat) : Int) * g.Cols)))]]) (rows3 := ((cellsS g s k ++ [(s.Cell + (((k : Nat) : Int) * g.Cols))]).map (eInt true))) (VDst.own (tv (T.os 1 3 0 (((cellsS g s k).map (eInt true)).length)) rfl) rfl rfl) (VSrc.own (tv (T.os 1 4 0 1) rfl) rfl rfl Try.underlying36 (bc (bc rfl (bn)) (bn))) (by decide) Try.underlying36 sz3 (by decide) zo3 rfl (of_decide_eq_true (by kernel_rfl)) (by first | (refine mulWn ?_ ?_ ?_ <;> omega) | omega | (simp only [List.length_map]; omega) | (simp only [List.length_map, List.length_append, List.length_cons, List.length_nil, List.length_replicate, List.length_set, List.length_drop, List.length_take, lim] at *; omega)) ((List.map_append (f := eInt true) (l₁ := cellsS g s k) (l₂ := [(s.Cell + (((k : Nat) : Int) * g.Cols))])).symm)) (aO (T.os 1 5 0 (((cellsS g s k ++ [(s.Cell + (((k : Nat) : Int) * g.Cols))]).map (eInt true)).length)) rfl ?_)))))))))))
        refine VRunO.nil (vinB.n (tn (VRun.region (mO (tN k) rfl (fO (B.add (n := (((k + 1) : Nat) : Int)) (tv (tN k) rfl) (VEv.int .i64 1) (by first | (refine mulWn ?_ ?_ ?_ <;> omega) | rfl | (rw [wrap64 (by omega)]; omega) | (rw [wrap64 (by omega)]; done))) (aO (tN (k + 1)) rfl (VRunO.nil (tn ?_))))))))
        have he4 : (cellsS g s k ++ [(s.Cell + (((k : Nat) : Int) * g.Cols))]) = cellsS g s (k + 1) := by first | rfl | (rw [hit_zero hx1 fhc1]; rfl) | (rw [cellsS_next, stepS, if_pos fhc3]) | (rw [cellsS_next, stepS, fhc3]; simp; done) | (simp; done) | omega
        refine ⟨(k + 1 : Nat), ?_, ?_, Wk.mk (fun k => if k = 3 then 5 else  k) ?_ ?_ ?_⟩
        · first | trivial | omega | (simp; done) | exact ⟨by omega, hI'.2⟩
        · first | omega | (simp only []; omega) | (show _ < _; omega) | (simp; omega)
        · exact (b2 (b2 (b2 (bc ⟨(congrArg (fun l_ => T.os 1 5 0 (List.map (eInt true) l_).length) he4), rfl⟩ (b2 (b2 (b2 (bn))))))))
        · exact (b3 (b3 (b3 (bc ⟨(congrArg (fun l_ => some (Obj.rows 1 (List.map (eInt true) l_))) he4), (lb rfl), rfl⟩ (bn)))))
        · show List.Nodup ([0, 1, 2, 5] : List Nat)
          decide
      have fhc3 : s.Down = false := hc3
      refine VRun.region (mO (T.os 1 3 0 (((cellsS g s k).map (eInt true)).length)) rfl (fO (OF.fieldAddrO (tv (T.op 1 0) rfl) fa83_2) (lO (OL.loadO1 (t := (tI s.Cell)) (tv (T.op 1 2) rfl) rfl rfl st3) (mO (tN k) rfl (fO (B.add (n := (s.Cell + ((k : Nat) : Int))) (tv (tI s.Cell) rfl) (tv (tN k) rfl) (by first | (refine mulWn ?_ ?_ ?_ <;> omega) | rfl | (rw [wrap64 (by omega)]; omega) | (rw [wrap64 (by omega)]; done))) (kO (OM.buildSlice (l := [(tI (s.Cell + ((k : Nat) : Int)))]) (VEvp.cons (tv (tI (s.Cell + ((k : Nat) : Int))) rfl) VEvp.nil) rfl (by decide) (bc (nofun) (bn)) (bc ((bc (rfl) (bn))) (bn)) (bc (rfl) (bn)) Try.underlying36 zo3 (by kernel_rfl) rfl (by rw [sz3]; decide) sz3 (Nat.le_of_ble_eq_true rfl)) (cO (B.append (rows := ((cellsS g s k).map (eInt true))) (rows2 := [[(tI (s.Cell + ((k : Nat) : Int)))]]) (rows3 := ((cellsS g s k ++ [(s.Cell + ((k : Nat) : Int))]).map (eInt true))) (VDst.own (tv (T.os 1 3 0 (((cellsS g s k).map (eInt true)).length)) rfl) rfl rfl) (VSrc.own (tv (T.os 1 4 0 1) rfl) rfl rfl Try.underlying36 (bc (bc rfl (bn)) (bn))) (by decide) Try.underlying36 sz3 (by decide) zo3 rfl (of_decide_eq_true (by kernel_rfl)) (by first | (refine mulWn ?_ ?_ ?_ <;> omega) | omega | (simp only [List.length_map]; omega) | (simp only [List.length_map, List.length_append, List.length_cons, List.length_nil, List.length_replicate, List.length_set, List.length_drop, List.length_take, lim] at *; omega)) ((List.map_append (f := eInt true) (l₁ := cellsS g s k) (l₂ := [(s.Cell + ((k : Nat) : Int))])).symm)) (aO (T.os 1 5 0 (((cellsS g s k ++ [(s.Cell + ((k : Nat) : Int))]).map (eInt true)).length)) rfl (VRunO.nil (vinB.n (tn ?_)))))))))))
      refine VRun.region (mO (tN k) rfl (fO (B.add (n := (((k + 1) : Nat) : Int)) (tv (tN k) rfl) (VEv.int .i64 1) (by first | (refine mulWn ?_ ?_ ?_ <;> omega) | rfl | (rw [wrap64 (by omega)]; omega) | (rw [wrap64 (by omega)]; done))) (aO (tN (k + 1)) rfl (VRunO.nil (tn ?_)))))
      have he5 : (cellsS g s k ++ [(s.Cell + ((k : Nat) : Int))]) = cellsS g s (k + 1) := by first | rfl | (rw [hit_zero hx1 fhc1]; rfl) | (rw [cellsS_next, stepS, if_pos fhc3]) | (rw [cellsS_next, stepS, fhc3]; simp; done) | (simp; done) | omega
      refine ⟨(k + 1 : Nat), ?_, ?_, Wk.mk (fun k => if k = 3 then 5 else  k) ?_ ?_ ?_⟩
      · first | trivial | omega | (simp; done) | exact ⟨by omega, hI'.2⟩
      · first | omega | (simp only []; omega) | (show _ < _; omega) | (simp; omega)
      · exact (b2 (b2 (b2 (bc ⟨(congrArg (fun l_ => T.os 1 5 0 (List.map (eInt true) l_).length) he5), rfl⟩ (b2 (b2 (b2 (bn))))))))
      · exact (b3 (b3 (b3 (bc ⟨(congrArg (fun l_ => some (Obj.rows 1 (List.map (eInt true) l_))) he5), (lb rfl), rfl⟩ (bn)))))
      · show List.Nodup ([0, 1, 2, 5] : List Nat)
        decide
    refine VRun.exit (vthn.e (vthn.e (vinB.e (vinB.n (tn (VRun.region (mO (tN i) rfl (fO (B.add (n := (((i + 1) : Nat) : Int)) (tv (tN i) rfl) (VEv.int .i64 1) (by first | (refine mulWn ?_ ?_ ?_ <;> omega) | rfl | (rw [wrap64 (by omega)]; omega) | (rw [wrap64 (by omega)]; done))) (aO (tN (i + 1)) rfl (VRunO.nil (tn ?_)))))))))))
    have he6 : cellsS g s k = hitN g s (i + 1) := by first | rfl | (exact (hit_no hx1 fhc1).symm) | (exact hit_end hx1 fhc1 fhc2 hJ1) | (simp; done) | omega
    refine ⟨(i + 1 : Nat), ?_, ?_, Wk.mk (fun k => k) ?_ ?_ ?_⟩
    · first | trivial | omega | (simp; done) | exact ⟨by omega, hI'.2⟩
    · first | omega | (simp only []; omega) | (show _ < _; omega) | (simp; omega)
    · exact (b2 (b2 (b2 (bc ⟨(congrArg (fun l_ => T.os 1 3 0 (List.map (eInt true) l_).length) he6), rfl⟩ (b2 (b2 (bn)))))))
    · exact (b3 (b3 (b3 (bc ⟨(congrArg (fun l_ => some (Obj.rows 1 (List.map (eInt true) l_))) he6), (lb rfl), rfl⟩ (bn)))))
    · show List.Nodup ([0, 1, 2, 3] : List Nat)
      decide
  refine VRun.exit (vthn.e (vthn.e (vinB.e (tn (sr (mO (T.os 1 3 0 (((hitN g s i).map (eInt true)).length)) rfl (aO (T.os 1 3 0 (((hitN g s i).map (eInt true)).length)) rfl (nt (rt ?_)))))))))
  refine vfin.eq (r' := (T.sl true 1 ((hitN g s i).map (eInt true)))) ?_ (vfin.r (VRes.tmp (t := (T.os 1 3 0 (((hitN g s i).map (eInt true)).length))) rfl VRes.nil) (Give.os rfl rfl (okInt.cleanMap _)))
  show (T.sl true 1 ((hitN g s i).map (eInt true))) = (T.sl true 1 ((if s ∈ slotsG g then cellsS g s s.Length.toNat else []).map (eInt true)))
  refine congrArg (fun l_ => T.sl true 1 (List.map (eInt true) l_)) ?_
  exact hit_all g s (by omega)
end Go.Proofs.Ytjclbdgjkecbeaa.AE
