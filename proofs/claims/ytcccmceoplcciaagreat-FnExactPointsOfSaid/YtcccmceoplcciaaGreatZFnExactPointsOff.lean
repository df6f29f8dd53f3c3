/- A part of what the row of FnExactPointsOf uses. Conditions: as each theorem states. -/
import Derived.Test.YtcccmceoplcciaaGreatZFnExactPointsOfe
import Derived.Test.YtcccmceoplcciaaGreatProg
import Derived.Shelf.Sort.Plain
import Derived.Shelf.Slices.In.SortNone
import Derived.Shelf.Slices.CompactI
namespace Go.Proofs.YtcccmceoplcciaaGreat.AE
open Go Go.RowKit
set_option linter.unusedVariables false
set_option linter.unusedSimpArgs false
set_option maxRecDepth 20000
set_option maxHeartbeats 2000000
noncomputable section
def isSess (a : D.Puzzle) (s : D.Session) : Prop := isPuz a ∧ isFill a.Grid s.Fill ∧ (0 ≤ s.Checks ∧ s.Checks ≤ 999) ∧ (0 ≤ s.Spent ∧ s.Spent ≤ 999) ∧ (∀ y ∈ s.Asked, 0 ≤ y ∧ y ≤ ((a.Clues.length : Nat) : Int) - 1) ∧ isAsc s.Asked ∧ 0 ≤ s.Start ∧ s.Start ≤ s.Now ∧ s.Now ≤ 1000
instance (a : D.Puzzle) (s : D.Session) : Decidable (isSess a s) := Classical.propDecidable _
theorem isSess_iff (a : D.Puzzle) (s : D.Session) : (((((((isPuz a ∧ isFill a.Grid s.Fill) ∧ (0 ≤ s.Checks ∧ s.Checks ≤ 999)) ∧ (0 ≤ s.Spent ∧ s.Spent ≤ 999)) ∧ (∀ y ∈ s.Asked, 0 ≤ y ∧ y ≤ ((a.Clues.length : Nat) : Int) - 1)) ∧ srtd s.Asked = s.Asked) ∧ (0 ≤ s.Start ∧ s.Start ≤ s.Now)) ∧ s.Now ≤ 1000) ↔ isSess a s := by
  unfold isSess
  rw [srtd_eq]
  simp only [and_assoc]
theorem isSess_of {a : D.Puzzle} {s : D.Session} (h : ∀ j, j < s.Asked.length → ascOk (((a.Clues.length : Nat) : Int) - 1) s.Asked j) : ((((((isPuz a ∧ isFill a.Grid s.Fill) ∧ (0 ≤ s.Checks ∧ s.Checks ≤ 999)) ∧ (0 ≤ s.Spent ∧ s.Spent ≤ 999)) ∧ 0 ≤ s.Start) ∧ s.Start ≤ s.Now) ∧ s.Now ≤ 1000) ↔ isSess a s := by
  have h2 := asc_of.1 h
  unfold isSess
  simp only [and_assoc]
  exact ⟨fun ⟨h3, h4, h5, h6, h7, h8, h9, h10⟩ => ⟨h3, h4, h5, h6, h7, h8, h2.1, h2.2, h9, h10⟩, fun ⟨h3, h4, h5, h6, h7, h8, _, _, h9, h10⟩ => ⟨h3, h4, h5, h6, h7, h8, h9, h10⟩⟩
theorem not_sess {a : D.Puzzle} {s : D.Session} {i : Nat} (hi : i < s.Asked.length) (h : ¬ ascOk (((a.Clues.length : Nat) : Int) - 1) s.Asked i) : ¬ isSess a s := fun h2 => h (asc_of.2 ⟨h2.2.2.2.2.1, h2.2.2.2.2.2.1⟩ i hi)
end
theorem W_spec_IsSession (n : Nat) (a : D.Puzzle) (s : D.Session) (hz : zPuzzle a ≤ mx) (hs : zSession s ≤ mx) : Pure (acall Tryz.prog (n + 11)) 25 [(T.agg (ePuzzle false a)), (T.agg (eSession false s))] (tB (decide (isSess a s))) := by
  refine Pure.intro (rs := [ResultVar.tmp 4]) Tryz.func25 rfl rfl rfl (E0 := [(0, (T.agg (ePuzzle false a))), (1, (T.agg (eSession false s)))]) rfl ?_
  obtain ⟨hlim, hmx, hmax⟩ := lims
  simp only [zSession] at hs
  have hz2 := hz
  simp only [zPuzzle, zGrid] at hz2
  have hl := zL_len (z := zClue) a.Clues
  have hl2 := zL_len (z := zI) s.Asked
  refine sr (kO (B.box (ts := (ePuzzle false a)) (tv (T.agg (ePuzzle false a)) rfl) nofun rfl) (kO (B.box (ts := (eSession false s)) (tv (T.agg (eSession false s)) rfl) nofun rfl) (fO (OF.assign (VEv.bool false)) (nt (sq (sr (fO (OF.assign (VEv.int .i64 0)) (nt (VRun.block ?_)))))))))
  refine VRun.loop (A := Nat) (fun s_ => [(2, (T.op 0 0)), (3, (T.op 1 0)), (5, (tN s_))]) (fun s_ => mkO [(0, (Obj.cells (ePuzzle false a))), (1, (Obj.cells (eSession false s)))]) 2 (fun s_ => s_ ≤ s.Asked.length ∧ ∀ j, j < s_ → ascOk (((a.Clues.length : Nat) : Int) - 1) s.Asked j) (fun s_ => s.Asked.length - s_) (0 : Nat) ?_ (Wk.mk (fun k => k) ?_ ?_ ?_) ?_
  · exact ⟨Nat.zero_le _, fun j hj => by omega⟩
  · exact (b2 (b2 (b2 bn)))
  · exact (b3 (b3 bn))
  · exact nd rfl
  rintro i (hI' : i ≤ s.Asked.length ∧ ∀ j, j < i → ascOk (((a.Clues.length : Nat) : Int) - 1) s.Asked j)
  show VRun _ _ _ [(2, (T.op 0 0)), (3, (T.op 1 0)), (5, (tN i))] (mkO [(0, (Obj.cells (ePuzzle false a))), (1, (Obj.cells (eSession false s)))]) 2 _
  have hI0 := hI'
  refine sq (sr (mO (tN i) rfl (lf (rd 1 eInt s.Asked) rfl fa56_3 rfl rfl st25 (lO (B.lenR (m := s.Asked.length) (tv (rd 1 eInt s.Asked) rfl) U25 (List.length_map ..)) (fO (xls' (tv (tN i) rfl) (tv (tN s.Asked.length) rfl)) (nt ?_))))))
  refine cd (i < s.Asked.length) rfl (fun fhc0 => ?_) fun fhc0 => ?_
  · refine sk ?_
    refine tn (sq (VRun.block (sq (VRun.draw (B := [[], [0], [], [2, 0, 1], [1, 0, 2, 3], [], [5], [5, 6], [6, 5, 7], [7, 5, 6, 8, 3, 2, 0, 1, 4], [4, 1, 0, 2, 3, 8, 6, 5, 7, 9], [9, 7, 5, 6, 8, 3, 2, 0, 1, 4, 10], [10, 4, 1, 0, 2, 3, 8, 6, 5, 7, 9, 11], [11, 9, 7, 5, 6, 8, 3, 2, 0, 1, 4, 10, 12], [12, 10, 4, 1, 0, 2, 3, 8, 6, 5, 7, 9, 11, 13], [13, 11, 9, 7, 5, 6, 8, 3, 2, 0, 1, 4, 10, 12, 14], [14, 12, 10, 4, 1, 0, 2, 3, 8, 6, 5, 7, 9, 11, 13, 15], [13, 11, 9, 7, 5, 6, 8, 3, 2, 0, 1, 4, 10, 12, 14], [14, 12, 10, 4, 1, 0, 2, 3, 8, 6, 5, 7, 9, 11, 13, 17], [17, 18, 15, 13, 11, 9, 7, 5, 6, 8, 3, 2, 0, 1, 4, 10, 12, 14, 16], [16, 14, 12, 10, 4, 1, 0, 2, 3, 8, 6, 5, 7, 9, 11, 13, 15, 18, 17, 19], [13, 11, 9, 7, 5, 6, 8, 3, 2, 0, 1, 4, 10, 12, 14], [14, 12, 10, 4, 1, 0, 2, 3, 8, 6, 5, 7, 9, 11, 13, 21], [13, 11, 9, 7, 5, 6, 8, 3, 2, 0, 1, 4, 10, 12, 14], [23, 21, 13, 11, 9, 7, 5, 6, 8, 3, 2, 0, 1, 4, 10, 12, 14, 22], [22, 14, 12, 10, 4, 1, 0, 2, 3, 8, 6, 5, 7, 9, 11, 13, 21, 23, 24], [24, 23, 21, 22, 25, 19, 17, 18, 15, 13, 11, 9, 7, 5, 6, 8, 3, 2, 0, 1, 4, 10, 12, 14, 16, 20], [20, 16, 15, 18, 17, 19, 25, 22, 21, 23, 24, 26, 13, 11, 9, 7, 5, 6, 8, 3, 2, 0, 1, 4, 10, 12, 14], [14, 12, 13, 26, 24, 23, 21, 22, 25, 19, 17, 18, 15, 16, 20, 27, 10, 4, 1, 0, 2, 3, 8, 6, 5, 7, 9, 11]]) (by kernel_rfl) (by kernel_rfl) (fD (OF.fieldAddrO (tv (T.op 1 0) rfl) fa56_3) rfl rfl (lD (OL.loadO1 (t := (rd 1 eInt s.Asked)) (tv (T.op 1 3) rfl) rfl rfl st25) rfl rfl (mD (tN i) rfl rfl ?_)))))))
    obtain ⟨x1, hx1⟩ : ∃ x, s.Asked[i]? = some x := ⟨_, List.getElem?_eq_getElem (by omega)⟩
    refine fD (OF.indexAddrR (row := (eInt false x1)) (i := i) (tv (rd 1 eInt s.Asked) rfl) (tv (tN i) rfl) rfl (map_at _ hx1) U25 sz3 if3) rfl rfl (lD (OL.loadR1 (t := (tI x1)) (tv (T.rp [(tI x1)]) rfl) rfl st3) rfl rfl (fD (OF.fieldAddrO (tv (T.op 0 0) rfl) fa37_1) rfl rfl (lD (OL.loadO1 (t := (rd 2 eClue a.Clues)) (tv (T.op 0 3) rfl) rfl rfl st35) rfl rfl (lD (B.lenR (m := a.Clues.length) (tv (rd 2 eClue a.Clues) rfl) U35 (List.length_map ..)) rfl rfl (fD (B.sub (n := (((a.Clues.length : Nat) : Int) - 1)) (tv (tN a.Clues.length) rfl) (VEv.int .i64 1) (by first | rfl | (rw [wrap64 (by omega)]; omega) | (rw [wrap64 (by omega)]; done))) rfl rfl (VRunD.quiet (bi := [7, 5, 6, 8, 3, 2, 0, 1, 4]) rfl VWant.always rfl rfl rfl bn (cS (vc (tv (tI x1) rfl) (vc (VEv.int .i64 0) (vc (tv (tI (((a.Clues.length : Nat) : Int) - 1)) rfl) vn))) (lps rfl) (W_spec_l1In (n + 9) x1 0 (((a.Clues.length : Nat) : Int) - 1) ) rfl rfl) (fD (xnot (tv (tB (decide (0 ≤ x1 ∧ x1 ≤ (((a.Clues.length : Nat) : Int) - 1)))) rfl)) rfl rfl (mD (tB (!(decide (0 ≤ x1 ∧ x1 ≤ (((a.Clues.length : Nat) : Int) - 1))))) rfl rfl ?_))))))))
    refine gn (0 ≤ x1 ∧ x1 ≤ (((a.Clues.length : Nat) : Int) - 1)) (fun fhg24_1 => ?_) fun fhg24_1 => ?_
    · refine oD rfl rfl (ny fhg24_1) rfl ?_
      refine oD rfl rfl (ny fhg24_1) rfl (oD rfl rfl (ny fhg24_1) rfl (uD rfl rfl rfl (uD rfl rfl rfl (uD rfl rfl rfl (uD rfl rfl rfl (uD rfl rfl rfl (uD rfl rfl rfl (uD rfl rfl rfl (uD rfl rfl rfl (uD rfl rfl rfl (uD rfl rfl rfl ?_)))))))))))
      refine uD rfl rfl rfl (uD rfl rfl rfl (oD rfl rfl (ny fhg24_1) rfl (fD (OF.pickT (VEv.tmpB rfl (ny fhg24_1)) (VEv.bool true)) rfl rfl (VRunD.nil (tn (ct rfl (sr (fO (OF.assign (VEv.bool false)) (nt (rt (vinB.r ?_)))))))))))
      refine tr (tr (vinB.r (tr (vb (b' := false) rfl ?_))))
      first | (refine decN (isSess_of (allEnd hI' fhc0))) | (symm; rw [decide_eq_false_iff_not]; refine not_sess fhc0 ?_; rintro ⟨y, hy, h3, h7⟩; obtain rfl := same_at hx1 hy; first | omega | (obtain ⟨z, hz, h9⟩ := h7 (by omega); obtain rfl := same_at hx2 hz; omega))
    refine VRunD.free rfl (VWant.on rfl rfl (nz fhg24_1)) rfl (OF.move (tv (tN i) rfl)) (VRunD.free rfl (VWant.on rfl rfl (nz fhg24_1)) rfl (B.gtr (c := (decide (0 < i))) (tv (tN i) rfl) (VEv.int .i64 0) (decN (by omega))) (VRunD.free rfl (VWant.on rfl rfl (nz fhg24_1)) rfl (OF.move (tv (tB (decide (0 < i))) rfl)) ?_))
    refine gw (0 < i) (fun fhg27_2 => ?_) fun fhg27_2 => ?_
    · refine VRunD.free rfl (VWant.on rfl rfl (dy fhg27_2)) rfl (OF.fieldAddrO (tv (T.op 1 0) rfl) fa56_3) ?_
      refine VRunD.look rfl (VWant.on rfl rfl (dy fhg27_2)) rfl (OL.loadO1 (t := (rd 1 eInt s.Asked)) (tv (T.op 1 3) rfl) rfl rfl st25) (VRunD.free rfl (VWant.on rfl rfl (dy fhg27_2)) rfl (OF.move (tv (tN i) rfl)) (VRunD.free rfl (VWant.on rfl rfl (dy fhg27_2)) rfl (B.sub (n := ((i - 1 : Nat) : Int)) (tv (tN i) rfl) (VEv.int .i64 1) (by first | rfl | (rw [wrap64 (by omega)]; omega) | (rw [wrap64 (by omega)]; done))) ?_))
      obtain ⟨x2, hx2⟩ : ∃ x, s.Asked[i - 1]? = some x := ⟨_, List.getElem?_eq_getElem (by omega)⟩
      refine VRunD.free rfl (VWant.on rfl rfl (dy fhg27_2)) rfl (OF.indexAddrR (row := (eInt false x2)) (i := i - 1) (tv (rd 1 eInt s.Asked) rfl) (tv (tN (i - 1)) rfl) rfl (map_at _ hx2) U25 sz3 if3) (VRunD.look rfl (VWant.on rfl rfl (dy fhg27_2)) rfl (OL.loadR1 (t := (tI x2)) (tv (T.rp [(tI x2)]) rfl) rfl st3) (VRunD.free rfl (VWant.on rfl rfl (dy fhg27_2)) rfl (OF.fieldAddrO (tv (T.op 1 0) rfl) fa56_3) (VRunD.look rfl (VWant.on rfl rfl (dy fhg27_2)) rfl (OL.loadO1 (t := (rd 1 eInt s.Asked)) (tv (T.op 1 3) rfl) rfl rfl st25) (VRunD.free rfl (VWant.on rfl rfl (dy fhg27_2)) rfl (OF.move (tv (tN i) rfl)) (VRunD.free rfl (VWant.on rfl rfl (dy fhg27_2)) rfl (OF.indexAddrR (row := (eInt false x1)) (i := i) (tv (rd 1 eInt s.Asked) rfl) (tv (tN i) rfl) rfl (map_at _ hx1) U25 sz3 if3) (VRunD.look rfl (VWant.on rfl rfl (dy fhg27_2)) rfl (OL.loadR1 (t := (tI x1)) (tv (T.rp [(tI x1)]) rfl) rfl st3) (VRunD.free rfl (VWant.on rfl rfl (dy fhg27_2)) rfl (xge (tv (tI x2) rfl) (tv (tI x1) rfl)) (VRunD.free rfl (VWant.on rfl rfl (nz fhg24_1)) rfl (OF.pickT (VEv.tmpB rfl (dy fhg27_2)) (tv (tB (decide (x1 ≤ x2))) rfl)) (fD (OF.pickF (VEv.tmpB rfl (nz fhg24_1)) (tv (tB (decide (x1 ≤ x2))) rfl)) rfl rfl (VRunD.nil (tn ?_)))))))))))
      refine cd (x1 ≤ x2) rfl (fun fhc1 => ?_) fun fhc1 => ?_
      · refine sr ?_
        refine fO (OF.assign (VEv.bool false)) (nt (rt (vinB.r (tr (tr (vinB.r (tr (vb (b' := false) rfl ?_))))))))
        first | (refine decN (isSess_of (allEnd hI' fhc0))) | (symm; rw [decide_eq_false_iff_not]; refine not_sess fhc0 ?_; rintro ⟨y, hy, h3, h7⟩; obtain rfl := same_at hx1 hy; first | omega | (obtain ⟨z, hz, h9⟩ := h7 (by omega); obtain rfl := same_at hx2 hz; omega))
      refine sk (vinB.n (tn (VRun.region (mO (tN i) rfl (fO (xinc (tv (tN i) rfl) (VEv.int .i64 1) (by omega)) (aO (tN (i + 1)) rfl (VRunO.nil (tn ?_))))))))
      refine ⟨(i + 1 : Nat), ?_, ?_, Wk.mk (fun k => k) ?_ ?_ ?_⟩
      · refine allNext hI0 fhc0 ⟨x1, hx1, by omega, fun h0 => ?_⟩
        first | (exact absurd h0 (by omega)) | (refine ⟨x2, hx2, ?_⟩; omega)
      · first | omega | (simp only []; omega) | (show _ < _; omega) | (simp; omega)
      · exact (b2 (b2 (b2 bn)))
      · exact (b3 (b3 bn))
      · exact nd rfl
    refine oD rfl rfl (dz fhg27_2) rfl (oD rfl rfl (dz fhg27_2) rfl (oD rfl rfl (dz fhg27_2) rfl (oD rfl rfl (dz fhg27_2) rfl (oD rfl rfl (dz fhg27_2) rfl (oD rfl rfl (dz fhg27_2) rfl (oD rfl rfl (dz fhg27_2) rfl (oD rfl rfl (dz fhg27_2) rfl (oD rfl rfl (dz fhg27_2) rfl (oD rfl rfl (dz fhg27_2) rfl (oD rfl rfl (dz fhg27_2) rfl (oD rfl rfl (dz fhg27_2) rfl ?_)))))))))))
    refine VRunD.free rfl (VWant.on rfl rfl (nz fhg24_1)) rfl (OF.pickF (VEv.tmpB rfl (dz fhg27_2)) (VEv.bool false)) (fD (OF.pickF (VEv.tmpB rfl (nz fhg24_1)) (tv (tB false) rfl)) rfl rfl (VRunD.nil (tn (cf rfl (sk (vinB.n (tn (VRun.region (mO (tN i) rfl (fO (xinc (tv (tN i) rfl) (VEv.int .i64 1) (by omega)) (aO (tN (i + 1)) rfl ?_)))))))))))
    refine VRunO.nil (tn ?_)
    refine ⟨(i + 1 : Nat), ?_, ?_, Wk.mk (fun k => k) ?_ ?_ ?_⟩
    · refine allNext hI0 fhc0 ⟨x1, hx1, by omega, fun h0 => ?_⟩
      first | (exact absurd h0 (by omega)) | (refine ⟨x2, hx2, ?_⟩; omega)
    · first | omega | (simp only []; omega) | (show _ < _; omega) | (simp; omega)
    · exact (b2 (b2 (b2 bn)))
    · exact (b3 (b3 bn))
    · exact nd rfl
  refine VRun.exit (vthn.e (vthn.e (vinB.e (tn (sr (lO (OL.loadOn (us := (ePuzzle false a)) (tv (T.op 0 0) rfl) rfl st37 sz37 (lb rfl) rfl) (cO (cS (vc (tv (T.agg (ePuzzle false a)) rfl) vn) (LendL.cons (lg okePuzzle) ln) (W_spec_IsPuzzle (n + 0) a (by first | assumption | omega)) rfl rfl) (mO (tB (decide (isPuz a))) rfl ?_))))))))
  refine VRunO.joinB 6 [45, 46, 47, 48, 49] 50 (tB (decide ((isPuz a) ∧ (isFill a.Grid s.Fill)))) ?_ ?_
  · refine gw (isPuz a) (fun fhg44_3 => ?_) fun fhg44_3 => ?_
    · refine gF (dy fhg44_3) rfl rfl (OF.fieldAddrO (tv (T.op 0 0) rfl) fa37_0) ?_
      refine gL (dy fhg44_3) rfl rfl (OL.loadOn (us := (eGrid false a.Grid)) (tv (T.op 0 0) rfl) rfl st34 sz34 (lb rfl) rfl) (glf (tS s.Fill) (dy fhg44_3) rfl rfl rfl rfl fa56_0 rfl rfl st9 (VRunO.chain (VWant.on rfl rfl (dy fhg44_3)) (cS (vc (tv (T.agg (eGrid false a.Grid)) rfl) (vc (tv (tS s.Fill) rfl) vn)) (LendL.cons (lg okeGrid) (lp rfl ln)) (W_spec_IsFill (n + 7) a.Grid s.Fill (by first | assumption | omega) (by first | assumption | omega)) rfl rfl) (fO (OF.pickT (VEv.tmpB rfl (dy fhg44_3)) (tv (tB (decide (isFill a.Grid s.Fill))) rfl)) (VRunO.nil ?_))))
      exact jq (congrArg T.bool (kAT fhg44_3 rfl)) (js rfl (js rfl (js rfl (js rfl (js rfl (jn))))))
    · refine offs 5 2 true 44 (dz fhg44_3) rfl rfl rfl ?_
      refine fO (OF.pickF (VEv.tmpB rfl (dz fhg44_3)) (VEv.bool false)) (VRunO.nil ?_)
      exact jq (congrArg T.bool (kAF fhg44_3)) (js rfl (js rfl (js rfl (js rfl (js rfl (jn))))))
  refine mO (tB (decide ((isPuz a) ∧ (isFill a.Grid s.Fill)))) rfl ?_
  refine VRunO.joinB 4 [52, 53, 54] 55 (tB (decide (((isPuz a) ∧ (isFill a.Grid s.Fill)) ∧ (0 ≤ s.Checks ∧ s.Checks ≤ 999)))) ?_ ?_
  · refine gw ((isPuz a) ∧ (isFill a.Grid s.Fill)) (fun fhg51_4 => ?_) fun fhg51_4 => ?_
    · refine glf (tI s.Checks) (dy fhg51_4) rfl rfl rfl rfl fa56_1 rfl rfl st3 ?_
      refine VRunO.chain (VWant.on rfl rfl (dy fhg51_4)) (cS (vc (tv (tI s.Checks) rfl) (vc (VEv.int .i64 0) (vc (VEv.int .i64 999) vn))) (lps rfl) (W_spec_l1In (n + 9) s.Checks 0 999 ) rfl rfl) (fO (OF.pickT (VEv.tmpB rfl (dy fhg51_4)) (tv (tB (decide (0 ≤ s.Checks ∧ s.Checks ≤ 999))) rfl)) (VRunO.nil ?_))
      exact jq (congrArg T.bool (kAT fhg51_4 rfl)) (js rfl (js rfl (js rfl (jn))))
    · refine offs 3 9 true 51 (dz fhg51_4) rfl rfl rfl ?_
      refine fO (OF.pickF (VEv.tmpB rfl (dz fhg51_4)) (VEv.bool false)) (VRunO.nil ?_)
      exact jq (congrArg T.bool (kAF fhg51_4)) (js rfl (js rfl (js rfl (jn))))
  refine mO (tB (decide (((isPuz a) ∧ (isFill a.Grid s.Fill)) ∧ (0 ≤ s.Checks ∧ s.Checks ≤ 999)))) rfl ?_
  refine VRunO.joinB 4 [57, 58, 59] 60 (tB (decide ((((isPuz a) ∧ (isFill a.Grid s.Fill)) ∧ (0 ≤ s.Checks ∧ s.Checks ≤ 999)) ∧ (0 ≤ s.Spent ∧ s.Spent ≤ 999)))) ?_ ?_
  · refine gw (((isPuz a) ∧ (isFill a.Grid s.Fill)) ∧ (0 ≤ s.Checks ∧ s.Checks ≤ 999)) (fun fhg56_5 => ?_) fun fhg56_5 => ?_
    · refine glf (tI s.Spent) (dy fhg56_5) rfl rfl rfl rfl fa56_2 rfl rfl st3 ?_
      refine VRunO.chain (VWant.on rfl rfl (dy fhg56_5)) (cS (vc (tv (tI s.Spent) rfl) (vc (VEv.int .i64 0) (vc (VEv.int .i64 999) vn))) (lps rfl) (W_spec_l1In (n + 9) s.Spent 0 999 ) rfl rfl) (fO (OF.pickT (VEv.tmpB rfl (dy fhg56_5)) (tv (tB (decide (0 ≤ s.Spent ∧ s.Spent ≤ 999))) rfl)) (VRunO.nil ?_))
      exact jq (congrArg T.bool (kAT fhg56_5 rfl)) (js rfl (js rfl (js rfl (jn))))
    · refine offs 3 14 true 56 (dz fhg56_5) rfl rfl rfl ?_
      refine fO (OF.pickF (VEv.tmpB rfl (dz fhg56_5)) (VEv.bool false)) (VRunO.nil ?_)
      exact jq (congrArg T.bool (kAF fhg56_5)) (js rfl (js rfl (js rfl (jn))))
  refine mO (tB (decide ((((isPuz a) ∧ (isFill a.Grid s.Fill)) ∧ (0 ≤ s.Checks ∧ s.Checks ≤ 999)) ∧ (0 ≤ s.Spent ∧ s.Spent ≤ 999)))) rfl ?_
  refine VRunO.joinB 4 [62, 63, 64] 65 (tB (decide (((((isPuz a) ∧ (isFill a.Grid s.Fill)) ∧ (0 ≤ s.Checks ∧ s.Checks ≤ 999)) ∧ (0 ≤ s.Spent ∧ s.Spent ≤ 999)) ∧ (0 ≤ s.Start)))) ?_ ?_
  · refine gw ((((isPuz a) ∧ (isFill a.Grid s.Fill)) ∧ (0 ≤ s.Checks ∧ s.Checks ≤ 999)) ∧ (0 ≤ s.Spent ∧ s.Spent ≤ 999)) (fun fhg61_6 => ?_) fun fhg61_6 => ?_
    · refine glf (tI s.Start) (dy fhg61_6) rfl rfl rfl rfl fa56_4 rfl rfl st3 ?_
      refine gF (dy fhg61_6) rfl rfl (xge (tv (tI s.Start) rfl) (VEv.int .i64 0)) (fO (OF.pickT (VEv.tmpB rfl (dy fhg61_6)) (tv (tB (decide (0 ≤ s.Start))) rfl)) (VRunO.nil ?_))
      exact jq (congrArg T.bool (kAT fhg61_6 rfl)) (js rfl (js rfl (js rfl (jn))))
    · refine offs 3 19 true 61 (dz fhg61_6) rfl rfl rfl ?_
      refine fO (OF.pickF (VEv.tmpB rfl (dz fhg61_6)) (VEv.bool false)) (VRunO.nil ?_)
      exact jq (congrArg T.bool (kAF fhg61_6)) (js rfl (js rfl (js rfl (jn))))
  refine mO (tB (decide (((((isPuz a) ∧ (isFill a.Grid s.Fill)) ∧ (0 ≤ s.Checks ∧ s.Checks ≤ 999)) ∧ (0 ≤ s.Spent ∧ s.Spent ≤ 999)) ∧ (0 ≤ s.Start)))) rfl ?_
  refine VRunO.joinB 6 [67, 68, 69, 70, 71] 72 (tB (decide ((((((isPuz a) ∧ (isFill a.Grid s.Fill)) ∧ (0 ≤ s.Checks ∧ s.Checks ≤ 999)) ∧ (0 ≤ s.Spent ∧ s.Spent ≤ 999)) ∧ (0 ≤ s.Start)) ∧ (s.Start ≤ s.Now)))) ?_ ?_
  · refine gw (((((isPuz a) ∧ (isFill a.Grid s.Fill)) ∧ (0 ≤ s.Checks ∧ s.Checks ≤ 999)) ∧ (0 ≤ s.Spent ∧ s.Spent ≤ 999)) ∧ (0 ≤ s.Start)) (fun fhg66_7 => ?_) fun fhg66_7 => ?_
    · refine glf (tI s.Start) (dy fhg66_7) rfl rfl rfl rfl fa56_4 rfl rfl st3 ?_
      refine glf (tI s.Now) (dy fhg66_7) rfl rfl rfl rfl fa56_5 rfl rfl st3 (gF (dy fhg66_7) rfl rfl (xle (tv (tI s.Start) rfl) (tv (tI s.Now) rfl)) (fO (OF.pickT (VEv.tmpB rfl (dy fhg66_7)) (tv (tB (decide (s.Start ≤ s.Now))) rfl)) (VRunO.nil ?_)))
      exact jq (congrArg T.bool (kAT fhg66_7 rfl)) (js rfl (js rfl (js rfl (js rfl (js rfl (jn))))))
    · refine offs 5 24 true 66 (dz fhg66_7) rfl rfl rfl ?_
      refine fO (OF.pickF (VEv.tmpB rfl (dz fhg66_7)) (VEv.bool false)) (VRunO.nil ?_)
      exact jq (congrArg T.bool (kAF fhg66_7)) (js rfl (js rfl (js rfl (js rfl (js rfl (jn))))))
  refine mO (tB (decide ((((((isPuz a) ∧ (isFill a.Grid s.Fill)) ∧ (0 ≤ s.Checks ∧ s.Checks ≤ 999)) ∧ (0 ≤ s.Spent ∧ s.Spent ≤ 999)) ∧ (0 ≤ s.Start)) ∧ (s.Start ≤ s.Now)))) rfl ?_
  refine VRunO.joinB 4 [74, 75, 76] 77 (tB (decide (((((((isPuz a) ∧ (isFill a.Grid s.Fill)) ∧ (0 ≤ s.Checks ∧ s.Checks ≤ 999)) ∧ (0 ≤ s.Spent ∧ s.Spent ≤ 999)) ∧ (0 ≤ s.Start)) ∧ (s.Start ≤ s.Now)) ∧ (s.Now ≤ 1000)))) ?_ ?_
  · refine gw ((((((isPuz a) ∧ (isFill a.Grid s.Fill)) ∧ (0 ≤ s.Checks ∧ s.Checks ≤ 999)) ∧ (0 ≤ s.Spent ∧ s.Spent ≤ 999)) ∧ (0 ≤ s.Start)) ∧ (s.Start ≤ s.Now)) (fun fhg73_8 => ?_) fun fhg73_8 => ?_
    · refine glf (tI s.Now) (dy fhg73_8) rfl rfl rfl rfl fa56_5 rfl rfl st3 ?_
      refine gF (dy fhg73_8) rfl rfl (xle (tv (tI s.Now) rfl) (VEv.int .i64 1000)) (fO (OF.pickT (VEv.tmpB rfl (dy fhg73_8)) (tv (tB (decide (s.Now ≤ 1000))) rfl)) (VRunO.nil ?_))
      exact jq (congrArg T.bool (kAT fhg73_8 rfl)) (js rfl (js rfl (js rfl (jn))))
    · refine offs 3 31 true 73 (dz fhg73_8) rfl rfl rfl ?_
      refine fO (OF.pickF (VEv.tmpB rfl (dz fhg73_8)) (VEv.bool false)) (VRunO.nil ?_)
      exact jq (congrArg T.bool (kAF fhg73_8)) (js rfl (js rfl (js rfl (jn))))
  refine aO (tB (decide (((((((isPuz a) ∧ (isFill a.Grid s.Fill)) ∧ (0 ≤ s.Checks ∧ s.Checks ≤ 999)) ∧ (0 ≤ s.Spent ∧ s.Spent ≤ 999)) ∧ (0 ≤ s.Start)) ∧ (s.Start ≤ s.Now)) ∧ (s.Now ≤ 1000)))) rfl (nt (rt (vb (b' := (decide (((((((isPuz a) ∧ (isFill a.Grid s.Fill)) ∧ (0 ≤ s.Checks ∧ s.Checks ≤ 999)) ∧ (0 ≤ s.Spent ∧ s.Spent ≤ 999)) ∧ (0 ≤ s.Start)) ∧ (s.Start ≤ s.Now)) ∧ (s.Now ≤ 1000)))) rfl ?_)))
  first | (refine decN (isSess_of (allEnd hI' fhc0))) | (symm; rw [decide_eq_false_iff_not]; refine not_sess fhc0 ?_; rintro ⟨y, hy, h3, h7⟩; obtain rfl := same_at hx1 hy; first | omega | (obtain ⟨z, hz, h9⟩ := h7 (by omega); obtain rfl := same_at hx2 hz; omega))
theorem W_impl_IsSession (n : Nat) (a : D.Puzzle) (s : D.Session) (hz : zPuzzle a ≤ mx) (hs : zSession s ≤ mx) : Pure (acall Tryz.prog (n + 43)) 28 [(T.agg (ePuzzle false a)), (T.agg (eSession false s))] (tB (decide (isSess a s))) := by
  refine Pure.intro (rs := [ResultVar.tmp 4]) Tryz.func28 rfl rfl rfl (E0 := [(0, (T.agg (ePuzzle false a))), (1, (T.agg (eSession false s)))]) rfl ?_
  obtain ⟨hlim, hmx, hmax⟩ := lims
  simp only [zSession] at hs
  have hz2 := hz
  simp only [zPuzzle, zGrid] at hz2
  have hl := zL_len (z := zClue) a.Clues
  have hl2 := zL_len (z := zI) s.Asked
  have hsl := srtd_len s.Asked
  refine sr (kO (B.box (ts := (ePuzzle false a)) (tv (T.agg (ePuzzle false a)) rfl) nofun rfl) (kO (B.box (ts := (eSession false s)) (tv (T.agg (eSession false s)) rfl) nofun rfl) (fO (OF.assign (VEv.bool false)) (nt (sq (VRun.draw (B := [[], [0], [0, 1], [1, 0, 2], [2, 0, 1, 3], [1, 0, 2], [2, 0, 1, 5], [5, 6, 3, 1, 0, 2, 4], [4, 3, 6, 5, 7, 1, 0, 2], [2, 0, 1, 7, 5, 6, 3, 4, 8], [8, 4, 3, 6, 5, 7, 1, 0, 2, 9], [9, 2, 0, 1, 7, 5, 6, 3, 4, 8, 10], [10, 8, 4, 3, 6, 5, 7, 1, 0, 2, 9, 11], [11, 10, 12, 8, 4, 3, 6, 5, 7, 1, 0, 2, 9], [9, 2, 0, 1, 7, 5, 6, 3, 4, 8, 12, 10, 11, 13], [13, 11, 10, 12, 8, 4, 3, 6, 5, 7, 1, 0, 2, 9, 14], [14, 9, 2, 0, 1, 7, 5, 6, 3, 4, 8, 12, 10, 11, 13, 15], [15, 13, 11, 10, 12, 8, 4, 3, 6, 5, 7, 1, 0, 2, 9, 14, 16], [16, 15, 17, 13, 11, 10, 12, 8, 4, 3, 6, 5, 7, 1, 0, 2, 9, 14], [14, 9, 2, 0, 1, 7, 5, 6, 3, 4, 8, 12, 10, 11, 13, 17, 15, 16, 18], [18, 16, 15, 17, 13, 11, 10, 12, 8, 4, 3, 6, 5, 7, 1, 0, 2, 9, 14, 19], [19, 14, 9, 2, 0, 1, 7, 5, 6, 3, 4, 8, 12, 10, 11, 13, 17, 15, 16, 18, 20], [18, 16, 15, 17, 13, 11, 10, 12, 8, 4, 3, 6, 5, 7, 1, 0, 2, 9, 14, 19], [19, 14, 9, 2, 0, 1, 7, 5, 6, 3, 4, 8, 12, 10, 11, 13, 17, 15, 16, 18, 22], [22, 18, 16, 15, 17, 13, 11, 10, 12, 8, 4, 3, 6, 5, 7, 1, 0, 2, 9, 14, 19, 23], [23, 19, 14, 9, 2, 0, 1, 7, 5, 6, 3, 4, 8, 12, 10, 11, 13, 17, 15, 16, 18, 22, 24], [24, 22, 23, 25, 20, 18, 16, 15, 17, 13, 11, 10, 12, 8, 4, 3, 6, 5, 7, 1, 0, 2, 9, 14, 19, 21], [21, 20, 25, 23, 22, 24, 26, 18, 16, 15, 17, 13, 11, 10, 12, 8, 4, 3, 6, 5, 7, 1, 0, 2, 9, 14, 19], [19, 14, 9, 2, 0, 1, 7, 5, 6, 3, 4, 8, 12, 10, 11, 13, 17, 15, 16, 18, 26, 24, 22, 23, 25, 20, 21, 27], [27, 21, 20, 25, 23, 22, 24, 26, 18, 16, 15, 17, 13, 11, 10, 12, 8, 4, 3, 6, 5, 7, 1, 0, 2, 9, 14, 19, 28], [28, 19, 14, 9, 2, 0, 1, 7, 5, 6, 3, 4, 8, 12, 10, 11, 13, 17, 15, 16, 18, 26, 24, 22, 23, 25, 20, 21, 27, 29], [29, 27, 21, 20, 25, 23, 22, 24, 26, 18, 16, 15, 17, 13, 11, 10, 12, 8, 4, 3, 6, 5, 7, 1, 0, 2, 9, 14, 19, 28, 30], [27, 21, 20, 25, 23, 22, 24, 26, 18, 16, 15, 17, 13, 11, 10, 12, 8, 4, 3, 6, 5, 7, 1, 0, 2, 9, 14, 19, 28], [28, 19, 14, 9, 2, 0, 1, 7, 5, 6, 3, 4, 8, 12, 10, 11, 13, 17, 15, 16, 18, 26, 24, 22, 23, 25, 20, 21, 27, 32], [32, 33, 30, 28, 19, 14, 9, 2, 0, 1, 7, 5, 6, 3, 4, 8, 12, 10, 11, 13, 17, 15, 16, 18, 26, 24, 22, 23, 25, 20, 21, 27, 29, 31], [31, 29, 30, 33, 32, 34, 27, 21, 20, 25, 23, 22, 24, 26, 18, 16, 15, 17, 13, 11, 10, 12, 8, 4, 3, 6, 5, 7, 1, 0, 2, 9, 14, 19, 28], [28, 19, 14, 9, 2, 0, 1, 7, 5, 6, 3, 4, 8, 12, 10, 11, 13, 17, 15, 16, 18, 26, 24, 22, 23, 25, 20, 21, 27, 34, 32, 33, 30, 29, 31, 35], [35, 31, 29, 30, 33, 32, 34, 27, 21, 20, 25, 23, 22, 24, 26, 18, 16, 15, 17, 13, 11, 10, 12, 8, 4, 3, 6, 5, 7, 1, 0, 2, 9, 14, 19, 28, 36], [36, 28, 19, 14, 9, 2, 0, 1, 7, 5, 6, 3, 4, 8, 12, 10, 11, 13, 17, 15, 16, 18, 26, 24, 22, 23, 25, 20, 21, 27, 34, 32, 33, 30, 29, 31, 35, 37], [35, 31, 29, 30, 33, 32, 34, 27, 21, 20, 25, 23, 22, 24, 26, 18, 16, 15, 17, 13, 11, 10, 12, 8, 4, 3, 6, 5, 7, 1, 0, 2, 9, 14, 19, 28, 36], [36, 28, 19, 14, 9, 2, 0, 1, 7, 5, 6, 3, 4, 8, 12, 10, 11, 13, 17, 15, 16, 18, 26, 24, 22, 23, 25, 20, 21, 27, 34, 32, 33, 30, 29, 31, 35, 39], [39, 40, 37, 35, 31, 29, 30, 33, 32, 34, 27, 21, 20, 25, 23, 22, 24, 26, 18, 16, 15, 17, 13, 11, 10, 12, 8, 4, 3, 6, 5, 7, 1, 0, 2, 9, 14, 19, 28, 36, 38], [38, 37, 40, 39, 41, 35, 31, 29, 30, 33, 32, 34, 27, 21, 20, 25, 23, 22, 24, 26, 18, 16, 15, 17, 13, 11, 10, 12, 8, 4, 3, 6, 5, 7, 1, 0, 2, 9, 14, 19, 28, 36], [36, 28, 19, 14, 9, 2, 0, 1, 7, 5, 6, 3, 4, 8, 12, 10, 11, 13, 17, 15, 16, 18, 26, 24, 22, 23, 25, 20, 21, 27, 34, 32, 33, 30, 29, 31, 35, 41, 39, 40, 37, 38, 42], [42, 38, 37, 40, 39, 41, 35, 31, 29, 30, 33, 32, 34, 27, 21, 20, 25, 23, 22, 24, 26, 18, 16, 15, 17, 13, 11, 10, 12, 8, 4, 3, 6, 5, 7, 1, 0, 2, 9, 14, 19, 28, 36, 43], [43, 36, 28, 19, 14, 9, 2, 0, 1, 7, 5, 6, 3, 4, 8, 12, 10, 11, 13, 17, 15, 16, 18, 26, 24, 22, 23, 25, 20, 21, 27, 34, 32, 33, 30, 29, 31, 35, 41, 39, 40, 37, 38, 42, 44], [44, 42, 38, 37, 40, 39, 41, 35, 31, 29, 30, 33, 32, 34, 27, 21, 20, 25, 23, 22, 24, 26, 18, 16, 15, 17, 13, 11, 10, 12, 8, 4, 3, 6, 5, 7, 1, 0, 2, 9, 14, 19, 28, 36, 43, 45], [45, 44, 46, 42, 38, 37, 40, 39, 41, 35, 31, 29, 30, 33, 32, 34, 27, 21, 20, 25, 23, 22, 24, 26, 18, 16, 15, 17, 13, 11, 10, 12, 8, 4, 3, 6, 5, 7, 1, 0, 2, 9, 14, 19, 28, 36, 43], [43, 36, 28, 19, 14, 9, 2, 0, 1, 7, 5, 6, 3, 4, 8, 12, 10, 11, 13, 17, 15, 16, 18, 26, 24, 22, 23, 25, 20, 21, 27, 34, 32, 33, 30, 29, 31, 35, 41, 39, 40, 37, 38, 42, 46, 44, 45, 47]]) (by kernel_rfl) (by kernel_rfl) ?_))))))
  refine lD (OL.loadOn (us := (ePuzzle false a)) (tv (T.op 0 0) rfl) rfl st37 sz37 (lb rfl) rfl) rfl rfl (VRunD.quiet (bi := [0]) rfl VWant.always rfl rfl rfl bn (cS (vc (tv (T.agg (ePuzzle false a)) rfl) vn) (LendL.cons (lg okePuzzle) ln) (W_impl_IsPuzzle (n + 0) a (by first | assumption | omega)) rfl rfl) (mD (tB (decide (isPuz a))) rfl rfl ?_))
  refine gw (isPuz a) (fun fhg7_1 => ?_) fun fhg7_1 => ?_
  · refine VRunD.free rfl (VWant.on rfl rfl (dy fhg7_1)) rfl (OF.fieldAddrO (tv (T.op 0 0) rfl) fa37_0) ?_
    refine VRunD.look rfl (VWant.on rfl rfl (dy fhg7_1)) rfl (OL.loadOn (us := (eGrid false a.Grid)) (tv (T.op 0 0) rfl) rfl st34 sz34 (lb rfl) rfl) (VRunD.free rfl (VWant.on rfl rfl (dy fhg7_1)) rfl (OF.fieldAddrO (tv (T.op 1 0) rfl) fa56_0) (VRunD.look rfl (VWant.on rfl rfl (dy fhg7_1)) rfl (OL.loadO1 (t := (tS s.Fill)) (tv (T.op 1 0) rfl) rfl rfl st9) (VRunD.quiet (bi := [5, 6, 3, 1, 0, 2, 4]) rfl (VWant.on rfl rfl (dy fhg7_1)) rfl rfl rfl bn (cS (vc (tv (T.agg (eGrid false a.Grid)) rfl) (vc (tv (tS s.Fill) rfl) vn)) (LendL.cons (lg okeGrid) (lp rfl ln)) (W_impl_IsFill (n + 39) a.Grid s.Fill (by first | assumption | omega) (by first | assumption | omega)) rfl rfl) (fD (OF.pickT (VEv.tmpB rfl (dy fhg7_1)) (tv (tB (decide (isFill a.Grid s.Fill))) rfl)) rfl rfl (mD (tB (decide (isFill a.Grid s.Fill))) rfl rfl ?_)))))
    refine gw (isFill a.Grid s.Fill) (fun fhg14_2 => ?_) fun fhg14_2 => ?_
    · refine VRunD.free rfl (VWant.on rfl rfl (dy fhg14_2)) rfl (OF.fieldAddrO (tv (T.op 1 0) rfl) fa56_1) ?_
      refine VRunD.look rfl (VWant.on rfl rfl (dy fhg14_2)) rfl (OL.loadO1 (t := (tI s.Checks)) (tv (T.op 1 1) rfl) rfl rfl st3) (VRunD.quiet (bi := [10, 8, 4, 3, 6, 5, 7, 1, 0, 2, 9, 11]) rfl (VWant.on rfl rfl (dy fhg14_2)) rfl rfl rfl bn (cS (vc (tv (tI s.Checks) rfl) (vc (VEv.int .i64 0) (vc (VEv.int .i64 999) vn))) (lps rfl) (W_impl_InRange (n + 41) s.Checks 0 999 ) rfl rfl) (fD (OF.pickT (VEv.tmpB rfl (dy fhg14_2)) (tv (tB (decide (0 ≤ s.Checks ∧ s.Checks ≤ 999))) rfl)) rfl rfl (mD (tB (decide (0 ≤ s.Checks ∧ s.Checks ≤ 999))) rfl rfl ?_)))
      refine gw (0 ≤ s.Checks ∧ s.Checks ≤ 999) (fun fhg19_3 => ?_) fun fhg19_3 => ?_
      · refine VRunD.free rfl (VWant.on rfl rfl (dy fhg19_3)) rfl (OF.fieldAddrO (tv (T.op 1 0) rfl) fa56_2) ?_
        refine VRunD.look rfl (VWant.on rfl rfl (dy fhg19_3)) rfl (OL.loadO1 (t := (tI s.Spent)) (tv (T.op 1 2) rfl) rfl rfl st3) (VRunD.quiet (bi := [15, 13, 11, 10, 12, 8, 4, 3, 6, 5, 7, 1, 0, 2, 9, 14, 16]) rfl (VWant.on rfl rfl (dy fhg19_3)) rfl rfl rfl bn (cS (vc (tv (tI s.Spent) rfl) (vc (VEv.int .i64 0) (vc (VEv.int .i64 999) vn))) (lps rfl) (W_impl_InRange (n + 41) s.Spent 0 999 ) rfl rfl) (fD (OF.pickT (VEv.tmpB rfl (dy fhg19_3)) (tv (tB (decide (0 ≤ s.Spent ∧ s.Spent ≤ 999))) rfl)) rfl rfl (mD (tB (decide (0 ≤ s.Spent ∧ s.Spent ≤ 999))) rfl rfl ?_)))
        refine gw (0 ≤ s.Spent ∧ s.Spent ≤ 999) (fun fhg24_4 => ?_) fun fhg24_4 => ?_
        · refine VRunD.free rfl (VWant.on rfl rfl (dy fhg24_4)) rfl (OF.fieldAddrO (tv (T.op 1 0) rfl) fa56_3) ?_
          refine VRunD.look rfl (VWant.on rfl rfl (dy fhg24_4)) rfl (OL.loadO1 (t := (rd 1 eInt s.Asked)) (tv (T.op 1 3) rfl) rfl rfl st25) (VRunD.free rfl (VWant.on rfl rfl (dy fhg24_4)) rfl (OF.fieldAddrO (tv (T.op 0 0) rfl) fa37_1) (VRunD.look rfl (VWant.on rfl rfl (dy fhg24_4)) rfl (OL.loadO1 (t := (rd 2 eClue a.Clues)) (tv (T.op 0 3) rfl) rfl rfl st35) (VRunD.look rfl (VWant.on rfl rfl (dy fhg24_4)) rfl (B.lenR (m := a.Clues.length) (tv (rd 2 eClue a.Clues) rfl) U35 (List.length_map ..)) (VRunD.free rfl (VWant.on rfl rfl (dy fhg24_4)) rfl (B.sub (n := (((a.Clues.length : Nat) : Int) - 1)) (tv (tN a.Clues.length) rfl) (VEv.int .i64 1) (by first | rfl | (rw [wrap64 (by omega)]; omega) | (rw [wrap64 (by omega)]; done))) (VRunD.quiet (bi := [24, 22, 23, 25, 20, 18, 16, 15, 17, 13, 11, 10, 12, 8, 4, 3, 6, 5, 7, 1, 0, 2, 9, 14, 19, 21]) rfl (VWant.on rfl rfl (dy fhg24_4)) rfl rfl rfl bn (cS (vc (tv (rd 1 eInt s.Asked) rfl) (vc (VEv.int .i64 0) (vc (tv (tI (((a.Clues.length : Nat) : Int) - 1)) rfl) vn))) (lps rfl) (W_impl_allIn (n + 40) s.Asked 0 (((a.Clues.length : Nat) : Int) - 1) (by first | assumption | omega)) rfl rfl) (fD (OF.pickT (VEv.tmpB rfl (dy fhg24_4)) (tv (tB (decide (∀ x ∈ s.Asked, 0 ≤ x ∧ x ≤ (((a.Clues.length : Nat) : Int) - 1)))) rfl)) rfl rfl (mD (tB (decide (∀ x ∈ s.Asked, 0 ≤ x ∧ x ≤ (((a.Clues.length : Nat) : Int) - 1)))) rfl rfl ?_)))))))
          refine gw (∀ x ∈ s.Asked, 0 ≤ x ∧ x ≤ (((a.Clues.length : Nat) : Int) - 1)) (fun fhg33_5 => ?_) fun fhg33_5 => ?_
          · refine VRunD.free rfl (VWant.on rfl rfl (dy fhg33_5)) rfl (OF.fieldAddrO (tv (T.op 1 0) rfl) fa56_3) ?_
            refine VRunD.look rfl (VWant.on rfl rfl (dy fhg33_5)) rfl (OL.loadO1 (t := (rd 1 eInt s.Asked)) (tv (T.op 1 3) rfl) rfl rfl st25) (VRunD.quiet (bi := [29, 27, 21, 20, 25, 23, 22, 24, 26, 18, 16, 15, 17, 13, 11, 10, 12, 8, 4, 3, 6, 5, 7, 1, 0, 2, 9, 14, 19, 28, 30]) rfl (VWant.on rfl rfl (dy fhg33_5)) rfl rfl rfl bn (OC.callF (us := [(rd 1 eInt s.Asked)]) (r := (T.sl true 1 ((srtd s.Asked).map (eInt true)))) (r' := (T.os 1 2 0 (((srtd s.Asked).map (eInt true)).length))) (objs := [(Obj.rows 1 ((srtd s.Asked).map (eInt true)))]) rfl (vc (tv (rd 1 eInt s.Asked) rfl) vn) (lps rfl) (W_impl_sortedInts (n + 40) s.Asked (by first | assumption | omega)) rfl) (VRunD.free rfl (VWant.on rfl rfl (dy fhg33_5)) rfl (OF.fieldAddrO (tv (T.op 1 0) rfl) fa56_3) (VRunD.look rfl (VWant.on rfl rfl (dy fhg33_5)) rfl (OL.loadO1 (t := (rd 1 eInt s.Asked)) (tv (T.op 1 3) rfl) rfl rfl st25) (VRunD.quiet (bi := [32, 33, 30, 28, 19, 14, 9, 2, 0, 1, 7, 5, 6, 3, 4, 8, 12, 10, 11, 13, 17, 15, 16, 18, 26, 24, 22, 23, 25, 20, 21, 27, 29, 31]) rfl (VWant.on rfl rfl (dy fhg33_5)) rfl rfl rfl bn (cS (us := [(rd 1 eInt (srtd s.Asked)), (rd 1 eInt s.Asked)]) (vc (tv (T.os 1 2 0 (((srtd s.Asked).map (eInt true)).length)) rfl) (vc (tv (rd 1 eInt s.Asked) rfl) vn)) (LendL.cons (Lend.os rfl rfl (okInt.fzMap _ _)) (lp rfl ln)) (W_slices_Equal_int_int_ (n + 41) (srtd s.Asked) s.Asked (by first | assumption | omega) (by first | assumption | omega)) rfl rfl) (fD (OF.pickT (VEv.tmpB rfl (dy fhg33_5)) (tv (tB (decide ((srtd s.Asked) = s.Asked))) rfl)) rfl rfl (mD (tB (decide ((srtd s.Asked) = s.Asked))) rfl rfl ?_))))))
            refine gw ((srtd s.Asked) = s.Asked) (fun fhg41_6 => ?_) fun fhg41_6 => ?_
            · refine VRunD.free rfl (VWant.on rfl rfl (dy fhg41_6)) rfl (OF.fieldAddrO (tv (T.op 1 0) rfl) fa56_4) ?_
              refine VRunD.look rfl (VWant.on rfl rfl (dy fhg41_6)) rfl (OL.loadO1 (t := (tI s.Start)) (tv (T.op 1 4) rfl) rfl rfl st3) (VRunD.free rfl (VWant.on rfl rfl (dy fhg41_6)) rfl (OF.fieldAddrO (tv (T.op 1 0) rfl) fa56_5) (VRunD.look rfl (VWant.on rfl rfl (dy fhg41_6)) rfl (OL.loadO1 (t := (tI s.Now)) (tv (T.op 1 5) rfl) rfl rfl st3) (VRunD.quiet (bi := [39, 40, 37, 35, 31, 29, 30, 33, 32, 34, 27, 21, 20, 25, 23, 22, 24, 26, 18, 16, 15, 17, 13, 11, 10, 12, 8, 4, 3, 6, 5, 7, 1, 0, 2, 9, 14, 19, 28, 36, 38]) rfl (VWant.on rfl rfl (dy fhg41_6)) rfl rfl rfl bn (cS (vc (tv (tI s.Start) rfl) (vc (VEv.int .i64 0) (vc (tv (tI s.Now) rfl) vn))) (lps rfl) (W_impl_InRange (n + 41) s.Start 0 s.Now ) rfl rfl) (fD (OF.pickT (VEv.tmpB rfl (dy fhg41_6)) (tv (tB (decide (0 ≤ s.Start ∧ s.Start ≤ s.Now))) rfl)) rfl rfl (mD (tB (decide (0 ≤ s.Start ∧ s.Start ≤ s.Now))) rfl rfl ?_)))))
              refine gw (0 ≤ s.Start ∧ s.Start ≤ s.Now) (fun fhg48_7 => ?_) fun fhg48_7 => ?_
              · refine VRunD.free rfl (VWant.on rfl rfl (dy fhg48_7)) rfl (OF.fieldAddrO (tv (T.op 1 0) rfl) fa56_5) ?_
                refine VRunD.look rfl (VWant.on rfl rfl (dy fhg48_7)) rfl (OL.loadO1 (t := (tI s.Now)) (tv (T.op 1 5) rfl) rfl rfl st3) (VRunD.free rfl (VWant.on rfl rfl (dy fhg48_7)) rfl (xle (tv (tI s.Now) rfl) (VEv.int .i64 1000)) (fD (OF.pickT (VEv.tmpB rfl (dy fhg48_7)) (tv (tB (decide (s.Now ≤ 1000))) rfl)) rfl rfl (fD (OF.assign (tv (tB (decide (s.Now ≤ 1000))) rfl)) rfl rfl (VRunD.nil (tn (rt (vb (b' := (decide (s.Now ≤ 1000))) rfl ?_)))))))
                first | (refine decN ⟨fun h => (isSess_iff a s).1 ⟨⟨⟨⟨⟨⟨⟨?_, ?_⟩, ?_⟩, ?_⟩, ?_⟩, ?_⟩, ?_⟩, h⟩, fun h => h.2.2.2.2.2.2.2.2⟩ <;> first | assumption | omega) | (symm; rw [decide_eq_false_iff_not]; rintro ⟨h1, h2, h3, h4, h5, h6, h7, h8, h9⟩; first | contradiction | omega | (exact absurd (srtd_eq.2 h6) (by assumption)))
              refine oD rfl rfl (dz fhg48_7) rfl (oD rfl rfl (dz fhg48_7) rfl (oD rfl rfl (dz fhg48_7) rfl (fD (OF.pickF (VEv.tmpB rfl (dz fhg48_7)) (VEv.bool false)) rfl rfl (fD (OF.assign (tv (tB false) rfl)) rfl rfl (VRunD.nil (tn (rt (vb (b' := false) rfl ?_))))))))
              first | (refine decN ⟨fun h => (isSess_iff a s).1 ⟨⟨⟨⟨⟨⟨⟨?_, ?_⟩, ?_⟩, ?_⟩, ?_⟩, ?_⟩, ?_⟩, h⟩, fun h => h.2.2.2.2.2.2.2.2⟩ <;> first | assumption | omega) | (symm; rw [decide_eq_false_iff_not]; rintro ⟨h1, h2, h3, h4, h5, h6, h7, h8, h9⟩; first | contradiction | omega | (exact absurd (srtd_eq.2 h6) (by assumption)))
            refine oD rfl rfl (dz fhg41_6) rfl (oD rfl rfl (dz fhg41_6) rfl (oD rfl rfl (dz fhg41_6) rfl (oD rfl rfl (dz fhg41_6) rfl (oD rfl rfl (dz fhg41_6) rfl (fD (OF.pickF (VEv.tmpB rfl (dz fhg41_6)) (VEv.bool false)) rfl rfl (mD (tB false) rfl rfl (VRunD.off rfl (VWant.not (b := false) rfl rfl rfl) (VRunD.off rfl (VWant.not (b := false) rfl rfl rfl) (VRunD.off rfl (VWant.not (b := false) rfl rfl rfl) (fD (OF.pickF (tv (tB false) rfl) (VEv.bool false)) rfl rfl (fD (OF.assign (tv (tB false) rfl)) rfl rfl ?_)))))))))))
            refine VRunD.nil (tn (rt (vb (b' := false) rfl ?_)))
            first | (refine decN ⟨fun h => (isSess_iff a s).1 ⟨⟨⟨⟨⟨⟨⟨?_, ?_⟩, ?_⟩, ?_⟩, ?_⟩, ?_⟩, ?_⟩, h⟩, fun h => h.2.2.2.2.2.2.2.2⟩ <;> first | assumption | omega) | (symm; rw [decide_eq_false_iff_not]; rintro ⟨h1, h2, h3, h4, h5, h6, h7, h8, h9⟩; first | contradiction | omega | (exact absurd (srtd_eq.2 h6) (by assumption)))
          refine oD rfl rfl (dz fhg33_5) rfl (oD rfl rfl (dz fhg33_5) rfl (oD rfl rfl (dz fhg33_5) rfl (oD rfl rfl (dz fhg33_5) rfl (oD rfl rfl (dz fhg33_5) rfl (oD rfl rfl (dz fhg33_5) rfl (fD (OF.pickF (VEv.tmpB rfl (dz fhg33_5)) (VEv.bool false)) rfl rfl (mD (tB false) rfl rfl (VRunD.off rfl (VWant.not (b := false) rfl rfl rfl) (VRunD.off rfl (VWant.not (b := false) rfl rfl rfl) (VRunD.off rfl (VWant.not (b := false) rfl rfl rfl) (VRunD.off rfl (VWant.not (b := false) rfl rfl rfl) ?_)))))))))))
          refine VRunD.off rfl (VWant.not (b := false) rfl rfl rfl) (fD (OF.pickF (tv (tB false) rfl) (VEv.bool false)) rfl rfl (mD (tB false) rfl rfl (VRunD.off rfl (VWant.not (b := false) rfl rfl rfl) (VRunD.off rfl (VWant.not (b := false) rfl rfl rfl) (VRunD.off rfl (VWant.not (b := false) rfl rfl rfl) (fD (OF.pickF (tv (tB false) rfl) (VEv.bool false)) rfl rfl (fD (OF.assign (tv (tB false) rfl)) rfl rfl (VRunD.nil (tn (rt (vb (b' := false) rfl ?_)))))))))))
          first | (refine decN ⟨fun h => (isSess_iff a s).1 ⟨⟨⟨⟨⟨⟨⟨?_, ?_⟩, ?_⟩, ?_⟩, ?_⟩, ?_⟩, ?_⟩, h⟩, fun h => h.2.2.2.2.2.2.2.2⟩ <;> first | assumption | omega) | (symm; rw [decide_eq_false_iff_not]; rintro ⟨h1, h2, h3, h4, h5, h6, h7, h8, h9⟩; first | contradiction | omega | (exact absurd (srtd_eq.2 h6) (by assumption)))
        refine oD rfl rfl (dz fhg24_4) rfl (oD rfl rfl (dz fhg24_4) rfl (oD rfl rfl (dz fhg24_4) rfl (oD rfl rfl (dz fhg24_4) rfl (oD rfl rfl (dz fhg24_4) rfl (oD rfl rfl (dz fhg24_4) rfl (oD rfl rfl (dz fhg24_4) rfl (fD (OF.pickF (VEv.tmpB rfl (dz fhg24_4)) (VEv.bool false)) rfl rfl (mD (tB false) rfl rfl (VRunD.off rfl (VWant.not (b := false) rfl rfl rfl) (VRunD.off rfl (VWant.not (b := false) rfl rfl rfl) (VRunD.off rfl (VWant.not (b := false) rfl rfl rfl) ?_)))))))))))
        refine VRunD.off rfl (VWant.not (b := false) rfl rfl rfl) (VRunD.off rfl (VWant.not (b := false) rfl rfl rfl) (VRunD.off rfl (VWant.not (b := false) rfl rfl rfl) (fD (OF.pickF (tv (tB false) rfl) (VEv.bool false)) rfl rfl (mD (tB false) rfl rfl (VRunD.off rfl (VWant.not (b := false) rfl rfl rfl) (VRunD.off rfl (VWant.not (b := false) rfl rfl rfl) (VRunD.off rfl (VWant.not (b := false) rfl rfl rfl) (VRunD.off rfl (VWant.not (b := false) rfl rfl rfl) (VRunD.off rfl (VWant.not (b := false) rfl rfl rfl) (fD (OF.pickF (tv (tB false) rfl) (VEv.bool false)) rfl rfl (mD (tB false) rfl rfl ?_)))))))))))
        refine VRunD.off rfl (VWant.not (b := false) rfl rfl rfl) (VRunD.off rfl (VWant.not (b := false) rfl rfl rfl) (VRunD.off rfl (VWant.not (b := false) rfl rfl rfl) (fD (OF.pickF (tv (tB false) rfl) (VEv.bool false)) rfl rfl (fD (OF.assign (tv (tB false) rfl)) rfl rfl (VRunD.nil (tn (rt (vb (b' := false) rfl ?_))))))))
        first | (refine decN ⟨fun h => (isSess_iff a s).1 ⟨⟨⟨⟨⟨⟨⟨?_, ?_⟩, ?_⟩, ?_⟩, ?_⟩, ?_⟩, ?_⟩, h⟩, fun h => h.2.2.2.2.2.2.2.2⟩ <;> first | assumption | omega) | (symm; rw [decide_eq_false_iff_not]; rintro ⟨h1, h2, h3, h4, h5, h6, h7, h8, h9⟩; first | contradiction | omega | (exact absurd (srtd_eq.2 h6) (by assumption)))
      refine oD rfl rfl (dz fhg19_3) rfl (oD rfl rfl (dz fhg19_3) rfl (oD rfl rfl (dz fhg19_3) rfl (fD (OF.pickF (VEv.tmpB rfl (dz fhg19_3)) (VEv.bool false)) rfl rfl (mD (tB false) rfl rfl (VRunD.off rfl (VWant.not (b := false) rfl rfl rfl) (VRunD.off rfl (VWant.not (b := false) rfl rfl rfl) (VRunD.off rfl (VWant.not (b := false) rfl rfl rfl) (VRunD.off rfl (VWant.not (b := false) rfl rfl rfl) (VRunD.off rfl (VWant.not (b := false) rfl rfl rfl) (VRunD.off rfl (VWant.not (b := false) rfl rfl rfl) (VRunD.off rfl (VWant.not (b := false) rfl rfl rfl) ?_)))))))))))
      refine fD (OF.pickF (tv (tB false) rfl) (VEv.bool false)) rfl rfl (mD (tB false) rfl rfl (VRunD.off rfl (VWant.not (b := false) rfl rfl rfl) (VRunD.off rfl (VWant.not (b := false) rfl rfl rfl) (VRunD.off rfl (VWant.not (b := false) rfl rfl rfl) (VRunD.off rfl (VWant.not (b := false) rfl rfl rfl) (VRunD.off rfl (VWant.not (b := false) rfl rfl rfl) (VRunD.off rfl (VWant.not (b := false) rfl rfl rfl) (fD (OF.pickF (tv (tB false) rfl) (VEv.bool false)) rfl rfl (mD (tB false) rfl rfl (VRunD.off rfl (VWant.not (b := false) rfl rfl rfl) (VRunD.off rfl (VWant.not (b := false) rfl rfl rfl) ?_)))))))))))
      refine VRunD.off rfl (VWant.not (b := false) rfl rfl rfl) (VRunD.off rfl (VWant.not (b := false) rfl rfl rfl) (VRunD.off rfl (VWant.not (b := false) rfl rfl rfl) (fD (OF.pickF (tv (tB false) rfl) (VEv.bool false)) rfl rfl (mD (tB false) rfl rfl (VRunD.off rfl (VWant.not (b := false) rfl rfl rfl) (VRunD.off rfl (VWant.not (b := false) rfl rfl rfl) (VRunD.off rfl (VWant.not (b := false) rfl rfl rfl) (fD (OF.pickF (tv (tB false) rfl) (VEv.bool false)) rfl rfl (fD (OF.assign (tv (tB false) rfl)) rfl rfl (VRunD.nil (tn ?_)))))))))))
      refine rt (vb (b' := false) rfl ?_)
      first | (refine decN ⟨fun h => (isSess_iff a s).1 ⟨⟨⟨⟨⟨⟨⟨?_, ?_⟩, ?_⟩, ?_⟩, ?_⟩, ?_⟩, ?_⟩, h⟩, fun h => h.2.2.2.2.2.2.2.2⟩ <;> first | assumption | omega) | (symm; rw [decide_eq_false_iff_not]; rintro ⟨h1, h2, h3, h4, h5, h6, h7, h8, h9⟩; first | contradiction | omega | (exact absurd (srtd_eq.2 h6) (by assumption)))
    refine oD rfl rfl (dz fhg14_2) rfl (oD rfl rfl (dz fhg14_2) rfl (oD rfl rfl (dz fhg14_2) rfl (fD (OF.pickF (VEv.tmpB rfl (dz fhg14_2)) (VEv.bool false)) rfl rfl (mD (tB false) rfl rfl (VRunD.off rfl (VWant.not (b := false) rfl rfl rfl) (VRunD.off rfl (VWant.not (b := false) rfl rfl rfl) (VRunD.off rfl (VWant.not (b := false) rfl rfl rfl) (fD (OF.pickF (tv (tB false) rfl) (VEv.bool false)) rfl rfl (mD (tB false) rfl rfl (VRunD.off rfl (VWant.not (b := false) rfl rfl rfl) (VRunD.off rfl (VWant.not (b := false) rfl rfl rfl) ?_)))))))))))
    refine VRunD.off rfl (VWant.not (b := false) rfl rfl rfl) (VRunD.off rfl (VWant.not (b := false) rfl rfl rfl) (VRunD.off rfl (VWant.not (b := false) rfl rfl rfl) (VRunD.off rfl (VWant.not (b := false) rfl rfl rfl) (VRunD.off rfl (VWant.not (b := false) rfl rfl rfl) (fD (OF.pickF (tv (tB false) rfl) (VEv.bool false)) rfl rfl (mD (tB false) rfl rfl (VRunD.off rfl (VWant.not (b := false) rfl rfl rfl) (VRunD.off rfl (VWant.not (b := false) rfl rfl rfl) (VRunD.off rfl (VWant.not (b := false) rfl rfl rfl) (VRunD.off rfl (VWant.not (b := false) rfl rfl rfl) (VRunD.off rfl (VWant.not (b := false) rfl rfl rfl) ?_)))))))))))
    refine VRunD.off rfl (VWant.not (b := false) rfl rfl rfl) (fD (OF.pickF (tv (tB false) rfl) (VEv.bool false)) rfl rfl (mD (tB false) rfl rfl (VRunD.off rfl (VWant.not (b := false) rfl rfl rfl) (VRunD.off rfl (VWant.not (b := false) rfl rfl rfl) (VRunD.off rfl (VWant.not (b := false) rfl rfl rfl) (VRunD.off rfl (VWant.not (b := false) rfl rfl rfl) (VRunD.off rfl (VWant.not (b := false) rfl rfl rfl) (fD (OF.pickF (tv (tB false) rfl) (VEv.bool false)) rfl rfl (mD (tB false) rfl rfl (VRunD.off rfl (VWant.not (b := false) rfl rfl rfl) (VRunD.off rfl (VWant.not (b := false) rfl rfl rfl) ?_)))))))))))
    refine VRunD.off rfl (VWant.not (b := false) rfl rfl rfl) (fD (OF.pickF (tv (tB false) rfl) (VEv.bool false)) rfl rfl (fD (OF.assign (tv (tB false) rfl)) rfl rfl (VRunD.nil (tn (rt (vb (b' := false) rfl ?_))))))
    first | (refine decN ⟨fun h => (isSess_iff a s).1 ⟨⟨⟨⟨⟨⟨⟨?_, ?_⟩, ?_⟩, ?_⟩, ?_⟩, ?_⟩, ?_⟩, h⟩, fun h => h.2.2.2.2.2.2.2.2⟩ <;> first | assumption | omega) | (symm; rw [decide_eq_false_iff_not]; rintro ⟨h1, h2, h3, h4, h5, h6, h7, h8, h9⟩; first | contradiction | omega | (exact absurd (srtd_eq.2 h6) (by assumption)))
  refine oD rfl rfl (dz fhg7_1) rfl (oD rfl rfl (dz fhg7_1) rfl (oD rfl rfl (dz fhg7_1) rfl (oD rfl rfl (dz fhg7_1) rfl (oD rfl rfl (dz fhg7_1) rfl (fD (OF.pickF (VEv.tmpB rfl (dz fhg7_1)) (VEv.bool false)) rfl rfl (mD (tB false) rfl rfl (VRunD.off rfl (VWant.not (b := false) rfl rfl rfl) (VRunD.off rfl (VWant.not (b := false) rfl rfl rfl) (VRunD.off rfl (VWant.not (b := false) rfl rfl rfl) (fD (OF.pickF (tv (tB false) rfl) (VEv.bool false)) rfl rfl (mD (tB false) rfl rfl ?_)))))))))))
  refine VRunD.off rfl (VWant.not (b := false) rfl rfl rfl) (VRunD.off rfl (VWant.not (b := false) rfl rfl rfl) (VRunD.off rfl (VWant.not (b := false) rfl rfl rfl) (fD (OF.pickF (tv (tB false) rfl) (VEv.bool false)) rfl rfl (mD (tB false) rfl rfl (VRunD.off rfl (VWant.not (b := false) rfl rfl rfl) (VRunD.off rfl (VWant.not (b := false) rfl rfl rfl) (VRunD.off rfl (VWant.not (b := false) rfl rfl rfl) (VRunD.off rfl (VWant.not (b := false) rfl rfl rfl) (VRunD.off rfl (VWant.not (b := false) rfl rfl rfl) (VRunD.off rfl (VWant.not (b := false) rfl rfl rfl) (VRunD.off rfl (VWant.not (b := false) rfl rfl rfl) ?_)))))))))))
  refine fD (OF.pickF (tv (tB false) rfl) (VEv.bool false)) rfl rfl (mD (tB false) rfl rfl (VRunD.off rfl (VWant.not (b := false) rfl rfl rfl) (VRunD.off rfl (VWant.not (b := false) rfl rfl rfl) (VRunD.off rfl (VWant.not (b := false) rfl rfl rfl) (VRunD.off rfl (VWant.not (b := false) rfl rfl rfl) (VRunD.off rfl (VWant.not (b := false) rfl rfl rfl) (VRunD.off rfl (VWant.not (b := false) rfl rfl rfl) (fD (OF.pickF (tv (tB false) rfl) (VEv.bool false)) rfl rfl (mD (tB false) rfl rfl (VRunD.off rfl (VWant.not (b := false) rfl rfl rfl) (VRunD.off rfl (VWant.not (b := false) rfl rfl rfl) ?_)))))))))))
  refine VRunD.off rfl (VWant.not (b := false) rfl rfl rfl) (VRunD.off rfl (VWant.not (b := false) rfl rfl rfl) (VRunD.off rfl (VWant.not (b := false) rfl rfl rfl) (fD (OF.pickF (tv (tB false) rfl) (VEv.bool false)) rfl rfl (mD (tB false) rfl rfl (VRunD.off rfl (VWant.not (b := false) rfl rfl rfl) (VRunD.off rfl (VWant.not (b := false) rfl rfl rfl) (VRunD.off rfl (VWant.not (b := false) rfl rfl rfl) (fD (OF.pickF (tv (tB false) rfl) (VEv.bool false)) rfl rfl (fD (OF.assign (tv (tB false) rfl)) rfl rfl (VRunD.nil (tn ?_)))))))))))
  refine rt (vb (b' := false) rfl ?_)
  first | (refine decN ⟨fun h => (isSess_iff a s).1 ⟨⟨⟨⟨⟨⟨⟨?_, ?_⟩, ?_⟩, ?_⟩, ?_⟩, ?_⟩, ?_⟩, h⟩, fun h => h.2.2.2.2.2.2.2.2⟩ <;> first | assumption | omega) | (symm; rw [decide_eq_false_iff_not]; rintro ⟨h1, h2, h3, h4, h5, h6, h7, h8, h9⟩; first | contradiction | omega | (exact absurd (srtd_eq.2 h6) (by assumption)))
noncomputable section
def pointsOf (a : D.Puzzle) (s : D.Session) : Int := if isSess a s then max 0 (10 * (((rightG a.Grid s.Fill a.Seals a.Salt).length : Nat) : Int) - s.Checks - s.Spent) else 0
end
theorem W_spec_PointsOf (n : Nat) (a : D.Puzzle) (s : D.Session) (hz : zPuzzle a ≤ mx) (hs : zSession s ≤ mx) : Pure (acall Tryz.prog (n + 12)) 41 [(T.agg (ePuzzle false a)), (T.agg (eSession false s))] (tI (pointsOf a s)) := by
  refine Pure.intro (rs := [ResultVar.tmp 4]) Tryz.func41 rfl rfl rfl (E0 := [(0, (T.agg (ePuzzle false a))), (1, (T.agg (eSession false s)))]) rfl ?_
  obtain ⟨hlim, hmx, hmax⟩ := lims
  have hs2 := hs
  simp only [zSession] at hs2
  have hz2 := hz
  simp only [zPuzzle, zGrid] at hz2
  have hl := zL_len (z := zClue) a.Clues
  have hl2 := zL_len (z := zI) s.Asked
  have hl3 := zL_len (z := zI) a.Seals
  have hrl := rightG_len a.Grid s.Fill a.Seals a.Salt
  refine sr (kO (B.box (ts := (ePuzzle false a)) (tv (T.agg (ePuzzle false a)) rfl) nofun rfl) (kO (B.box (ts := (eSession false s)) (tv (T.agg (eSession false s)) rfl) nofun rfl) (fO (OF.assign (VEv.int .i64 0)) (nt (sq (sr (lO (OL.loadOn (us := (ePuzzle false a)) (tv (T.op 0 0) rfl) rfl st37 sz37 (lb rfl) rfl) (lO (OL.loadOn (us := (eSession false s)) (tv (T.op 1 0) rfl) rfl st56 sz56 (lb rfl) rfl) (cO (cS (vc (tv (T.agg (ePuzzle false a)) rfl) (vc (tv (T.agg (eSession false s)) rfl) vn)) (LendL.cons (lg okePuzzle) (LendL.cons (lg okeSession) ln)) (W_spec_IsSession (n + 0) a s (by first | assumption | omega) (by first | assumption | omega)) rfl rfl) (fO (xnot (tv (tB (decide (isSess a s))) rfl)) (nt ?_)))))))))))
  refine cn (isSess a s) rfl (fun fhc0 => ?_) fun fhc0 => ?_
  · refine sr ?_
    refine fO (OF.assign (VEv.int .i64 0)) (nt (rt (tr (vi (n' := 0) rfl ?_))))
    first | (exact (if_pos (by assumption)).symm) | (exact (if_neg (by assumption)).symm)
  have hc7 := fhc0.2.2.1; have hc8 := fhc0.2.2.2.1
  refine sk (tn (sq (VRun.draw (B := [[], [0], [], [2], [], [4], [], [6], [6, 7, 4, 5, 2, 3, 0, 1], [1, 0, 3, 2, 5, 4, 7, 6, 8], [8, 6, 7, 4, 5, 2, 3, 0, 1, 9], [], [11], [11, 12, 9, 1, 0, 3, 2, 5, 4, 7, 6, 8, 10], [], [14], [14, 15, 10, 8, 6, 7, 4, 5, 2, 3, 0, 1, 9, 12, 11, 13], [13, 11, 12, 9, 1, 0, 3, 2, 5, 4, 7, 6, 8, 10, 15, 14, 16], [16, 14, 15, 10, 8, 6, 7, 4, 5, 2, 3, 0, 1, 9, 12, 11, 13, 17]]) (by kernel_rfl) (by kernel_rfl) (fD (OF.fieldAddrO (tv (T.op 0 0) rfl) fa37_0) rfl rfl (lD (OL.loadOn (us := (eGrid false a.Grid)) (tv (T.op 0 0) rfl) rfl st34 sz34 (lb rfl) rfl) rfl rfl (fD (OF.fieldAddrO (tv (T.op 1 0) rfl) fa56_0) rfl rfl (lD (OL.loadO1 (t := (tS s.Fill)) (tv (T.op 1 0) rfl) rfl rfl st9) rfl rfl (fD (OF.fieldAddrO (tv (T.op 0 0) rfl) fa37_2) rfl rfl (lD (OL.loadO1 (t := (rd 1 eInt a.Seals)) (tv (T.op 0 4) rfl) rfl rfl st25) rfl rfl (fD (OF.fieldAddrO (tv (T.op 0 0) rfl) fa37_3) rfl rfl (lD (OL.loadO1 (t := (tI a.Salt)) (tv (T.op 0 5) rfl) rfl rfl st3) rfl rfl ?_)))))))))))
  refine VRunD.quiet (bi := [6, 7, 4, 5, 2, 3, 0, 1]) rfl VWant.always rfl rfl rfl bn (OC.callF (us := [(T.agg (eGrid false a.Grid)), (tS s.Fill), (rd 1 eInt a.Seals), (tI a.Salt)]) (r := (T.sl true 1 ((rightG a.Grid s.Fill a.Seals a.Salt).map (eInt true)))) (r' := (T.os 1 2 0 (((rightG a.Grid s.Fill a.Seals a.Salt).map (eInt true)).length))) (objs := [(Obj.rows 1 ((rightG a.Grid s.Fill a.Seals a.Salt).map (eInt true)))]) rfl (vc (tv (T.agg (eGrid false a.Grid)) rfl) (vc (tv (tS s.Fill) rfl) (vc (tv (rd 1 eInt a.Seals) rfl) (vc (tv (tI a.Salt) rfl) vn)))) (LendL.cons (lg okeGrid) (lp rfl (lp rfl (lp rfl ln)))) (W_spec_RightSlots (n + 5) a.Grid s.Fill a.Seals a.Salt (by first | assumption | omega) (by first | assumption | omega) (by first | assumption | omega)) rfl) (lD (B.lenO (m := (rightG a.Grid s.Fill a.Seals a.Salt).length) (tv (T.os 1 2 0 (((rightG a.Grid s.Fill a.Seals a.Salt).map (eInt true)).length)) rfl) U25 (List.length_map ..)) rfl rfl (fD (B.mul (n := (((10 * (rightG a.Grid s.Fill a.Seals a.Salt).length) : Nat) : Int)) (VEv.int .i64 10) (tv (tN ((rightG a.Grid s.Fill a.Seals a.Salt).length)) rfl) (by first | rfl | (rw [wrap64 (by omega)]; omega) | (rw [wrap64 (by omega)]; done))) rfl rfl (fD (OF.fieldAddrO (tv (T.op 1 0) rfl) fa56_1) rfl rfl (lD (OL.loadO1 (t := (tI s.Checks)) (tv (T.op 1 1) rfl) rfl rfl st3) rfl rfl (fD (B.sub (n := ((((10 * (rightG a.Grid s.Fill a.Seals a.Salt).length) : Nat) : Int) - s.Checks)) (tv (tN (10 * (rightG a.Grid s.Fill a.Seals a.Salt).length)) rfl) (tv (tI s.Checks) rfl) (by first | rfl | (rw [wrap64 (by omega)]; omega) | (rw [wrap64 (by omega)]; done))) rfl rfl (fD (OF.fieldAddrO (tv (T.op 1 0) rfl) fa56_2) rfl rfl (lD (OL.loadO1 (t := (tI s.Spent)) (tv (T.op 1 2) rfl) rfl rfl st3) rfl rfl (fD (B.sub (n := (((((10 * (rightG a.Grid s.Fill a.Seals a.Salt).length) : Nat) : Int) - s.Checks) - s.Spent)) (tv (tI ((((10 * (rightG a.Grid s.Fill a.Seals a.Salt).length) : Nat) : Int) - s.Checks)) rfl) (tv (tI s.Spent) rfl) (by first | rfl | (rw [wrap64 (by omega)]; omega) | (rw [wrap64 (by omega)]; done))) rfl rfl (VRunD.quiet (bi := [13, 11, 12, 9, 1, 0, 3, 2, 5, 4, 7, 6, 8, 10, 15, 14, 16]) rfl VWant.always rfl rfl rfl bn (cS (vc (VEv.int .i64 0) (vc (tv (tI (((((10 * (rightG a.Grid s.Fill a.Seals a.Salt).length) : Nat) : Int) - s.Checks) - s.Spent)) rfl) vn)) (lps rfl) (W_spec_Max (n + 10) 0 (((((10 * (rightG a.Grid s.Fill a.Seals a.Salt).length) : Nat) : Int) - s.Checks) - s.Spent) ) rfl rfl) (fD (OF.assign (tv (tI (max 0 (((((10 * (rightG a.Grid s.Fill a.Seals a.Salt).length) : Nat) : Int) - s.Checks) - s.Spent))) rfl)) rfl rfl (VRunD.nil ?_)))))))))))
  refine tn (rt (vi (n' := max 0 (((((10 * (rightG a.Grid s.Fill a.Seals a.Salt).length) : Nat) : Int) - s.Checks) - s.Spent)) rfl ?_))
  first | (exact (if_pos (by assumption)).symm) | (exact (if_neg (by assumption)).symm)
theorem W_impl_PointsOf (n : Nat) (a : D.Puzzle) (s : D.Session) (hz : zPuzzle a ≤ mx) (hs : zSession s ≤ mx) : Pure (acall Tryz.prog (n + 44)) 42 [(T.agg (ePuzzle false a)), (T.agg (eSession false s))] (tI (pointsOf a s)) := by
  refine Pure.intro (rs := [ResultVar.tmp 4]) Tryz.func42 rfl rfl rfl (E0 := [(0, (T.agg (ePuzzle false a))), (1, (T.agg (eSession false s)))]) rfl ?_
  obtain ⟨hlim, hmx, hmax⟩ := lims
  have hs2 := hs
  simp only [zSession] at hs2
  have hz2 := hz
  simp only [zPuzzle, zGrid] at hz2
  have hl := zL_len (z := zClue) a.Clues
  have hl2 := zL_len (z := zI) s.Asked
  have hl3 := zL_len (z := zI) a.Seals
  have hrl := rightG_len a.Grid s.Fill a.Seals a.Salt
  refine sr (kO (B.box (ts := (ePuzzle false a)) (tv (T.agg (ePuzzle false a)) rfl) nofun rfl) (kO (B.box (ts := (eSession false s)) (tv (T.agg (eSession false s)) rfl) nofun rfl) (fO (OF.assign (VEv.int .i64 0)) (nt (sq (sr (lO (OL.loadOn (us := (ePuzzle false a)) (tv (T.op 0 0) rfl) rfl st37 sz37 (lb rfl) rfl) (lO (OL.loadOn (us := (eSession false s)) (tv (T.op 1 0) rfl) rfl st56 sz56 (lb rfl) rfl) (cO (cS (vc (tv (T.agg (ePuzzle false a)) rfl) (vc (tv (T.agg (eSession false s)) rfl) vn)) (LendL.cons (lg okePuzzle) (LendL.cons (lg okeSession) ln)) (W_impl_IsSession (n + 0) a s (by first | assumption | omega) (by first | assumption | omega)) rfl rfl) (fO (xnot (tv (tB (decide (isSess a s))) rfl)) (nt ?_)))))))))))
  refine cn (isSess a s) rfl (fun fhc0 => ?_) fun fhc0 => ?_
  · refine sr ?_
    refine fO (OF.assign (VEv.int .i64 0)) (nt (rt (tr (vi (n' := 0) rfl ?_))))
    first | (exact (if_pos (by assumption)).symm) | (exact (if_neg (by assumption)).symm)
  have hc7 := fhc0.2.2.1; have hc8 := fhc0.2.2.2.1
  refine sk (tn (sq (VRun.draw (B := [[], [0], [], [2], [], [4], [], [6], [6, 7, 4, 5, 2, 3, 0, 1], [1, 0, 3, 2, 5, 4, 7, 6, 8], [8, 6, 7, 4, 5, 2, 3, 0, 1, 9], [], [11], [11, 12, 9, 1, 0, 3, 2, 5, 4, 7, 6, 8, 10], [], [14], [14, 15, 10, 8, 6, 7, 4, 5, 2, 3, 0, 1, 9, 12, 11, 13], [13, 11, 12, 9, 1, 0, 3, 2, 5, 4, 7, 6, 8, 10, 15, 14, 16], [16, 14, 15, 10, 8, 6, 7, 4, 5, 2, 3, 0, 1, 9, 12, 11, 13, 17]]) (by kernel_rfl) (by kernel_rfl) (fD (OF.fieldAddrO (tv (T.op 0 0) rfl) fa37_0) rfl rfl (lD (OL.loadOn (us := (eGrid false a.Grid)) (tv (T.op 0 0) rfl) rfl st34 sz34 (lb rfl) rfl) rfl rfl (fD (OF.fieldAddrO (tv (T.op 1 0) rfl) fa56_0) rfl rfl (lD (OL.loadO1 (t := (tS s.Fill)) (tv (T.op 1 0) rfl) rfl rfl st9) rfl rfl (fD (OF.fieldAddrO (tv (T.op 0 0) rfl) fa37_2) rfl rfl (lD (OL.loadO1 (t := (rd 1 eInt a.Seals)) (tv (T.op 0 4) rfl) rfl rfl st25) rfl rfl (fD (OF.fieldAddrO (tv (T.op 0 0) rfl) fa37_3) rfl rfl (lD (OL.loadO1 (t := (tI a.Salt)) (tv (T.op 0 5) rfl) rfl rfl st3) rfl rfl ?_)))))))))))
  refine VRunD.quiet (bi := [6, 7, 4, 5, 2, 3, 0, 1]) rfl VWant.always rfl rfl rfl bn (OC.callF (us := [(T.agg (eGrid false a.Grid)), (tS s.Fill), (rd 1 eInt a.Seals), (tI a.Salt)]) (r := (T.sl true 1 ((rightG a.Grid s.Fill a.Seals a.Salt).map (eInt true)))) (r' := (T.os 1 2 0 (((rightG a.Grid s.Fill a.Seals a.Salt).map (eInt true)).length))) (objs := [(Obj.rows 1 ((rightG a.Grid s.Fill a.Seals a.Salt).map (eInt true)))]) rfl (vc (tv (T.agg (eGrid false a.Grid)) rfl) (vc (tv (tS s.Fill) rfl) (vc (tv (rd 1 eInt a.Seals) rfl) (vc (tv (tI a.Salt) rfl) vn)))) (LendL.cons (lg okeGrid) (lp rfl (lp rfl (lp rfl ln)))) (W_impl_RightSlots (n + 37) a.Grid s.Fill a.Seals a.Salt (by first | assumption | omega) (by first | assumption | omega) (by first | assumption | omega)) rfl) (lD (B.lenO (m := (rightG a.Grid s.Fill a.Seals a.Salt).length) (tv (T.os 1 2 0 (((rightG a.Grid s.Fill a.Seals a.Salt).map (eInt true)).length)) rfl) U25 (List.length_map ..)) rfl rfl (fD (B.mul (n := (((10 * (rightG a.Grid s.Fill a.Seals a.Salt).length) : Nat) : Int)) (VEv.int .i64 10) (tv (tN ((rightG a.Grid s.Fill a.Seals a.Salt).length)) rfl) (by first | rfl | (rw [wrap64 (by omega)]; omega) | (rw [wrap64 (by omega)]; done))) rfl rfl (fD (OF.fieldAddrO (tv (T.op 1 0) rfl) fa56_1) rfl rfl (lD (OL.loadO1 (t := (tI s.Checks)) (tv (T.op 1 1) rfl) rfl rfl st3) rfl rfl (fD (B.sub (n := ((((10 * (rightG a.Grid s.Fill a.Seals a.Salt).length) : Nat) : Int) - s.Checks)) (tv (tN (10 * (rightG a.Grid s.Fill a.Seals a.Salt).length)) rfl) (tv (tI s.Checks) rfl) (by first | rfl | (rw [wrap64 (by omega)]; omega) | (rw [wrap64 (by omega)]; done))) rfl rfl (fD (OF.fieldAddrO (tv (T.op 1 0) rfl) fa56_2) rfl rfl (lD (OL.loadO1 (t := (tI s.Spent)) (tv (T.op 1 2) rfl) rfl rfl st3) rfl rfl (fD (B.sub (n := (((((10 * (rightG a.Grid s.Fill a.Seals a.Salt).length) : Nat) : Int) - s.Checks) - s.Spent)) (tv (tI ((((10 * (rightG a.Grid s.Fill a.Seals a.Salt).length) : Nat) : Int) - s.Checks)) rfl) (tv (tI s.Spent) rfl) (by first | rfl | (rw [wrap64 (by omega)]; omega) | (rw [wrap64 (by omega)]; done))) rfl rfl (fD (B.max (n := (max 0 (((((10 * (rightG a.Grid s.Fill a.Seals a.Salt).length) : Nat) : Int) - s.Checks) - s.Spent))) (VEv.int .i64 0) (tv (tI (((((10 * (rightG a.Grid s.Fill a.Seals a.Salt).length) : Nat) : Int) - s.Checks) - s.Spent)) rfl) (by simp only [Int.max_def, Int.min_def]; split <;> split <;> omega)) rfl rfl (fD (OF.assign (tv (tI (max 0 (((((10 * (rightG a.Grid s.Fill a.Seals a.Salt).length) : Nat) : Int) - s.Checks) - s.Spent))) rfl)) rfl rfl (VRunD.nil ?_)))))))))))
  refine tn (rt (vi (n' := (max 0 (((((10 * (rightG a.Grid s.Fill a.Seals a.Salt).length) : Nat) : Int) - s.Checks) - s.Spent))) rfl ?_))
  first | (exact (if_pos (by assumption)).symm) | (exact (if_neg (by assumption)).symm)
end Go.Proofs.YtcccmceoplcciaaGreat.AE
namespace Go.Proofs.YtcccmceoplcciaaGreat.AE
open Go Go.RowKit
set_option linter.unusedVariables false
set_option linter.unusedSimpArgs false
set_option maxRecDepth 20000
set_option maxHeartbeats 2000000
theorem W_laws_FnExactPointsOf (n : Nat) (a0 : D.Puzzle) (a1 : D.Session) (g0 : GPuzzle a0) (g1 : GSession a1) : Pure (acall Tryz.prog (n + 45)) 8 [(T.agg (ePuzzle false a0)), (T.agg (eSession false a1))] (tB true) := by
  refine Pure.intro (rs := [ResultVar.tmp 4]) Tryz.func8 rfl rfl rfl (E0 := [(0, (T.agg (ePuzzle false a0))), (1, (T.agg (eSession false a1)))]) rfl ?_
  obtain ⟨hlim, hmx, hmax⟩ := lims
  have hl0_0 := zL_len (z := zClue) a0.Clues
  have hl0_1 := zL_len (z := zI) a0.Seals
  have hl1_2 := zL_len (z := zI) a1.Asked
  refine sr (kO (B.box (ts := (ePuzzle false a0)) (tv (T.agg (ePuzzle false a0)) rfl) nofun rfl) (kO (B.box (ts := (eSession false a1)) (tv (T.agg (eSession false a1)) rfl) nofun rfl) (fO (OF.assign (VEv.bool false)) (nt (sr (fO (OF.assign (VEv.int .i64 1048576)) (nt (sr (lO (OL.loadOn (us := (ePuzzle false a0)) (tv (T.op 0 0) rfl) rfl st27 sz27 (lb rfl) rfl) (mO (tN 1048576) rfl (cO (cS (vc (tv (T.agg (ePuzzle false a0)) rfl) (vc (tv (tN 1048576) rfl) vn)) (LendL.cons (lg okePuzzle) (lp rfl ln)) (W_laws_szPuzzle (n + 39) a0 1048576 (by first | exact mkN_self _ _ _ _ | (simp only [mkN_len]; omega) | assumption | omega | (simp only [List.length_map]; omega) | (simp only [List.length_map, List.length_append, List.length_cons, List.length_nil, List.length_replicate, List.length_set, List.length_drop, List.length_take, lim] at *; omega)) (by first | exact mkN_self _ _ _ _ | (simp only [mkN_len]; omega) | assumption | omega | (simp only [List.length_map]; omega) | (simp only [List.length_map, List.length_append, List.length_cons, List.length_nil, List.length_replicate, List.length_set, List.length_drop, List.length_take, lim] at *; omega)) (by first | exact mkN_self _ _ _ _ | (simp only [mkN_len]; omega) | assumption | omega | (simp only [List.length_map]; omega) | (simp only [List.length_map, List.length_append, List.length_cons, List.length_nil, List.length_replicate, List.length_set, List.length_drop, List.length_take, lim] at *; omega))) rfl rfl) ?_)))))))))))
  refine aO (tI (szR (zPuzzle a0) 1048576)) rfl (nt (sq (sr (mO (tI (szR (zPuzzle a0) 1048576)) rfl (fO (xls (tv (tI (szR (zPuzzle a0) 1048576)) rfl) (VEv.int .i64 0)) (nt ?_))))))
  refine cd (szR (zPuzzle a0) 1048576 < 0) rfl (fun fhc0 => ?_) fun fhc0 => ?_
  · refine sr ?_
    refine fO (OF.assign (VEv.bool true)) (nt (rt (tr ?_)))
    exact vb rfl rfl
  first | (have hz0 := szR_pos fhc0) | skip
  refine sk (tn (sr (lO (OL.loadOn (us := (eSession false a1)) (tv (T.op 1 0) rfl) rfl st51 sz51 (lb rfl) rfl) (mO (tI (szR (zPuzzle a0) 1048576)) rfl (cO (cS (vc (tv (T.agg (eSession false a1)) rfl) (vc (tv (tI (szR (zPuzzle a0) 1048576)) rfl) vn)) (LendL.cons (lg okeSession) (lp rfl ln)) (W_laws_szSession (n + 42) a1 (szR (zPuzzle a0) 1048576) (by first | exact mkN_self _ _ _ _ | (simp only [mkN_len]; omega) | assumption | omega | (simp only [List.length_map]; omega) | (simp only [List.length_map, List.length_append, List.length_cons, List.length_nil, List.length_replicate, List.length_set, List.length_drop, List.length_take, lim] at *; omega)) (by first | exact mkN_self _ _ _ _ | (simp only [mkN_len]; omega) | assumption | omega | (simp only [List.length_map]; omega) | (simp only [List.length_map, List.length_append, List.length_cons, List.length_nil, List.length_replicate, List.length_set, List.length_drop, List.length_take, lim] at *; omega)) (by first | exact mkN_self _ _ _ _ | (simp only [mkN_len]; omega) | assumption | omega | (simp only [List.length_map]; omega) | (simp only [List.length_map, List.length_append, List.length_cons, List.length_nil, List.length_replicate, List.length_set, List.length_drop, List.length_take, lim] at *; omega))) rfl rfl) (aO (tI (szR (zSession a1) (szR (zPuzzle a0) 1048576))) rfl (nt (sq (sr (mO (tI (szR (zSession a1) (szR (zPuzzle a0) 1048576))) rfl (fO (xls (tv (tI (szR (zSession a1) (szR (zPuzzle a0) 1048576))) rfl) (VEv.int .i64 0)) ?_)))))))))))
  refine nt ?_
  refine cd (szR (zSession a1) (szR (zPuzzle a0) 1048576) < 0) rfl (fun fhc1 => ?_) fun fhc1 => ?_
  · refine sr ?_
    refine fO (OF.assign (VEv.bool true)) (nt (rt (tr ?_)))
    exact vb rfl rfl
  first | (have hz1 := szR_pos fhc1) | skip
  refine sk (tn (sq (VRun.draw (B := [[], [0], [], [0, 1, 2], [2, 3, 0, 1], [1, 0, 3, 2, 4]]) (by kernel_rfl) (by kernel_rfl) (lD (OL.loadOn (us := (ePuzzle false a0)) (tv (T.op 0 0) rfl) rfl st27 sz27 (lb rfl) rfl) rfl rfl (VRunD.quiet (bi := [0]) rfl VWant.always rfl rfl rfl bn (OC.callF (us := [(T.agg (ePuzzle false a0))]) (r := (T.agg (ePuzzle true a0))) (r' := (T.agg [(tI a0.Grid.Rows), (tI a0.Grid.Cols), (tS a0.Grid.Cells), (T.os 2 2 0 ((a0.Clues.map (eClue true)).length)), (T.os 1 3 0 ((a0.Seals.map (eInt true)).length)), (tI a0.Salt)])) (objs := [(Obj.rows 2 (a0.Clues.map (eClue true))), (Obj.rows 1 (a0.Seals.map (eInt true)))]) rfl (vc (tv (T.agg (ePuzzle false a0)) rfl) vn) (LendL.cons (lg okePuzzle) ln) (W_laws_toPuzzle (n + 39) a0 (by first | exact mkN_self _ _ _ _ | (simp only [mkN_len]; omega) | assumption | omega | (simp only [List.length_map]; omega) | (simp only [List.length_map, List.length_append, List.length_cons, List.length_nil, List.length_replicate, List.length_set, List.length_drop, List.length_take, lim] at *; omega))) rfl) (lD (OL.loadOn (us := (eSession false a1)) (tv (T.op 1 0) rfl) rfl st51 sz51 (lb rfl) rfl) rfl rfl (VRunD.quiet (bi := [0, 1, 2]) rfl VWant.always rfl rfl rfl bn (OC.callF (us := [(T.agg (eSession false a1))]) (r := (T.agg (eSession true a1))) (r' := (T.agg [(tS a1.Fill), (tI a1.Checks), (tI a1.Spent), (T.os 1 4 0 ((a1.Asked.map (eInt true)).length)), (tI a1.Start), (tI a1.Now)])) (objs := [(Obj.rows 1 (a1.Asked.map (eInt true)))]) rfl (vc (tv (T.agg (eSession false a1)) rfl) vn) (LendL.cons (lg okeSession) ln) (W_laws_toSession (n + 42) a1 (by first | exact mkN_self _ _ _ _ | (simp only [mkN_len]; omega) | assumption | omega | (simp only [List.length_map]; omega) | (simp only [List.length_map, List.length_append, List.length_cons, List.length_nil, List.length_replicate, List.length_set, List.length_drop, List.length_take, lim] at *; omega))) rfl) (VRunD.quiet (bi := [2, 3, 0, 1]) rfl VWant.always rfl rfl rfl bn (cS (us := [(T.agg (ePuzzle false a0)), (T.agg (eSession false a1))]) (vc (tv (T.agg [(tI a0.Grid.Rows), (tI a0.Grid.Cols), (tS a0.Grid.Cells), (T.os 2 2 0 ((a0.Clues.map (eClue true)).length)), (T.os 1 3 0 ((a0.Seals.map (eInt true)).length)), (tI a0.Salt)]) rfl) (vc (tv (T.agg [(tS a1.Fill), (tI a1.Checks), (tI a1.Spent), (T.os 1 4 0 ((a1.Asked.map (eInt true)).length)), (tI a1.Start), (tI a1.Now)]) rfl) vn)) (LendL.cons (Lend.agg (LendL.cons (Lend.pl rfl) (LendL.cons (Lend.pl rfl) (LendL.cons (Lend.pl rfl) (LendL.cons (Lend.os rfl rfl (okeClue.fzMap _ _)) (LendL.cons (Lend.os rfl rfl (okInt.fzMap _ _)) (LendL.cons (Lend.pl rfl) ln))))))) (LendL.cons (Lend.agg (LendL.cons (Lend.pl rfl) (LendL.cons (Lend.pl rfl) (LendL.cons (Lend.pl rfl) (LendL.cons (Lend.os rfl rfl (okInt.fzMap _ _)) (LendL.cons (Lend.pl rfl) (LendL.cons (Lend.pl rfl) ln))))))) ln)) (W_spec_PointsOf (n + 32) a0 a1 (by first | exact mkN_self _ _ _ _ | (simp only [mkN_len]; omega) | assumption | omega | (simp only [List.length_map]; omega) | (simp only [List.length_map, List.length_append, List.length_cons, List.length_nil, List.length_replicate, List.length_set, List.length_drop, List.length_take, lim] at *; omega)) (by first | exact mkN_self _ _ _ _ | (simp only [mkN_len]; omega) | assumption | omega | (simp only [List.length_map]; omega) | (simp only [List.length_map, List.length_append, List.length_cons, List.length_nil, List.length_replicate, List.length_set, List.length_drop, List.length_take, lim] at *; omega))) rfl rfl) ?_))))))))
  refine fD (OF.assign (tv (tI (pointsOf a0 a1)) rfl)) rfl rfl (VRunD.nil (tn (sr (lO (OL.loadOn (us := (ePuzzle false a0)) (tv (T.op 0 0) rfl) rfl st27 sz27 (lb rfl) rfl) (cO (OC.callF (us := [(T.agg (ePuzzle false a0))]) (r := (T.agg (ePuzzle true a0))) (r' := (T.agg [(tI a0.Grid.Rows), (tI a0.Grid.Cols), (tS a0.Grid.Cells), (T.os 2 5 0 ((a0.Clues.map (eClue true)).length)), (T.os 1 6 0 ((a0.Seals.map (eInt true)).length)), (tI a0.Salt)])) (objs := [(Obj.rows 2 (a0.Clues.map (eClue true))), (Obj.rows 1 (a0.Seals.map (eInt true)))]) rfl (vc (tv (T.agg (ePuzzle false a0)) rfl) vn) (LendL.cons (lg okePuzzle) ln) (W_laws_toPuzzle (n + 39) a0 (by first | exact mkN_self _ _ _ _ | (simp only [mkN_len]; omega) | assumption | omega | (simp only [List.length_map]; omega) | (simp only [List.length_map, List.length_append, List.length_cons, List.length_nil, List.length_replicate, List.length_set, List.length_drop, List.length_take, lim] at *; omega))) rfl) (kO (B.alloc (t := (T.agg [(tN 0), (tN 0), (tS ByteArray.empty), T.nils, T.nils, (tN 0)])) (ts := [(tN 0), (tN 0), (tS ByteArray.empty), T.nils, T.nils, (tN 0)]) zo37 zc37 nofun (fun _ => .agg _ _ rfl (RLof (RL.cons (.int _ _) (RL.cons (.int _ _) (RL.cons (.str _) (RL.cons (.nils) (RL.cons (.nils) (RL.cons (.int _ _) (RL.nil _))))))))) rfl) (cO (B.storeO (us := [(tI a0.Grid.Rows), (tI a0.Grid.Cols), (tS a0.Grid.Cells), (T.os 2 5 0 ((a0.Clues.map (eClue true)).length)), (T.os 1 6 0 ((a0.Seals.map (eInt true)).length)), (tI a0.Salt)]) (ws := [(tI a0.Grid.Rows), (tI a0.Grid.Cols), (tS a0.Grid.Cells), (T.os 2 5 0 ((a0.Clues.map (eClue true)).length)), (T.os 1 6 0 ((a0.Seals.map (eInt true)).length)), (tI a0.Salt)]) (tv (T.op 7 0) rfl) (tv (T.agg [(tI a0.Grid.Rows), (tI a0.Grid.Cols), (tS a0.Grid.Cells), (T.os 2 5 0 ((a0.Clues.map (eClue true)).length)), (T.os 1 6 0 ((a0.Seals.map (eInt true)).length)), (tI a0.Salt)]) rfl) nofun rfl rfl (lb rfl) if37 sz37 (bc rfl (bc rfl (bc rfl (bc rfl (bc rfl (bc rfl bn)))))) rfl) (nt (sr (lO (OL.loadOn (us := (eSession false a1)) (tv (T.op 1 0) rfl) rfl st51 sz51 (lb rfl) rfl) (cO (OC.callF (us := [(T.agg (eSession false a1))]) (r := (T.agg (eSession true a1))) (r' := (T.agg [(tS a1.Fill), (tI a1.Checks), (tI a1.Spent), (T.os 1 8 0 ((a1.Asked.map (eInt true)).length)), (tI a1.Start), (tI a1.Now)])) (objs := [(Obj.rows 1 (a1.Asked.map (eInt true)))]) rfl (vc (tv (T.agg (eSession false a1)) rfl) vn) (LendL.cons (lg okeSession) ln) (W_laws_toSession (n + 42) a1 (by first | exact mkN_self _ _ _ _ | (simp only [mkN_len]; omega) | assumption | omega | (simp only [List.length_map]; omega) | (simp only [List.length_map, List.length_append, List.length_cons, List.length_nil, List.length_replicate, List.length_set, List.length_drop, List.length_take, lim] at *; omega))) rfl) ?_)))))))))))
  refine kO (B.alloc (t := (T.agg [(tS ByteArray.empty), (tN 0), (tN 0), T.nils, (tN 0), (tN 0)])) (ts := [(tS ByteArray.empty), (tN 0), (tN 0), T.nils, (tN 0), (tN 0)]) zo56 zc56 nofun (fun _ => .agg _ _ rfl (RLof (RL.cons (.str _) (RL.cons (.int _ _) (RL.cons (.int _ _) (RL.cons (.nils) (RL.cons (.int _ _) (RL.cons (.int _ _) (RL.nil _))))))))) rfl) (cO (B.storeO (us := [(tS a1.Fill), (tI a1.Checks), (tI a1.Spent), (T.os 1 8 0 ((a1.Asked.map (eInt true)).length)), (tI a1.Start), (tI a1.Now)]) (ws := [(tS a1.Fill), (tI a1.Checks), (tI a1.Spent), (T.os 1 8 0 ((a1.Asked.map (eInt true)).length)), (tI a1.Start), (tI a1.Now)]) (tv (T.op 9 0) rfl) (tv (T.agg [(tS a1.Fill), (tI a1.Checks), (tI a1.Spent), (T.os 1 8 0 ((a1.Asked.map (eInt true)).length)), (tI a1.Start), (tI a1.Now)]) rfl) nofun rfl rfl (lb rfl) if56 sz56 (bc rfl (bc rfl (bc rfl (bc rfl (bc rfl (bc rfl bn)))))) rfl) (nt (sr (lO (OL.loadOn (us := [(tI a0.Grid.Rows), (tI a0.Grid.Cols), (tS a0.Grid.Cells), (T.os 2 5 0 ((a0.Clues.map (eClue true)).length)), (T.os 1 6 0 ((a0.Seals.map (eInt true)).length)), (tI a0.Salt)]) (tv (T.op 7 0) rfl) rfl st37 sz37 (lb rfl) rfl) (lO (OL.loadOn (us := [(tS a1.Fill), (tI a1.Checks), (tI a1.Spent), (T.os 1 8 0 ((a1.Asked.map (eInt true)).length)), (tI a1.Start), (tI a1.Now)]) (tv (T.op 9 0) rfl) rfl st56 sz56 (lb rfl) rfl) (cO (cS (us := [(T.agg (ePuzzle false a0)), (T.agg (eSession false a1))]) (vc (tv (T.agg [(tI a0.Grid.Rows), (tI a0.Grid.Cols), (tS a0.Grid.Cells), (T.os 2 5 0 ((a0.Clues.map (eClue true)).length)), (T.os 1 6 0 ((a0.Seals.map (eInt true)).length)), (tI a0.Salt)]) rfl) (vc (tv (T.agg [(tS a1.Fill), (tI a1.Checks), (tI a1.Spent), (T.os 1 8 0 ((a1.Asked.map (eInt true)).length)), (tI a1.Start), (tI a1.Now)]) rfl) vn)) (LendL.cons (Lend.agg (LendL.cons (Lend.pl rfl) (LendL.cons (Lend.pl rfl) (LendL.cons (Lend.pl rfl) (LendL.cons (Lend.os rfl rfl (okeClue.fzMap _ _)) (LendL.cons (Lend.os rfl rfl (okInt.fzMap _ _)) (LendL.cons (Lend.pl rfl) ln))))))) (LendL.cons (Lend.agg (LendL.cons (Lend.pl rfl) (LendL.cons (Lend.pl rfl) (LendL.cons (Lend.pl rfl) (LendL.cons (Lend.os rfl rfl (okInt.fzMap _ _)) (LendL.cons (Lend.pl rfl) (LendL.cons (Lend.pl rfl) ln))))))) ln)) (W_impl_PointsOf (n + 0) a0 a1 (by first | exact mkN_self _ _ _ _ | (simp only [mkN_len]; omega) | assumption | omega | (simp only [List.length_map]; omega) | (simp only [List.length_map, List.length_append, List.length_cons, List.length_nil, List.length_replicate, List.length_set, List.length_drop, List.length_take, lim] at *; omega)) (by first | exact mkN_self _ _ _ _ | (simp only [mkN_len]; omega) | assumption | omega | (simp only [List.length_map]; omega) | (simp only [List.length_map, List.length_append, List.length_cons, List.length_nil, List.length_replicate, List.length_set, List.length_drop, List.length_take, lim] at *; omega))) rfl rfl) (aO (tI (pointsOf a0 a1)) rfl (nt (sq (sr (mO (tI (pointsOf a0 a1)) rfl ?_)))))))))))
  refine mO (tI (pointsOf a0 a1)) rfl (fO (xne (tv (tI (pointsOf a0 a1)) rfl) (tv (tI (pointsOf a0 a1)) rfl)) (nt ?_))
  refine cn (pointsOf a0 a1 = pointsOf a0 a1) rfl (fun fhc2 => ?_) fun fhc2 => ?_
  · refine sr ?_
    refine fO (OF.assign (VEv.bool false)) (nt (rt (tr (vb (b' := false) rfl ?_))))
    first | rfl | (exfalso; omega) | (exfalso; (simp only [mkN_len] at * <;> omega)) | (exfalso; simp only [mkN_len, not_true_eq_false] at *; done) | (exfalso; simp_all; done)
  first | (have hz2 := szR_pos fhc2) | skip
  refine sk (tn (sq (sq (VRun.draw (B := [[], [], [1], [1, 2, 0], [0, 2, 1, 3]]) (by kernel_rfl) (by kernel_rfl) (lD (OL.loadOn (us := [(tI a0.Grid.Rows), (tI a0.Grid.Cols), (tS a0.Grid.Cells), (T.os 2 5 0 ((a0.Clues.map (eClue true)).length)), (T.os 1 6 0 ((a0.Seals.map (eInt true)).length)), (tI a0.Salt)]) (tv (T.op 7 0) rfl) rfl st37 sz37 (lb rfl) rfl) rfl rfl (lD (OL.loadOn (us := (ePuzzle false a0)) (tv (T.op 0 0) rfl) rfl st27 sz27 (lb rfl) rfl) rfl rfl (VRunD.quiet (bi := [1]) rfl VWant.always rfl rfl rfl bn (OC.callF (us := [(T.agg (ePuzzle false a0))]) (r := (T.agg (ePuzzle true a0))) (r' := (T.agg [(tI a0.Grid.Rows), (tI a0.Grid.Cols), (tS a0.Grid.Cells), (T.os 2 10 0 ((a0.Clues.map (eClue true)).length)), (T.os 1 11 0 ((a0.Seals.map (eInt true)).length)), (tI a0.Salt)])) (objs := [(Obj.rows 2 (a0.Clues.map (eClue true))), (Obj.rows 1 (a0.Seals.map (eInt true)))]) rfl (vc (tv (T.agg (ePuzzle false a0)) rfl) vn) (LendL.cons (lg okePuzzle) ln) (W_laws_toPuzzle (n + 39) a0 (by first | exact mkN_self _ _ _ _ | (simp only [mkN_len]; omega) | assumption | omega | (simp only [List.length_map]; omega) | (simp only [List.length_map, List.length_append, List.length_cons, List.length_nil, List.length_replicate, List.length_set, List.length_drop, List.length_take, lim] at *; omega))) rfl) (VRunD.quiet (bi := [1, 2, 0]) rfl VWant.always rfl rfl rfl bn (cS (us := [(T.agg (ePuzzle false a0)), (T.agg (ePuzzle false a0))]) (vc (tv (T.agg [(tI a0.Grid.Rows), (tI a0.Grid.Cols), (tS a0.Grid.Cells), (T.os 2 5 0 ((a0.Clues.map (eClue true)).length)), (T.os 1 6 0 ((a0.Seals.map (eInt true)).length)), (tI a0.Salt)]) rfl) (vc (tv (T.agg [(tI a0.Grid.Rows), (tI a0.Grid.Cols), (tS a0.Grid.Cells), (T.os 2 10 0 ((a0.Clues.map (eClue true)).length)), (T.os 1 11 0 ((a0.Seals.map (eInt true)).length)), (tI a0.Salt)]) rfl) vn)) (LendL.cons (Lend.agg (LendL.cons (Lend.pl rfl) (LendL.cons (Lend.pl rfl) (LendL.cons (Lend.pl rfl) (LendL.cons (Lend.os rfl rfl (okeClue.fzMap _ _)) (LendL.cons (Lend.os rfl rfl (okInt.fzMap _ _)) (LendL.cons (Lend.pl rfl) ln))))))) (LendL.cons (Lend.agg (LendL.cons (Lend.pl rfl) (LendL.cons (Lend.pl rfl) (LendL.cons (Lend.pl rfl) (LendL.cons (Lend.os rfl rfl (okeClue.fzMap _ _)) (LendL.cons (Lend.os rfl rfl (okInt.fzMap _ _)) (LendL.cons (Lend.pl rfl) ln))))))) ln)) (W_laws_eqPuzzle (n + 39) a0 a0 (by first | exact mkN_self _ _ _ _ | (simp only [mkN_len]; omega) | assumption | omega | (simp only [List.length_map]; omega) | (simp only [List.length_map, List.length_append, List.length_cons, List.length_nil, List.length_replicate, List.length_set, List.length_drop, List.length_take, lim] at *; omega)) (by first | exact mkN_self _ _ _ _ | (simp only [mkN_len]; omega) | assumption | omega | (simp only [List.length_map]; omega) | (simp only [List.length_map, List.length_append, List.length_cons, List.length_nil, List.length_replicate, List.length_set, List.length_drop, List.length_take, lim] at *; omega))) rfl rfl) (fD (xnot (tv (tB (decide (a0 = a0))) rfl)) rfl rfl (VRunD.nil (tn ?_)))))))))))
  refine cn (a0 = a0) rfl (fun fhc3 => ?_) fun fhc3 => ?_
  · refine sr ?_
    refine fO (OF.assign (VEv.bool false)) (nt (rt (tr (vb (b' := false) rfl ?_))))
    first | rfl | (exfalso; omega) | (exfalso; (simp only [mkN_len] at * <;> omega)) | (exfalso; simp only [mkN_len, not_true_eq_false] at *; done) | (exfalso; simp_all; done)
  first | (have hz3 := szR_pos fhc3) | skip
  refine sk (tn (sq (sq (VRun.draw (B := [[], [], [1], [1, 2, 0], [0, 2, 1, 3]]) (by kernel_rfl) (by kernel_rfl) (lD (OL.loadOn (us := [(tS a1.Fill), (tI a1.Checks), (tI a1.Spent), (T.os 1 8 0 ((a1.Asked.map (eInt true)).length)), (tI a1.Start), (tI a1.Now)]) (tv (T.op 9 0) rfl) rfl st56 sz56 (lb rfl) rfl) rfl rfl (lD (OL.loadOn (us := (eSession false a1)) (tv (T.op 1 0) rfl) rfl st51 sz51 (lb rfl) rfl) rfl rfl (VRunD.quiet (bi := [1]) rfl VWant.always rfl rfl rfl bn (OC.callF (us := [(T.agg (eSession false a1))]) (r := (T.agg (eSession true a1))) (r' := (T.agg [(tS a1.Fill), (tI a1.Checks), (tI a1.Spent), (T.os 1 12 0 ((a1.Asked.map (eInt true)).length)), (tI a1.Start), (tI a1.Now)])) (objs := [(Obj.rows 1 (a1.Asked.map (eInt true)))]) rfl (vc (tv (T.agg (eSession false a1)) rfl) vn) (LendL.cons (lg okeSession) ln) (W_laws_toSession (n + 42) a1 (by first | exact mkN_self _ _ _ _ | (simp only [mkN_len]; omega) | assumption | omega | (simp only [List.length_map]; omega) | (simp only [List.length_map, List.length_append, List.length_cons, List.length_nil, List.length_replicate, List.length_set, List.length_drop, List.length_take, lim] at *; omega))) rfl) (VRunD.quiet (bi := [1, 2, 0]) rfl VWant.always rfl rfl rfl bn (cS (us := [(T.agg (eSession false a1)), (T.agg (eSession false a1))]) (vc (tv (T.agg [(tS a1.Fill), (tI a1.Checks), (tI a1.Spent), (T.os 1 8 0 ((a1.Asked.map (eInt true)).length)), (tI a1.Start), (tI a1.Now)]) rfl) (vc (tv (T.agg [(tS a1.Fill), (tI a1.Checks), (tI a1.Spent), (T.os 1 12 0 ((a1.Asked.map (eInt true)).length)), (tI a1.Start), (tI a1.Now)]) rfl) vn)) (LendL.cons (Lend.agg (LendL.cons (Lend.pl rfl) (LendL.cons (Lend.pl rfl) (LendL.cons (Lend.pl rfl) (LendL.cons (Lend.os rfl rfl (okInt.fzMap _ _)) (LendL.cons (Lend.pl rfl) (LendL.cons (Lend.pl rfl) ln))))))) (LendL.cons (Lend.agg (LendL.cons (Lend.pl rfl) (LendL.cons (Lend.pl rfl) (LendL.cons (Lend.pl rfl) (LendL.cons (Lend.os rfl rfl (okInt.fzMap _ _)) (LendL.cons (Lend.pl rfl) (LendL.cons (Lend.pl rfl) ln))))))) ln)) (W_laws_eqSession (n + 42) a1 a1 (by first | exact mkN_self _ _ _ _ | (simp only [mkN_len]; omega) | assumption | omega | (simp only [List.length_map]; omega) | (simp only [List.length_map, List.length_append, List.length_cons, List.length_nil, List.length_replicate, List.length_set, List.length_drop, List.length_take, lim] at *; omega)) (by first | exact mkN_self _ _ _ _ | (simp only [mkN_len]; omega) | assumption | omega | (simp only [List.length_map]; omega) | (simp only [List.length_map, List.length_append, List.length_cons, List.length_nil, List.length_replicate, List.length_set, List.length_drop, List.length_take, lim] at *; omega))) rfl rfl) (fD (xnot (tv (tB (decide (a1 = a1))) rfl)) rfl rfl (VRunD.nil (tn ?_)))))))))))
  refine cn (a1 = a1) rfl (fun fhc4 => ?_) fun fhc4 => ?_
  · refine sr ?_
    refine fO (OF.assign (VEv.bool false)) (nt (rt (tr (vb (b' := false) rfl ?_))))
    first | rfl | (exfalso; omega) | (exfalso; (simp only [mkN_len] at * <;> omega)) | (exfalso; simp only [mkN_len, not_true_eq_false] at *; done) | (exfalso; simp_all; done)
  first | (have hz4 := szR_pos fhc4) | skip
  refine sk (tn (sr (fO (OF.assign (VEv.bool true)) (nt (rt ?_)))))
  exact vb rfl rfl
end Go.Proofs.YtcccmceoplcciaaGreat.AE
namespace Go.Proofs.YtcccmceoplcciaaGreat.AE
open Go Go.RowKit
set_option linter.unusedVariables false
set_option linter.unusedSimpArgs false
theorem rk_agg {α : Type} {d : AK α} {e : Bool → α → List T} {x : α} {h : AH} {cs : Array Value} (hk : RK d e) (hr : d.R h x (absA (.agg cs)).cells.toList) : R h (.agg (e false x)) (absA (.agg cs)) := by
  have h1 := hk h x _ hr
  refine .agg _ _ (by simpa [Value.cells, absA] using h1.1) (fun i hi => ?_)
  have := h1.2 i hi
  simpa [Value.cells, absA, Array.getD_eq_getD_getElem?, List.getD_eq_getElem?_getD] using this
theorem Pure.bool {call : CallT} {f : FuncId} {ts : List T} {b : Bool} (hp : Pure call f ts (.bool b)) {h : AH} {vs : List Value} (hfr : Fr 1 h) (hr : RL h ts vs) : CallS call f vs h 1 (fun v _ => v = .bool b) := by
  refine (hp h 1 vs hfr hr).mono ?_
  rintro v h' ⟨_, N, hs, _⟩
  cases hs with
  | fz hr => cases hr; rfl
end Go.Proofs.YtcccmceoplcciaaGreat.AE
namespace Go.Proofs.YtcccmceoplcciaaGreat.AE
open Go Go.RowKit Go.Shelf Go.Proofs
def laysSort_ren : Go.Shelf.Ren := ⟨fun | 189 => 114 | 125 => 144 | 257 => 143 | 128 => 174 | 129 => 175 | 294 => 165 | 295 => 166 | 296 => 167 | 297 => 168 | 298 => 169 | 299 => 170 | 216 => 171 | 300 => 172 | 301 => 173 | 328 => 187 | 329 => 188 | 330 => 189 | 331 => 190 | 332 => 191 | 215 => 192 | 343 => 196 | n => n, fun | 28 => 25 | 3 => 3 | 46 => 148 | 0 => 0 | 51 => 170 | 53 => 172 | 4 => 4 | 183 => 164 | 182 => 163 | 131 => 167 | 5 => 5 | 9 => 9 | 218 => 179 | 222 => 183 | 228 => 186 | 229 => 187 | n => n, fun | n => n⟩
theorem laysSort : Go.Proofs.Lays.n189 Tryz.prog laysSort_ren where
  mixed := by kernel_rfl
  f125 := Tryz.func144.trans (congrArg some (by kernel_rfl))
  f128 := Tryz.func174.trans (congrArg some (by kernel_rfl))
  f129 := Tryz.func175.trans (congrArg some (by kernel_rfl))
  f189 := Tryz.func114.trans (congrArg some (by kernel_rfl))
  f215 := Tryz.func192.trans (congrArg some (by kernel_rfl))
  f216 := Tryz.func171.trans (congrArg some (by kernel_rfl))
  f257 := Tryz.func143.trans (congrArg some (by kernel_rfl))
  f294 := Tryz.func165.trans (congrArg some (by kernel_rfl))
  f295 := Tryz.func166.trans (congrArg some (by kernel_rfl))
  f296 := Tryz.func167.trans (congrArg some (by kernel_rfl))
  f297 := Tryz.func168.trans (congrArg some (by kernel_rfl))
  f298 := Tryz.func169.trans (congrArg some (by kernel_rfl))
  f299 := Tryz.func170.trans (congrArg some (by kernel_rfl))
  f300 := Tryz.func172.trans (congrArg some (by kernel_rfl))
  f301 := Tryz.func173.trans (congrArg some (by kernel_rfl))
  f328 := Tryz.func187.trans (congrArg some (by kernel_rfl))
  f329 := Tryz.func188.trans (congrArg some (by kernel_rfl))
  f330 := Tryz.func189.trans (congrArg some (by kernel_rfl))
  f331 := Tryz.func190.trans (congrArg some (by kernel_rfl))
  f332 := Tryz.func191.trans (congrArg some (by kernel_rfl))
  f343 := Tryz.func196.trans (congrArg some (by kernel_rfl))
  t0 := Tryz.underlying0
  a0 := Tryz.isAgg0
  z0 := Tryz.sizeOf0
  v0 := Tryz.zeroValue0
  t3 := Tryz.underlying3
  a3 := Tryz.isAgg3
  z3 := Tryz.sizeOf3
  v3 := Tryz.zeroValue3
  t4 := Tryz.underlying4
  a4 := Tryz.isAgg4
  z4 := Tryz.sizeOf4
  v4 := Tryz.zeroValue4
  t5 := Tryz.underlying5
  a5 := Tryz.isAgg5
  z5 := Tryz.sizeOf5
  v5 := Tryz.zeroValue5
  t9 := Tryz.underlying9
  a9 := Tryz.isAgg9
  z9 := Tryz.sizeOf9
  v9 := Tryz.zeroValue9
  t28 := Tryz.underlying25
  a28 := Tryz.isAgg25
  z28 := Tryz.sizeOf25
  v28 := Tryz.zeroValue25
  t46 := Tryz.underlying148
  a46 := Tryz.isAgg148
  z46 := Tryz.sizeOf148
  v46 := Tryz.zeroValue148
  t51 := Tryz.underlying170
  a51 := Tryz.isAgg170
  z51 := Tryz.sizeOf170
  v51 := Tryz.zeroValue170
  t53 := Tryz.underlying172
  a53 := Tryz.isAgg172
  z53 := Tryz.sizeOf172
  v53 := Tryz.zeroValue172
  t131 := Tryz.underlying167
  a131 := Tryz.isAgg167
  z131 := Tryz.sizeOf167
  v131 := Tryz.zeroValue167
  t182 := Tryz.underlying163
  a182 := Tryz.isAgg163
  z182 := Tryz.sizeOf163
  v182 := Tryz.zeroValue163
  t183 := Tryz.underlying164
  a183 := Tryz.isAgg164
  z183 := Tryz.sizeOf164
  v183 := Tryz.zeroValue164
  t218 := Tryz.underlying179
  a218 := Tryz.isAgg179
  z218 := Tryz.sizeOf179
  v218 := Tryz.zeroValue179
  t222 := Tryz.underlying183
  a222 := Tryz.isAgg183
  z222 := Tryz.sizeOf183
  v222 := Tryz.zeroValue183
  t228 := Tryz.underlying186
  a228 := Tryz.isAgg186
  z228 := Tryz.sizeOf186
  v228 := Tryz.zeroValue186
  t229 := Tryz.underlying187
  a229 := Tryz.isAgg187
  z229 := Tryz.sizeOf187
  v229 := Tryz.zeroValue187
def laysComp_ren : Go.Shelf.Ren := ⟨fun | 20 => 115 | n => n, fun | 22 => 25 | 3 => 3 | 4 => 4 | 0 => 0 | n => n, fun | n => n⟩
theorem laysComp : Go.Proofs.Lays2.n20 Tryz.prog laysComp_ren where
  mixed := by kernel_rfl
  f20 := Tryz.func115.trans (congrArg some (by kernel_rfl))
  t0 := Tryz.underlying0
  a0 := Tryz.isAgg0
  z0 := Tryz.sizeOf0
  v0 := Tryz.zeroValue0
  t3 := Tryz.underlying3
  a3 := Tryz.isAgg3
  z3 := Tryz.sizeOf3
  v3 := Tryz.zeroValue3
  t4 := Tryz.underlying4
  a4 := Tryz.isAgg4
  z4 := Tryz.sizeOf4
  v4 := Tryz.zeroValue4
  t22 := Tryz.underlying25
  a22 := Tryz.isAgg25
  z22 := Tryz.sizeOf25
  v22 := Tryz.zeroValue25
  i3 := by kernel_rfl
theorem primOk : PrimOk Tryz.prog := by
  intro f hf
  by_cases h1 : f = 114
  · subst h1
    exact primSort_ok ⟨fun p cap w => Any.slices_Sort_int_none laysSort p cap w, fun blk off cap zs w h1 h2 h3 => Any.slices_Sort_int laysSort blk off cap zs w h1 h2 h3⟩
  · by_cases h2 : f = 115
    · subst h2
      exact primComp_ok ⟨fun a cap w => Any.slices_Compact_int_empty laysComp a cap w, fun blk off cap zs w h1 h2 h3 => Any.slices_Compact_int laysComp blk off cap zs w h1 h2 h3⟩
    · exfalso
      simp [noPrim, h1, h2] at hf
end Go.Proofs.YtcccmceoplcciaaGreat.AE
