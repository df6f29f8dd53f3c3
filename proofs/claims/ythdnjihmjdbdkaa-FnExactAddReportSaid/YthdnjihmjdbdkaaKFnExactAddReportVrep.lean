/- Walks of the program's functions over trees. Conditions: as each theorem states. -/
import Derived.Test.YthdnjihmjdbdkaaKFnExactAddReportFmk
namespace Go.Proofs.Ythdnjihmjdbdkaa.AE
open Go Go.RowKit
set_option linter.unusedVariables false
set_option linter.unusedSimpArgs false
set_option maxRecDepth 20000
set_option maxHeartbeats 2000000

noncomputable section
def repOk (l : List D.Report) (j : Nat) : Prop := ∃ x, l[j]? = some x ∧ (1 ≤ x.Tester ∧ x.Tester ≤ 9) ∧ (0 ≤ x.Slot ∧ x.Slot ≤ 99) ∧ (1 ≤ x.Kind ∧ x.Kind ≤ 3) ∧ (x.Kind = 3 → x.Word = (⟨#[]⟩ : ByteArray)) ∧ (¬ x.Kind = 3 → isWord x.Word) ∧ ∀ k, k < j → l[k]? ≠ some x
def areReports (l : List D.Report) : Prop := l.length ≤ 30 ∧ ∀ j, j < l.length → repOk l j
instance (l : List D.Report) : Decidable (areReports l) := Classical.propDecidable _
end
theorem W_slices_Index_impl_Report_impl_Report_ (n : Nat) (a : List D.Report) (b : D.Report) (ha : a.length ≤ lim) : Pure (acall Try.prog (n + 1)) 131 [(rd 4 eReport a), (T.agg (eReport false b))] (tI (ixF (fun y => b = y) a)) := by
  refine Pure.intro (rs := [ResultVar.tmp 4]) Try.func131 rfl rfl rfl (E0 := [(0, (rd 4 eReport a)), (1, (T.agg (eReport false b)))]) rfl ?_
  have hlim : lim = 1099511627776 := rfl
  have hmx : mx = 1048576 := rfl
  have hmax : maxLen = 9223372036854775807 := rfl
  refine sr ?_
  refine kO (B.box (ts := (eReport false b)) (tv (T.agg (eReport false b)) rfl) nofun rfl) ?_
  refine fO (OF.assign (VEv.int .i64 0)) ?_
  refine nt ?_
  refine sq ?_
  refine sr ?_
  refine mO (rd 4 eReport a) rfl ?_
  refine lO (B.lenR (m := a.length) (tv (rd 4 eReport a) rfl) Try.underlying32 (List.length_map ..)) ?_
  refine fO (OF.move (VEv.int .i64 0)) ?_
  refine nt ?_
  refine VRun.block ?_
  refine VRun.loop (A := Nat) (fun s_ => [(0, (rd 4 eReport a)), (3, (T.op 0 0)), (7, (tN a.length)), (8, (tN s_))]) (fun s_ => mkO [(0, (Obj.cells (eReport false b)))]) 1 (fun s_ => NoneTo (fun y => b = y) a s_) (fun s_ => a.length - s_) (0 : Nat) ?_ (Wk.mk (fun k => k) ?_ ?_ ?_) ?_
  · exact NoneTo.start _ _
  · exact (ball_cons ⟨rfl, rfl⟩ (ball_cons ⟨rfl, rfl⟩ (ball_cons ⟨rfl, rfl⟩ (ball_cons ⟨rfl, rfl⟩ (ball_nil)))))
  · exact (ball_cons ⟨rfl, (Nat.le_of_ble_eq_true rfl), rfl⟩ (ball_nil))
  · show List.Nodup ([0] : List Nat)
    decide
  rintro i hI
  have hI' : NoneTo (fun y => b = y) a i := hI
  clear hI
  show VRun _ _ _ [(0, (rd 4 eReport a)), (3, (T.op 0 0)), (7, (tN a.length)), (8, (tN i))] (mkO [(0, (Obj.cells (eReport false b)))]) 1 _
  have hI1 := hI'.1
  refine sr ?_
  refine fO (B.lss (c := (decide (i < a.length))) (tv (tN i) rfl) (tv (tN a.length) rfl) (by first | (exact decN (by omega)))) ?_
  refine nt ?_
  refine sq ?_
  refine VRun.cond (tv (tB (decide (i < a.length))) rfl) (fun hc0 => ?_) (fun hc0 => ?_)
  · have fhc0 : i < a.length := of_decide_eq_true hc0
    refine sk ?_
    refine tn ?_
    refine sq ?_
    refine VRun.block ?_
    refine sr ?_
    refine mO (tN i) rfl ?_
    refine aO (tN i) rfl ?_
    refine nt ?_
    refine sq ?_
    refine VRun.draw (B := [[], [], [], [2, 1], [1, 2, 3], [3, 2, 1, 4, 0]]) (by kernel_rfl) (by kernel_rfl) ?_
    refine lD (OL.loadOn (us := (eReport false b)) (tv (T.op 0 0) rfl) rfl st48 sz48 (Nat.le_of_ble_eq_true rfl) rfl) rfl rfl ?_
    refine mD (rd 4 eReport a) rfl rfl ?_
    refine mD (tN i) rfl rfl ?_
    obtain ⟨x1, hx1⟩ : ∃ x, a[i]? = some x := ⟨_, List.getElem?_eq_getElem (by first | omega)⟩
    refine fD (OF.indexAddrR (row := (eReport false x1)) (i := i) (tv (rd 4 eReport a) rfl) (tv (tN i) rfl) rfl (map_at _ hx1) Try.underlying32 sz48 if48) rfl rfl ?_
    refine lD (OL.loadRn (us := (eReport false x1)) (tv (T.rp (eReport false x1)) rfl) st48 sz48 (Nat.le_of_ble_eq_true rfl) rfl) rfl rfl ?_
    refine fD (B.eql48 (a := b) (b := x1) (m := false) (m' := false) (tv (T.agg (eReport false b)) rfl) (tv (T.agg (eReport false x1)) rfl)) rfl rfl ?_
    refine VRunD.nil ?_
    refine tn ?_
    refine VRun.cond (tv (tB (decide (b = x1))) rfl) (fun hc1 => ?_) (fun hc1 => ?_)
    · have fhc1 : b = x1 := of_decide_eq_true hc1
      refine sr ?_
      refine mO (tN i) rfl ?_
      refine aO (tN i) rfl ?_
      refine nt ?_
      refine rt ?_
      refine vinB.r ?_
      refine tr ?_
      refine tr ?_
      refine vinB.r ?_
      refine tr ?_
      refine vi (n' := ((i : Nat) : Int)) rfl ?_
      exact (ixF_found hx1 fhc1 hI'.2).symm
    have fhc1 : ¬ (b = x1) := of_decide_eq_false hc1
    refine sk ?_
    refine vinB.n ?_
    refine tn ?_
    refine VRun.region ?_
    refine fO (B.add (n := (((i + 1) : Nat) : Int)) (tv (tN i) rfl) (VEv.int .i64 1) (by first | rfl | (rw [wrap64 (by omega)]; omega) | (rw [wrap64 (by omega)]; done))) ?_
    refine mO (tN (i + 1)) rfl ?_
    refine VRunO.nil ?_
    refine tn ?_
    refine ⟨(i + 1 : Nat), ?_, ?_, Wk.mk (fun k => k) ?_ ?_ ?_⟩
    · exact hI'.next hx1 fhc1
    · first | omega | (simp only []; omega) | (show _ < _; omega) | (simp; omega)
    · exact (ball_cons ⟨rfl, rfl⟩ (ball_cons ⟨rfl, rfl⟩ (ball_cons ⟨rfl, rfl⟩ (ball_cons ⟨rfl, rfl⟩ (ball_nil)))))
    · exact (ball_cons ⟨rfl, (Nat.le_of_ble_eq_true rfl), rfl⟩ (ball_nil))
    · show List.Nodup ([0] : List Nat)
      decide
  have fhc0 : ¬ (i < a.length) := of_decide_eq_false hc0
  refine VRun.exit ?_
  refine vthn.e ?_
  refine vthn.e ?_
  refine vinB.e ?_
  refine tn ?_
  refine sr ?_
  refine fO (OF.assign (VEv.int .i64 (-1))) ?_
  refine nt ?_
  refine rt ?_
  refine vi (n' := (-1)) rfl ?_
  exact (ixF_none (hI'.all fhc0)).symm
theorem W_slices_Contains_impl_Report_impl_Report_ (n : Nat) (a : List D.Report) (b : D.Report) (ha : a.length ≤ lim) : Pure (acall Try.prog (n + 2)) 87 [(rd 4 eReport a), (T.agg (eReport false b))] (tB (decide (b ∈ a))) := by
  refine Pure.intro (rs := [ResultVar.tmp 4]) Try.func87 rfl rfl rfl (E0 := [(0, (rd 4 eReport a)), (1, (T.agg (eReport false b)))]) rfl ?_
  have hlim : lim = 1099511627776 := rfl
  have hmx : mx = 1048576 := rfl
  have hmax : maxLen = 9223372036854775807 := rfl
  refine sr ?_
  refine kO (B.box (ts := (eReport false b)) (tv (T.agg (eReport false b)) rfl) nofun rfl) ?_
  refine fO (OF.assign (VEv.bool false)) ?_
  refine nt ?_
  refine sr ?_
  refine mO (rd 4 eReport a) rfl ?_
  refine lO (OL.loadOn (us := (eReport false b)) (tv (T.op 0 0) rfl) rfl st48 sz48 (Nat.le_of_ble_eq_true rfl) rfl) ?_
  refine cO (cS (vc (tv (rd 4 eReport a) rfl) (vc (tv (T.agg (eReport false b)) rfl) VEvs.nil)) (lp rfl (LendL.cons (lg okeReport) (LendL.nil))) (W_slices_Index_impl_Report_impl_Report_ (n + 0) a b (by first | assumption | omega)) rfl rfl) ?_
  refine fO (B.geq (c := (decide (0 ≤ ixF (fun y => b = y) a))) (tv (tI (ixF (fun y => b = y) a)) rfl) (VEv.int .i64 0) rfl) ?_
  refine aO (tB (decide (0 ≤ ixF (fun y => b = y) a))) rfl ?_
  refine nt ?_
  refine rt ?_
  refine vb (b' := (decide (0 ≤ ixF (fun y => b = y) a))) rfl ?_
  refine decN ?_
  rw [ixF_nn]
  exact ⟨fun ⟨x, h1, h2⟩ => h2 ▸ h1, fun h => ⟨b, h, rfl⟩⟩
theorem W_spec_AreReports (n : Nat) (a : List D.Report) (hz : zL zReport a ≤ 2 * mx) : Pure (acall Try.prog (n + 3)) 21 [(rd 4 eReport a)] (tB (decide (areReports a))) := by
  refine Pure.intro (rs := [ResultVar.tmp 2]) Try.func21 rfl rfl rfl (E0 := [(0, (rd 4 eReport a))]) rfl ?_
  have hlim : lim = 1099511627776 := rfl
  have hmx : mx = 1048576 := rfl
  have hmax : maxLen = 9223372036854775807 := rfl
  have ha := zL_len (z := zReport) a
  have hw : ∀ x ∈ a, x.Word.size ≤ maxLen := fun x hx => by have h1 := zL_mem (z := zReport) hx; simp only [zReport] at h1; omega
  refine sr ?_
  refine fO (OF.assign (VEv.bool false)) ?_
  refine nt ?_
  refine sq ?_
  refine sr ?_
  refine fO (OF.assign (VEv.int .i64 0)) ?_
  refine nt ?_
  refine VRun.block ?_
  refine VRun.loop (A := Nat) (fun s_ => [(0, (rd 4 eReport a)), (3, (tN s_))]) (fun s_ => mkO []) 0 (fun s_ => s_ ≤ a.length ∧ ∀ j, j < s_ → repOk a j) (fun s_ => a.length - s_) (0 : Nat) ?_ (Wk.mk (fun k => k) ?_ ?_ ?_) ?_
  · exact ⟨Nat.zero_le _, fun j hj => by omega⟩
  · exact (ball_cons ⟨rfl, rfl⟩ (ball_cons ⟨rfl, rfl⟩ (ball_nil)))
  · exact (ball_nil)
  · show List.Nodup ([] : List Nat)
    decide
  rintro i hI
  have hI' : i ≤ a.length ∧ ∀ j, j < i → repOk a j := hI
  clear hI
  show VRun _ _ _ [(0, (rd 4 eReport a)), (3, (tN i))] (mkO []) 0 _
  have hI0 := hI'
  refine sq ?_
  refine sr ?_
  refine mO (tN i) rfl ?_
  refine mO (rd 4 eReport a) rfl ?_
  refine lO (B.lenR (m := a.length) (tv (rd 4 eReport a) rfl) Try.underlying32 (List.length_map ..)) ?_
  refine fO (B.lss (c := (decide (i < a.length))) (tv (tN i) rfl) (tv (tN a.length) rfl) (by first | exact hw _ (List.mem_of_getElem? hx1) | (exact decN (by omega)))) ?_
  refine nt ?_
  refine VRun.cond (tv (tB (decide (i < a.length))) rfl) (fun hc0 => ?_) (fun hc0 => ?_)
  · have fhc0 : i < a.length := of_decide_eq_true hc0
    refine sk ?_
    refine tn ?_
    refine sq ?_
    refine VRun.block ?_
    refine sr ?_
    refine mO (rd 4 eReport a) rfl ?_
    refine mO (tN i) rfl ?_
    obtain ⟨x1, hx1⟩ : ∃ x, a[i]? = some x := ⟨_, List.getElem?_eq_getElem (by first | exact hw _ (List.mem_of_getElem? hx1) | omega)⟩
    refine fO (OF.indexAddrR (row := (eReport false x1)) (i := i) (tv (rd 4 eReport a) rfl) (tv (tN i) rfl) rfl (map_at _ hx1) Try.underlying32 sz48 if48) ?_
    refine lO (OL.loadRn (us := (eReport false x1)) (tv (T.rp (eReport false x1)) rfl) st48 sz48 (Nat.le_of_ble_eq_true rfl) rfl) ?_
    refine kO (B.alloc (t := (T.agg [(tN 0), (tN 0), (tN 0), (tS ByteArray.empty)])) (ts := [(tN 0), (tN 0), (tN 0), (tS ByteArray.empty)]) zo48 zc48 nofun (fun _ => .agg _ _ rfl (RLof (RL.cons (.int _ _) (RL.cons (.int _ _) (RL.cons (.int _ _) (RL.cons (.str _) (RL.nil _))))))) rfl) ?_
    refine cO (B.storeO (us := (eReport false x1)) (ws := (eReport false x1)) (tv (T.op 0 0) rfl) (tv (T.agg (eReport false x1)) rfl) nofun rfl rfl (Nat.le_of_ble_eq_true rfl) if48 sz48 (ball_cons rfl (ball_cons rfl (ball_cons rfl (ball_cons rfl (ball_nil))))) rfl) ?_
    refine nt ?_
    refine sq ?_
    refine sr ?_
    refine fO (OF.fieldAddrO (tv (T.op 0 0) rfl) fa48_0) ?_
    refine lO (OL.loadO1 (t := (tI x1.Tester)) (tv (T.op 0 0) rfl) rfl rfl st3) ?_
    refine cO (cS (vc (tv (tI x1.Tester) rfl) (vc (VEv.int .i64 1) (vc (VEv.int .i64 9) VEvs.nil))) (lp rfl (lp rfl (lp rfl (LendL.nil)))) (W_spec_l1In (n + 1) x1.Tester 1 9 ) rfl rfl) ?_
    refine fO (B.not (c := (!(decide (1 ≤ x1.Tester ∧ x1.Tester ≤ 9)))) (tv (tB (decide (1 ≤ x1.Tester ∧ x1.Tester ≤ 9))) rfl) rfl) ?_
    refine mO (tB (!(decide (1 ≤ x1.Tester ∧ x1.Tester ≤ 9)))) rfl ?_
    refine bool_way (!(decide (1 ≤ x1.Tester ∧ x1.Tester ≤ 9))) (fun hg20_1 => ?_) (fun hg20_1 => ?_)
    · have fhg20_1 : ¬ (1 ≤ x1.Tester ∧ x1.Tester ≤ 9) := ndT hg20_1
      refine oO rfl rfl hg20_1 ?_
      refine oO rfl rfl hg20_1 ?_
      refine oO rfl rfl hg20_1 ?_
      refine oO rfl rfl hg20_1 ?_
      refine fO (OF.pickT (VEv.tmpB (b := (!(decide (1 ≤ x1.Tester ∧ x1.Tester ≤ 9)))) rfl hg20_1) (VEv.bool true)) ?_
      refine mO (tB true) rfl ?_
      refine VRunO.off (VWant.not (b := true) rfl rfl rfl) ?_
      refine VRunO.off (VWant.not (b := true) rfl rfl rfl) ?_
      refine VRunO.off (VWant.not (b := true) rfl rfl rfl) ?_
      refine VRunO.off (VWant.not (b := true) rfl rfl rfl) ?_
      refine fO (OF.pickT (tv (tB true) rfl) (VEv.bool true)) ?_
      refine mO (tB true) rfl ?_
      refine VRunO.off (VWant.not (b := true) rfl rfl rfl) ?_
      refine VRunO.off (VWant.not (b := true) rfl rfl rfl) ?_
      refine VRunO.off (VWant.not (b := true) rfl rfl rfl) ?_
      refine VRunO.off (VWant.not (b := true) rfl rfl rfl) ?_
      refine uO rfl rfl ?_
      refine uO rfl rfl ?_
      refine uO rfl rfl ?_
      refine VRunO.off (VWant.not (b := true) rfl rfl rfl) ?_
      refine fO (OF.pickT (tv (tB true) rfl) (VEv.bool true)) ?_
      refine mO (tB true) rfl ?_
      refine VRunO.off (VWant.not (b := true) rfl rfl rfl) ?_
      refine VRunO.off (VWant.not (b := true) rfl rfl rfl) ?_
      refine VRunO.off (VWant.not (b := true) rfl rfl rfl) ?_
      refine VRunO.off (VWant.not (b := true) rfl rfl rfl) ?_
      refine uO rfl rfl ?_
      refine uO rfl rfl ?_
      refine uO rfl rfl ?_
      refine uO rfl rfl ?_
      refine VRunO.off (VWant.not (b := true) rfl rfl rfl) ?_
      refine fO (OF.pickT (tv (tB true) rfl) (VEv.bool true)) ?_
      refine nt ?_
      refine VRun.cond (tv (tB true) rfl) (fun hk2 => ?_) (fun hk2 => ?_)
      · skip
        refine sr ?_
        refine fO (OF.assign (VEv.bool false)) ?_
        refine nt ?_
        refine rt ?_
        refine tr ?_
        refine vinB.r ?_
        refine tr ?_
        refine tr ?_
        refine vinB.r ?_
        refine tr ?_
        refine vb (b' := false) rfl ?_
        first | (refine decN ⟨fun h => ⟨by omega, allEnd hI' fhc0⟩, fun h => by have := h.1; omega⟩) | (symm; rw [decide_eq_false_iff_not]; rintro ⟨_, h2⟩; obtain ⟨y, hy, h3, h4, h5, h6, h7, h8⟩ := h2 i fhc0; obtain rfl := same_at hx1 hy; first | omega | (simp_all; done) | (exact h8 k fhc2 (fhc3 ▸ hx2)))
      · exact absurd (rfl.symm.trans hk2) (by decide)
    have fhg20_1 : 1 ≤ x1.Tester ∧ x1.Tester ≤ 9 := ndF hg20_1
    refine gF hg20_1 rfl rfl (OF.fieldAddrO (tv (T.op 0 0) rfl) fa48_1) ?_
    refine gL hg20_1 rfl rfl (OL.loadO1 (t := (tI x1.Slot)) (tv (T.op 0 1) rfl) rfl rfl st3) ?_
    refine VRunO.chain (VWant.on (b := (!(decide (1 ≤ x1.Tester ∧ x1.Tester ≤ 9)))) rfl rfl hg20_1) (cS (vc (tv (tI x1.Slot) rfl) (vc (VEv.int .i64 0) (vc (VEv.int .i64 99) VEvs.nil))) (lp rfl (lp rfl (lp rfl (LendL.nil)))) (W_spec_l1In (n + 1) x1.Slot 0 99 ) rfl rfl) ?_
    refine gF hg20_1 rfl rfl (B.not (c := (!(decide (0 ≤ x1.Slot ∧ x1.Slot ≤ 99)))) (tv (tB (decide (0 ≤ x1.Slot ∧ x1.Slot ≤ 99))) rfl) rfl) ?_
    refine fO (OF.pickF (VEv.tmpB (b := (!(decide (1 ≤ x1.Tester ∧ x1.Tester ≤ 9)))) rfl hg20_1) (tv (tB (!(decide (0 ≤ x1.Slot ∧ x1.Slot ≤ 99)))) rfl)) ?_
    refine mO (tB (!(decide (0 ≤ x1.Slot ∧ x1.Slot ≤ 99)))) rfl ?_
    refine bool_way (!(decide (0 ≤ x1.Slot ∧ x1.Slot ≤ 99))) (fun hg26_3 => ?_) (fun hg26_3 => ?_)
    · have fhg26_3 : ¬ (0 ≤ x1.Slot ∧ x1.Slot ≤ 99) := ndT hg26_3
      refine oO rfl rfl hg26_3 ?_
      refine oO rfl rfl hg26_3 ?_
      refine oO rfl rfl hg26_3 ?_
      refine oO rfl rfl hg26_3 ?_
      refine fO (OF.pickT (VEv.tmpB (b := (!(decide (0 ≤ x1.Slot ∧ x1.Slot ≤ 99)))) rfl hg26_3) (VEv.bool true)) ?_
      refine mO (tB true) rfl ?_
      refine VRunO.off (VWant.not (b := true) rfl rfl rfl) ?_
      refine VRunO.off (VWant.not (b := true) rfl rfl rfl) ?_
      refine VRunO.off (VWant.not (b := true) rfl rfl rfl) ?_
      refine VRunO.off (VWant.not (b := true) rfl rfl rfl) ?_
      refine uO rfl rfl ?_
      refine uO rfl rfl ?_
      refine uO rfl rfl ?_
      refine VRunO.off (VWant.not (b := true) rfl rfl rfl) ?_
      refine fO (OF.pickT (tv (tB true) rfl) (VEv.bool true)) ?_
      refine mO (tB true) rfl ?_
      refine VRunO.off (VWant.not (b := true) rfl rfl rfl) ?_
      refine VRunO.off (VWant.not (b := true) rfl rfl rfl) ?_
      refine VRunO.off (VWant.not (b := true) rfl rfl rfl) ?_
      refine VRunO.off (VWant.not (b := true) rfl rfl rfl) ?_
      refine uO rfl rfl ?_
      refine uO rfl rfl ?_
      refine uO rfl rfl ?_
      refine uO rfl rfl ?_
      refine VRunO.off (VWant.not (b := true) rfl rfl rfl) ?_
      refine fO (OF.pickT (tv (tB true) rfl) (VEv.bool true)) ?_
      refine nt ?_
      refine VRun.cond (tv (tB true) rfl) (fun hk4 => ?_) (fun hk4 => ?_)
      · skip
        refine sr ?_
        refine fO (OF.assign (VEv.bool false)) ?_
        refine nt ?_
        refine rt ?_
        refine tr ?_
        refine vinB.r ?_
        refine tr ?_
        refine tr ?_
        refine vinB.r ?_
        refine tr ?_
        refine vb (b' := false) rfl ?_
        first | (refine decN ⟨fun h => ⟨by omega, allEnd hI' fhc0⟩, fun h => by have := h.1; omega⟩) | (symm; rw [decide_eq_false_iff_not]; rintro ⟨_, h2⟩; obtain ⟨y, hy, h3, h4, h5, h6, h7, h8⟩ := h2 i fhc0; obtain rfl := same_at hx1 hy; first | omega | (simp_all; done) | (exact h8 k fhc2 (fhc3 ▸ hx2)))
      · exact absurd (rfl.symm.trans hk4) (by decide)
    have fhg26_3 : 0 ≤ x1.Slot ∧ x1.Slot ≤ 99 := ndF hg26_3
    refine gF hg26_3 rfl rfl (OF.fieldAddrO (tv (T.op 0 0) rfl) fa48_2) ?_
    refine gL hg26_3 rfl rfl (OL.loadO1 (t := (tI x1.Kind)) (tv (T.op 0 2) rfl) rfl rfl st3) ?_
    refine VRunO.chain (VWant.on (b := (!(decide (0 ≤ x1.Slot ∧ x1.Slot ≤ 99)))) rfl rfl hg26_3) (cS (vc (tv (tI x1.Kind) rfl) (vc (VEv.int .i64 1) (vc (VEv.int .i64 3) VEvs.nil))) (lp rfl (lp rfl (lp rfl (LendL.nil)))) (W_spec_l1In (n + 1) x1.Kind 1 3 ) rfl rfl) ?_
    refine gF hg26_3 rfl rfl (B.not (c := (!(decide (1 ≤ x1.Kind ∧ x1.Kind ≤ 3)))) (tv (tB (decide (1 ≤ x1.Kind ∧ x1.Kind ≤ 3))) rfl) rfl) ?_
    refine fO (OF.pickF (VEv.tmpB (b := (!(decide (0 ≤ x1.Slot ∧ x1.Slot ≤ 99)))) rfl hg26_3) (tv (tB (!(decide (1 ≤ x1.Kind ∧ x1.Kind ≤ 3)))) rfl)) ?_
    refine mO (tB (!(decide (1 ≤ x1.Kind ∧ x1.Kind ≤ 3)))) rfl ?_
    refine bool_way (!(decide (1 ≤ x1.Kind ∧ x1.Kind ≤ 3))) (fun hg32_5 => ?_) (fun hg32_5 => ?_)
    · have fhg32_5 : ¬ (1 ≤ x1.Kind ∧ x1.Kind ≤ 3) := ndT hg32_5
      refine oO rfl rfl hg32_5 ?_
      refine oO rfl rfl hg32_5 ?_
      refine oO rfl rfl hg32_5 ?_
      refine oO rfl rfl hg32_5 ?_
      refine uO rfl rfl ?_
      refine uO rfl rfl ?_
      refine uO rfl rfl ?_
      refine oO rfl rfl hg32_5 ?_
      refine fO (OF.pickT (VEv.tmpB (b := (!(decide (1 ≤ x1.Kind ∧ x1.Kind ≤ 3)))) rfl hg32_5) (VEv.bool true)) ?_
      refine mO (tB true) rfl ?_
      refine VRunO.off (VWant.not (b := true) rfl rfl rfl) ?_
      refine VRunO.off (VWant.not (b := true) rfl rfl rfl) ?_
      refine VRunO.off (VWant.not (b := true) rfl rfl rfl) ?_
      refine VRunO.off (VWant.not (b := true) rfl rfl rfl) ?_
      refine uO rfl rfl ?_
      refine uO rfl rfl ?_
      refine uO rfl rfl ?_
      refine uO rfl rfl ?_
      refine VRunO.off (VWant.not (b := true) rfl rfl rfl) ?_
      refine fO (OF.pickT (tv (tB true) rfl) (VEv.bool true)) ?_
      refine nt ?_
      refine VRun.cond (tv (tB true) rfl) (fun hk6 => ?_) (fun hk6 => ?_)
      · skip
        refine sr ?_
        refine fO (OF.assign (VEv.bool false)) ?_
        refine nt ?_
        refine rt ?_
        refine tr ?_
        refine vinB.r ?_
        refine tr ?_
        refine tr ?_
        refine vinB.r ?_
        refine tr ?_
        refine vb (b' := false) rfl ?_
        first | (refine decN ⟨fun h => ⟨by omega, allEnd hI' fhc0⟩, fun h => by have := h.1; omega⟩) | (symm; rw [decide_eq_false_iff_not]; rintro ⟨_, h2⟩; obtain ⟨y, hy, h3, h4, h5, h6, h7, h8⟩ := h2 i fhc0; obtain rfl := same_at hx1 hy; first | omega | (simp_all; done) | (exact h8 k fhc2 (fhc3 ▸ hx2)))
      · exact absurd (rfl.symm.trans hk6) (by decide)
    have fhg32_5 : 1 ≤ x1.Kind ∧ x1.Kind ≤ 3 := ndF hg32_5
    refine gF hg32_5 rfl rfl (OF.fieldAddrO (tv (T.op 0 0) rfl) fa48_2) ?_
    refine gL hg32_5 rfl rfl (OL.loadO1 (t := (tI x1.Kind)) (tv (T.op 0 2) rfl) rfl rfl st3) ?_
    refine gF hg32_5 rfl rfl (B.eql (c := (decide (x1.Kind = 3))) (tv (tI x1.Kind) rfl) (VEv.int .i64 3) rfl) ?_
    refine gF hg32_5 rfl rfl (OF.move (tv (tB (decide (x1.Kind = 3))) rfl)) ?_
    refine bool_way (decide (x1.Kind = 3)) (fun hg36_7 => ?_) (fun hg36_7 => ?_)
    · have fhg36_7 : x1.Kind = 3 := of_decide_eq_true hg36_7
      refine gF hg36_7 rfl rfl (OF.fieldAddrO (tv (T.op 0 0) rfl) fa48_3) ?_
      refine gL hg36_7 rfl rfl (OL.loadO1 (t := (tS x1.Word)) (tv (T.op 0 3) rfl) rfl rfl st9) ?_
      refine gF hg36_7 rfl rfl (B.sneq (c := (!(decide (x1.Word = (⟨#[]⟩ : ByteArray))))) (tv (tS x1.Word) rfl) (VEv.str (⟨#[]⟩ : ByteArray)) rfl) ?_
      refine gF hg32_5 rfl rfl (OF.pickT (VEv.tmpB (b := (decide (x1.Kind = 3))) rfl hg36_7) (tv (tB (!(decide (x1.Word = (⟨#[]⟩ : ByteArray))))) rfl)) ?_
      refine fO (OF.pickF (VEv.tmpB (b := (!(decide (1 ≤ x1.Kind ∧ x1.Kind ≤ 3)))) rfl hg32_5) (tv (tB (!(decide (x1.Word = (⟨#[]⟩ : ByteArray))))) rfl)) ?_
      refine mO (tB (!(decide (x1.Word = (⟨#[]⟩ : ByteArray))))) rfl ?_
      refine bool_way (!(decide (x1.Word = (⟨#[]⟩ : ByteArray)))) (fun hg42_8 => ?_) (fun hg42_8 => ?_)
      · have fhg42_8 : ¬ (x1.Word = (⟨#[]⟩ : ByteArray)) := ndT hg42_8
        refine oO rfl rfl hg42_8 ?_
        refine oO rfl rfl hg42_8 ?_
        refine oO rfl rfl hg42_8 ?_
        refine oO rfl rfl hg42_8 ?_
        refine uO rfl rfl ?_
        refine uO rfl rfl ?_
        refine uO rfl rfl ?_
        refine uO rfl rfl ?_
        refine oO rfl rfl hg42_8 ?_
        refine fO (OF.pickT (VEv.tmpB (b := (!(decide (x1.Word = (⟨#[]⟩ : ByteArray))))) rfl hg42_8) (VEv.bool true)) ?_
        refine nt ?_
        refine VRun.cond (tv (tB true) rfl) (fun hk9 => ?_) (fun hk9 => ?_)
        · skip
          refine sr ?_
          refine fO (OF.assign (VEv.bool false)) ?_
          refine nt ?_
          refine rt ?_
          refine tr ?_
          refine vinB.r ?_
          refine tr ?_
          refine tr ?_
          refine vinB.r ?_
          refine tr ?_
          refine vb (b' := false) rfl ?_
          first | (refine decN ⟨fun h => ⟨by omega, allEnd hI' fhc0⟩, fun h => by have := h.1; omega⟩) | (symm; rw [decide_eq_false_iff_not]; rintro ⟨_, h2⟩; obtain ⟨y, hy, h3, h4, h5, h6, h7, h8⟩ := h2 i fhc0; obtain rfl := same_at hx1 hy; first | omega | (simp_all; done) | (exact h8 k fhc2 (fhc3 ▸ hx2)))
        · exact absurd (rfl.symm.trans hk9) (by decide)
      have fhg42_8 : x1.Word = (⟨#[]⟩ : ByteArray) := ndF hg42_8
      refine gF hg42_8 rfl rfl (OF.fieldAddrO (tv (T.op 0 0) rfl) fa48_2) ?_
      refine gL hg42_8 rfl rfl (OL.loadO1 (t := (tI x1.Kind)) (tv (T.op 0 2) rfl) rfl rfl st3) ?_
      refine gF hg42_8 rfl rfl (B.neq (c := (!(decide (x1.Kind = 3)))) (tv (tI x1.Kind) rfl) (VEv.int .i64 3) rfl) ?_
      refine gF hg42_8 rfl rfl (OF.move (tv (tB (!(decide (x1.Kind = 3)))) rfl)) ?_
      refine oO rfl rfl (nkT hg36_7) ?_
      refine oO rfl rfl (nkT hg36_7) ?_
      refine oO rfl rfl (nkT hg36_7) ?_
      refine oO rfl rfl (nkT hg36_7) ?_
      refine gF hg42_8 rfl rfl (OF.pickF (VEv.tmpB (b := (!(decide (x1.Kind = 3)))) rfl (nkT hg36_7)) (VEv.bool false)) ?_
      refine fO (OF.pickF (VEv.tmpB (b := (!(decide (x1.Word = (⟨#[]⟩ : ByteArray))))) rfl hg42_8) (tv (tB false) rfl)) ?_
      refine nt ?_
      refine VRun.cond (tv (tB false) rfl) (fun hk10 => ?_) (fun hk10 => ?_)
      · exact absurd (rfl.symm.trans hk10) (by decide)
      · skip
        refine sk ?_
        refine tn ?_
        refine sr ?_
        refine fO (OF.assign (VEv.int .i64 0)) ?_
        refine nt ?_
        refine VRun.block ?_
        refine VRun.loop (A := Nat) (fun s_ => [(0, (rd 4 eReport a)), (3, (tN i)), (4, (T.op 0 0)), (5, (tN s_))]) (fun s_ => mkO [(0, (Obj.cells (eReport false x1)))]) 1 (fun s_ => s_ ≤ i ∧ ∀ j, j < s_ → a[j]? ≠ some x1) (fun s_ => i - s_) (0 : Nat) ?_ (Wk.mk (fun k => k) ?_ ?_ ?_) ?_
        · exact ⟨Nat.zero_le _, fun j hj => by omega⟩
        · exact (ball_cons ⟨rfl, rfl⟩ (ball_cons ⟨rfl, rfl⟩ (ball_cons ⟨rfl, rfl⟩ (ball_cons ⟨rfl, rfl⟩ (ball_nil)))))
        · exact (ball_cons ⟨rfl, (Nat.le_of_ble_eq_true rfl), rfl⟩ (ball_nil))
        · show List.Nodup ([0] : List Nat)
          decide
        rintro k hI
        have hI' : k ≤ i ∧ ∀ j, j < k → a[j]? ≠ some x1 := hI
        clear hI
        show VRun _ _ _ [(0, (rd 4 eReport a)), (3, (tN i)), (4, (T.op 0 0)), (5, (tN k))] (mkO [(0, (Obj.cells (eReport false x1)))]) 1 _
        refine sq ?_
        refine sr ?_
        refine mO (tN k) rfl ?_
        refine mO (tN i) rfl ?_
        refine fO (B.lss (c := (decide (k < i))) (tv (tN k) rfl) (tv (tN i) rfl) (by first | exact hw _ (List.mem_of_getElem? hx1) | (exact decN (by omega)))) ?_
        refine nt ?_
        refine VRun.cond (tv (tB (decide (k < i))) rfl) (fun hc2 => ?_) (fun hc2 => ?_)
        · have fhc2 : k < i := of_decide_eq_true hc2
          refine sk ?_
          refine tn ?_
          refine sq ?_
          refine VRun.block ?_
          refine sq ?_
          refine VRun.draw (B := [[], [], [1, 0], [0, 1, 2], [], [4, 2, 1, 0, 3]]) (by kernel_rfl) (by kernel_rfl) ?_
          refine mD (rd 4 eReport a) rfl rfl ?_
          refine mD (tN k) rfl rfl ?_
          obtain ⟨x2, hx2⟩ : ∃ x, a[k]? = some x := ⟨_, List.getElem?_eq_getElem (by first | exact hw _ (List.mem_of_getElem? hx1) | omega)⟩
          refine fD (OF.indexAddrR (row := (eReport false x2)) (i := k) (tv (rd 4 eReport a) rfl) (tv (tN k) rfl) rfl (map_at _ hx2) Try.underlying32 sz48 if48) rfl rfl ?_
          refine lD (OL.loadRn (us := (eReport false x2)) (tv (T.rp (eReport false x2)) rfl) st48 sz48 (Nat.le_of_ble_eq_true rfl) rfl) rfl rfl ?_
          refine lD (OL.loadOn (us := (eReport false x1)) (tv (T.op 0 0) rfl) rfl st48 sz48 (Nat.le_of_ble_eq_true rfl) rfl) rfl rfl ?_
          refine fD (B.eql48 (a := x2) (b := x1) (m := false) (m' := false) (tv (T.agg (eReport false x2)) rfl) (tv (T.agg (eReport false x1)) rfl)) rfl rfl ?_
          refine VRunD.nil ?_
          refine tn ?_
          refine VRun.cond (tv (tB (decide (x2 = x1))) rfl) (fun hc3 => ?_) (fun hc3 => ?_)
          · have fhc3 : x2 = x1 := of_decide_eq_true hc3
            refine sr ?_
            refine fO (OF.assign (VEv.bool false)) ?_
            refine nt ?_
            refine rt ?_
            refine vinB.r ?_
            refine tr ?_
            refine tr ?_
            refine vinB.r ?_
            refine vinB.r ?_
            refine tr ?_
            refine tr ?_
            refine vinB.r ?_
            refine tr ?_
            refine vb (b' := false) rfl ?_
            first | (refine decN ⟨fun h => ⟨by omega, allEnd hI' fhc0⟩, fun h => by have := h.1; omega⟩) | (symm; rw [decide_eq_false_iff_not]; rintro ⟨_, h2⟩; obtain ⟨y, hy, h3, h4, h5, h6, h7, h8⟩ := h2 i fhc0; obtain rfl := same_at hx1 hy; first | omega | (simp_all; done) | (exact h8 k fhc2 (fhc3 ▸ hx2)))
          have fhc3 : ¬ (x2 = x1) := of_decide_eq_false hc3
          refine sk ?_
          refine vinB.n ?_
          refine tn ?_
          refine VRun.region ?_
          refine mO (tN k) rfl ?_
          refine fO (B.add (n := (((k + 1) : Nat) : Int)) (tv (tN k) rfl) (VEv.int .i64 1) (by first | exact hw _ (List.mem_of_getElem? hx1) | rfl | (rw [wrap64 (by omega)]; omega) | (rw [wrap64 (by omega)]; done))) ?_
          refine aO (tN (k + 1)) rfl ?_
          refine VRunO.nil ?_
          refine tn ?_
          refine ⟨(k + 1 : Nat), ?_, ?_, Wk.mk (fun k => k) ?_ ?_ ?_⟩
          · refine allNext (ok := fun j => a[j]? ≠ some x1) hI' fhc2 ?_; intro h; rw [hx2] at h; exact fhc3 (Option.some.inj h)
          · first | omega | (simp only []; omega) | (show _ < _; omega) | (simp; omega)
          · exact (ball_cons ⟨rfl, rfl⟩ (ball_cons ⟨rfl, rfl⟩ (ball_cons ⟨rfl, rfl⟩ (ball_cons ⟨rfl, rfl⟩ (ball_nil)))))
          · exact (ball_cons ⟨rfl, (Nat.le_of_ble_eq_true rfl), rfl⟩ (ball_nil))
          · show List.Nodup ([0] : List Nat)
            decide
        have fhc2 : ¬ (k < i) := of_decide_eq_false hc2
        refine VRun.exit ?_
        refine vthn.e ?_
        refine vthn.e ?_
        refine vinB.e ?_
        refine vinB.n ?_
        refine tn ?_
        refine VRun.region ?_
        refine mO (tN i) rfl ?_
        refine fO (B.add (n := (((i + 1) : Nat) : Int)) (tv (tN i) rfl) (VEv.int .i64 1) (by first | exact hw _ (List.mem_of_getElem? hx1) | rfl | (rw [wrap64 (by omega)]; omega) | (rw [wrap64 (by omega)]; done))) ?_
        refine aO (tN (i + 1)) rfl ?_
        refine VRunO.nil ?_
        refine tn ?_
        refine ⟨(i + 1 : Nat), ?_, ?_, Wk.mk (fun k => k) ?_ ?_ ?_⟩
        · refine allNext hI0 fhc0 ⟨x1, hx1, by omega, by omega, by omega, ?_, ?_, fun q hq => hI'.2 q (by omega)⟩
          · intro h; first | assumption | omega
          · intro h; first | assumption | omega
        · first | omega | (simp only []; omega) | (show _ < _; omega) | (simp; omega)
        · exact (ball_cons ⟨rfl, rfl⟩ (ball_cons ⟨rfl, rfl⟩ (ball_nil)))
        · exact (ball_nil)
        · show List.Nodup ([] : List Nat)
          decide
    have fhg36_7 : ¬ (x1.Kind = 3) := of_decide_eq_false hg36_7
    refine oO rfl rfl hg36_7 ?_
    refine oO rfl rfl hg36_7 ?_
    refine oO rfl rfl hg36_7 ?_
    refine gF hg32_5 rfl rfl (OF.pickF (VEv.tmpB (b := (decide (x1.Kind = 3))) rfl hg36_7) (VEv.bool false)) ?_
    refine fO (OF.pickF (VEv.tmpB (b := (!(decide (1 ≤ x1.Kind ∧ x1.Kind ≤ 3)))) rfl hg32_5) (tv (tB false) rfl)) ?_
    refine mO (tB false) rfl ?_
    refine VRunO.free (VWant.on (b := false) rfl rfl rfl) (OF.fieldAddrO (tv (T.op 0 0) rfl) fa48_2) ?_
    refine VRunO.look (VWant.on (b := false) rfl rfl rfl) (OL.loadO1 (t := (tI x1.Kind)) (tv (T.op 0 2) rfl) rfl rfl st3) ?_
    refine VRunO.free (VWant.on (b := false) rfl rfl rfl) (B.neq (c := (!(decide (x1.Kind = 3)))) (tv (tI x1.Kind) rfl) (VEv.int .i64 3) rfl) ?_
    refine VRunO.free (VWant.on (b := false) rfl rfl rfl) (OF.move (tv (tB (!(decide (x1.Kind = 3)))) rfl)) ?_
    refine gF (nkF hg36_7) rfl rfl (OF.fieldAddrO (tv (T.op 0 0) rfl) fa48_3) ?_
    refine gL (nkF hg36_7) rfl rfl (OL.loadO1 (t := (tS x1.Word)) (tv (T.op 0 3) rfl) rfl rfl st9) ?_
    refine VRunO.chain (VWant.on (b := (!(decide (x1.Kind = 3)))) rfl rfl (nkF hg36_7)) (cS (vc (tv (tS x1.Word) rfl) VEvs.nil) (lp rfl (LendL.nil)) (W_spec_IsWord (n + 0) x1.Word (by first | exact hw _ (List.mem_of_getElem? hx1) | assumption | omega)) rfl rfl) ?_
    refine gF (nkF hg36_7) rfl rfl (B.not (c := (!(decide (isWord x1.Word)))) (tv (tB (decide (isWord x1.Word))) rfl) rfl) ?_
    refine VRunO.free (VWant.on (b := false) rfl rfl rfl) (OF.pickT (VEv.tmpB (b := (!(decide (x1.Kind = 3)))) rfl (nkF hg36_7)) (tv (tB (!(decide (isWord x1.Word)))) rfl)) ?_
    refine fO (OF.pickF (tv (tB false) rfl) (tv (tB (!(decide (isWord x1.Word)))) rfl)) ?_
    refine nt ?_
    refine VRun.cond (tv (tB (!(decide (isWord x1.Word)))) rfl) (fun hc1 => ?_) (fun hc1 => ?_)
    · have fhc1 : ¬ (isWord x1.Word) := ndT hc1
      refine sr ?_
      refine fO (OF.assign (VEv.bool false)) ?_
      refine nt ?_
      refine rt ?_
      refine tr ?_
      refine vinB.r ?_
      refine tr ?_
      refine tr ?_
      refine vinB.r ?_
      refine tr ?_
      refine vb (b' := false) rfl ?_
      first | (refine decN ⟨fun h => ⟨by omega, allEnd hI' fhc0⟩, fun h => by have := h.1; omega⟩) | (symm; rw [decide_eq_false_iff_not]; rintro ⟨_, h2⟩; obtain ⟨y, hy, h3, h4, h5, h6, h7, h8⟩ := h2 i fhc0; obtain rfl := same_at hx1 hy; first | omega | (simp_all; done) | (exact h8 k fhc2 (fhc3 ▸ hx2)))
    have fhc1 : isWord x1.Word := ndF hc1
    refine sk ?_
    refine tn ?_
    refine sr ?_
    refine fO (OF.assign (VEv.int .i64 0)) ?_
    refine nt ?_
    refine VRun.block ?_
    refine VRun.loop (A := Nat) (fun s_ => [(0, (rd 4 eReport a)), (3, (tN i)), (4, (T.op 0 0)), (5, (tN s_))]) (fun s_ => mkO [(0, (Obj.cells (eReport false x1)))]) 1 (fun s_ => s_ ≤ i ∧ ∀ j, j < s_ → a[j]? ≠ some x1) (fun s_ => i - s_) (0 : Nat) ?_ (Wk.mk (fun k => k) ?_ ?_ ?_) ?_
    · exact ⟨Nat.zero_le _, fun j hj => by omega⟩
    · exact (ball_cons ⟨rfl, rfl⟩ (ball_cons ⟨rfl, rfl⟩ (ball_cons ⟨rfl, rfl⟩ (ball_cons ⟨rfl, rfl⟩ (ball_nil)))))
    · exact (ball_cons ⟨rfl, (Nat.le_of_ble_eq_true rfl), rfl⟩ (ball_nil))
    · show List.Nodup ([0] : List Nat)
      decide
    rintro k hI
    have hI' : k ≤ i ∧ ∀ j, j < k → a[j]? ≠ some x1 := hI
    clear hI
    show VRun _ _ _ [(0, (rd 4 eReport a)), (3, (tN i)), (4, (T.op 0 0)), (5, (tN k))] (mkO [(0, (Obj.cells (eReport false x1)))]) 1 _
    refine sq ?_
    refine sr ?_
    refine mO (tN k) rfl ?_
    refine mO (tN i) rfl ?_
    refine fO (B.lss (c := (decide (k < i))) (tv (tN k) rfl) (tv (tN i) rfl) (by first | exact hw _ (List.mem_of_getElem? hx1) | (exact decN (by omega)))) ?_
    refine nt ?_
    refine VRun.cond (tv (tB (decide (k < i))) rfl) (fun hc2 => ?_) (fun hc2 => ?_)
    · have fhc2 : k < i := of_decide_eq_true hc2
      refine sk ?_
      refine tn ?_
      refine sq ?_
      refine VRun.block ?_
      refine sq ?_
      refine VRun.draw (B := [[], [], [1, 0], [0, 1, 2], [], [4, 2, 1, 0, 3]]) (by kernel_rfl) (by kernel_rfl) ?_
      refine mD (rd 4 eReport a) rfl rfl ?_
      refine mD (tN k) rfl rfl ?_
      obtain ⟨x2, hx2⟩ : ∃ x, a[k]? = some x := ⟨_, List.getElem?_eq_getElem (by first | exact hw _ (List.mem_of_getElem? hx1) | omega)⟩
      refine fD (OF.indexAddrR (row := (eReport false x2)) (i := k) (tv (rd 4 eReport a) rfl) (tv (tN k) rfl) rfl (map_at _ hx2) Try.underlying32 sz48 if48) rfl rfl ?_
      refine lD (OL.loadRn (us := (eReport false x2)) (tv (T.rp (eReport false x2)) rfl) st48 sz48 (Nat.le_of_ble_eq_true rfl) rfl) rfl rfl ?_
      refine lD (OL.loadOn (us := (eReport false x1)) (tv (T.op 0 0) rfl) rfl st48 sz48 (Nat.le_of_ble_eq_true rfl) rfl) rfl rfl ?_
      refine fD (B.eql48 (a := x2) (b := x1) (m := false) (m' := false) (tv (T.agg (eReport false x2)) rfl) (tv (T.agg (eReport false x1)) rfl)) rfl rfl ?_
      refine VRunD.nil ?_
      refine tn ?_
      refine VRun.cond (tv (tB (decide (x2 = x1))) rfl) (fun hc3 => ?_) (fun hc3 => ?_)
      · have fhc3 : x2 = x1 := of_decide_eq_true hc3
        refine sr ?_
        refine fO (OF.assign (VEv.bool false)) ?_
        refine nt ?_
        refine rt ?_
        refine vinB.r ?_
        refine tr ?_
        refine tr ?_
        refine vinB.r ?_
        refine vinB.r ?_
        refine tr ?_
        refine tr ?_
        refine vinB.r ?_
        refine tr ?_
        refine vb (b' := false) rfl ?_
        first | (refine decN ⟨fun h => ⟨by omega, allEnd hI' fhc0⟩, fun h => by have := h.1; omega⟩) | (symm; rw [decide_eq_false_iff_not]; rintro ⟨_, h2⟩; obtain ⟨y, hy, h3, h4, h5, h6, h7, h8⟩ := h2 i fhc0; obtain rfl := same_at hx1 hy; first | omega | (simp_all; done) | (exact h8 k fhc2 (fhc3 ▸ hx2)))
      have fhc3 : ¬ (x2 = x1) := of_decide_eq_false hc3
      refine sk ?_
      refine vinB.n ?_
      refine tn ?_
      refine VRun.region ?_
      refine mO (tN k) rfl ?_
      refine fO (B.add (n := (((k + 1) : Nat) : Int)) (tv (tN k) rfl) (VEv.int .i64 1) (by first | exact hw _ (List.mem_of_getElem? hx1) | rfl | (rw [wrap64 (by omega)]; omega) | (rw [wrap64 (by omega)]; done))) ?_
      refine aO (tN (k + 1)) rfl ?_
      refine VRunO.nil ?_
      refine tn ?_
      refine ⟨(k + 1 : Nat), ?_, ?_, Wk.mk (fun k => k) ?_ ?_ ?_⟩
      · refine allNext (ok := fun j => a[j]? ≠ some x1) hI' fhc2 ?_; intro h; rw [hx2] at h; exact fhc3 (Option.some.inj h)
      · first | omega | (simp only []; omega) | (show _ < _; omega) | (simp; omega)
      · exact (ball_cons ⟨rfl, rfl⟩ (ball_cons ⟨rfl, rfl⟩ (ball_cons ⟨rfl, rfl⟩ (ball_cons ⟨rfl, rfl⟩ (ball_nil)))))
      · exact (ball_cons ⟨rfl, (Nat.le_of_ble_eq_true rfl), rfl⟩ (ball_nil))
      · show List.Nodup ([0] : List Nat)
        decide
    have fhc2 : ¬ (k < i) := of_decide_eq_false hc2
    refine VRun.exit ?_
    refine vthn.e ?_
    refine vthn.e ?_
    refine vinB.e ?_
    refine vinB.n ?_
    refine tn ?_
    refine VRun.region ?_
    refine mO (tN i) rfl ?_
    refine fO (B.add (n := (((i + 1) : Nat) : Int)) (tv (tN i) rfl) (VEv.int .i64 1) (by first | exact hw _ (List.mem_of_getElem? hx1) | rfl | (rw [wrap64 (by omega)]; omega) | (rw [wrap64 (by omega)]; done))) ?_
    refine aO (tN (i + 1)) rfl ?_
    refine VRunO.nil ?_
    refine tn ?_
    refine ⟨(i + 1 : Nat), ?_, ?_, Wk.mk (fun k => k) ?_ ?_ ?_⟩
    · refine allNext hI0 fhc0 ⟨x1, hx1, by omega, by omega, by omega, ?_, ?_, fun q hq => hI'.2 q (by omega)⟩
      · intro h; first | assumption | omega
      · intro h; first | assumption | omega
    · first | omega | (simp only []; omega) | (show _ < _; omega) | (simp; omega)
    · exact (ball_cons ⟨rfl, rfl⟩ (ball_cons ⟨rfl, rfl⟩ (ball_nil)))
    · exact (ball_nil)
    · show List.Nodup ([] : List Nat)
      decide
  have fhc0 : ¬ (i < a.length) := of_decide_eq_false hc0
  refine VRun.exit ?_
  refine vthn.e ?_
  refine vthn.e ?_
  refine vinB.e ?_
  refine tn ?_
  refine sr ?_
  refine mO (rd 4 eReport a) rfl ?_
  refine lO (B.lenR (m := a.length) (tv (rd 4 eReport a) rfl) Try.underlying32 (List.length_map ..)) ?_
  refine fO (B.leq (c := (decide (a.length ≤ 30))) (tv (tN a.length) rfl) (VEv.int .i64 30) (by first | exact hw _ (List.mem_of_getElem? hx1) | (exact decN (by omega)))) ?_
  refine aO (tB (decide (a.length ≤ 30))) rfl ?_
  refine nt ?_
  refine rt ?_
  refine vb (b' := (decide (a.length ≤ 30))) rfl ?_
  first | (refine decN ⟨fun h => ⟨by omega, allEnd hI' fhc0⟩, fun h => by have := h.1; omega⟩) | (symm; rw [decide_eq_false_iff_not]; rintro ⟨_, h2⟩; obtain ⟨y, hy, h3, h4, h5, h6, h7, h8⟩ := h2 i fhc0; obtain rfl := same_at hx1 hy; first | omega | (simp_all; done) | (exact h8 k fhc2 (fhc3 ▸ hx2)))
theorem W_impl_AreReports (n : Nat) (a : List D.Report) (hz : zL zReport a ≤ 2 * mx) : Pure (acall Try.prog (n + 3)) 23 [(rd 4 eReport a)] (tB (decide (areReports a))) := by
  refine Pure.intro (rs := [ResultVar.tmp 2]) Try.func23 rfl rfl rfl (E0 := [(0, (rd 4 eReport a))]) rfl ?_
  have hlim : lim = 1099511627776 := rfl
  have hmx : mx = 1048576 := rfl
  have hmax : maxLen = 9223372036854775807 := rfl
  have ha := zL_len (z := zReport) a
  have hw : ∀ x ∈ a, x.Word.size ≤ maxLen := fun x hx => by have h1 := zL_mem (z := zReport) hx; simp only [zReport] at h1; omega
  refine sr ?_
  refine fO (OF.assign (VEv.bool false)) ?_
  refine nt ?_
  refine sq ?_
  refine sr ?_
  refine mO (rd 4 eReport a) rfl ?_
  refine lO (B.lenR (m := a.length) (tv (rd 4 eReport a) rfl) Try.underlying32 (List.length_map ..)) ?_
  refine fO (B.gtr (c := (decide (30 < a.length))) (tv (tN a.length) rfl) (VEv.int .i64 30) (by first | exact hw _ (List.mem_of_getElem? hx1) | (rw [List.length_take]; omega) | (exact decN (by omega)))) ?_
  refine nt ?_
  refine VRun.cond (tv (tB (decide (30 < a.length))) rfl) (fun hc0 => ?_) (fun hc0 => ?_)
  · have fhc0 : 30 < a.length := of_decide_eq_true hc0
    refine sr ?_
    refine fO (OF.assign (VEv.bool false)) ?_
    refine nt ?_
    refine rt ?_
    refine tr ?_
    refine vb (b' := false) rfl ?_
    first | (symm; rw [decide_eq_false_iff_not]; rintro ⟨h2, _⟩; omega) | (symm; rw [decide_eq_true_eq]; exact ⟨by omega, allEnd hI' fhc1⟩) | (symm; rw [decide_eq_false_iff_not]; rintro ⟨_, h2⟩; obtain ⟨y, hy, h3, h4, h5, h6, h7, h8⟩ := h2 i fhc1; obtain rfl := same_at hx1 hy; first | omega | (simp_all; done) | (obtain ⟨k, hk, hk2⟩ := mem_take_iff.1 fhc2; exact h8 k hk hk2))
  have fhc0 : ¬ (30 < a.length) := of_decide_eq_false hc0
  refine sk ?_
  refine tn ?_
  refine sq ?_
  refine sr ?_
  refine mO (rd 4 eReport a) rfl ?_
  refine lO (B.lenR (m := a.length) (tv (rd 4 eReport a) rfl) Try.underlying32 (List.length_map ..)) ?_
  refine fO (OF.move (VEv.int .i64 0)) ?_
  refine nt ?_
  refine VRun.block ?_
  refine VRun.loop (A := Nat) (fun s_ => [(0, (rd 4 eReport a)), (8, (rd 4 eReport a)), (9, (tN a.length)), (10, (tN s_))]) (fun s_ => mkO []) 0 (fun s_ => s_ ≤ a.length ∧ ∀ j, j < s_ → repOk a j) (fun s_ => a.length - s_) (0 : Nat) ?_ (Wk.mk (fun k => k) ?_ ?_ ?_) ?_
  · exact ⟨Nat.zero_le _, fun j hj => by omega⟩
  · exact (ball_cons ⟨rfl, rfl⟩ (ball_cons ⟨rfl, rfl⟩ (ball_cons ⟨rfl, rfl⟩ (ball_cons ⟨rfl, rfl⟩ (ball_nil)))))
  · exact (ball_nil)
  · show List.Nodup ([] : List Nat)
    decide
  rintro i hI
  have hI' : i ≤ a.length ∧ ∀ j, j < i → repOk a j := hI
  clear hI
  show VRun _ _ _ [(0, (rd 4 eReport a)), (8, (rd 4 eReport a)), (9, (tN a.length)), (10, (tN i))] (mkO []) 0 _
  have hI0 := hI'
  refine sr ?_
  refine fO (B.lss (c := (decide (i < a.length))) (tv (tN i) rfl) (tv (tN a.length) rfl) (by first | exact hw _ (List.mem_of_getElem? hx1) | (rw [List.length_take]; omega) | (exact decN (by omega)))) ?_
  refine nt ?_
  refine sq ?_
  refine VRun.cond (tv (tB (decide (i < a.length))) rfl) (fun hc1 => ?_) (fun hc1 => ?_)
  · have fhc1 : i < a.length := of_decide_eq_true hc1
    refine sk ?_
    refine tn ?_
    refine sq ?_
    refine VRun.block ?_
    refine sr ?_
    refine mO (tN i) rfl ?_
    obtain ⟨x1, hx1⟩ : ∃ x, a[i]? = some x := ⟨_, List.getElem?_eq_getElem (by first | exact hw _ (List.mem_of_getElem? hx1) | (rw [List.length_take]; omega) | omega)⟩
    refine fO (OF.indexAddrR (row := (eReport false x1)) (i := i) (tv (rd 4 eReport a) rfl) (tv (tN i) rfl) rfl (map_at _ hx1) Try.underlying32 sz48 if48) ?_
    refine lO (OL.loadRn (us := (eReport false x1)) (tv (T.rp (eReport false x1)) rfl) st48 sz48 (Nat.le_of_ble_eq_true rfl) rfl) ?_
    refine kO (B.alloc (t := (T.agg [(tN 0), (tN 0), (tN 0), (tS ByteArray.empty)])) (ts := [(tN 0), (tN 0), (tN 0), (tS ByteArray.empty)]) zo48 zc48 nofun (fun _ => .agg _ _ rfl (RLof (RL.cons (.int _ _) (RL.cons (.int _ _) (RL.cons (.int _ _) (RL.cons (.str _) (RL.nil _))))))) rfl) ?_
    refine aO (tN i) rfl ?_
    refine cO (B.storeO (us := (eReport false x1)) (ws := (eReport false x1)) (tv (T.op 0 0) rfl) (tv (T.agg (eReport false x1)) rfl) nofun rfl rfl (Nat.le_of_ble_eq_true rfl) if48 sz48 (ball_cons rfl (ball_cons rfl (ball_cons rfl (ball_cons rfl (ball_nil))))) rfl) ?_
    refine nt ?_
    refine sq ?_
    refine sq ?_
    refine VRun.draw (B := [[], [0], [0, 1], [1, 0, 2], [2, 0, 1, 3], [3, 1, 0, 2, 4], [4, 2, 0, 1, 3, 5], [5, 3, 1, 0, 2, 4, 6], [6, 4, 2, 0, 1, 3, 5, 7], [7, 5, 6, 8, 3, 1, 0, 2, 4], [4, 2, 0, 1, 3, 8, 6, 5, 7, 9], [9, 7, 5, 6, 8, 3, 1, 0, 2, 4, 10], [10, 4, 2, 0, 1, 3, 8, 6, 5, 7, 9, 11], [11, 9, 7, 5, 6, 8, 3, 1, 0, 2, 4, 10, 12], [12, 10, 4, 2, 0, 1, 3, 8, 6, 5, 7, 9, 11, 13], [13, 11, 12, 14, 9, 7, 5, 6, 8, 3, 1, 0, 2, 4, 10], [10, 4, 2, 0, 1, 3, 8, 6, 5, 7, 9, 14, 12, 11, 13, 15], [15, 13, 11, 12, 14, 9, 7, 5, 6, 8, 3, 1, 0, 2, 4, 10, 16], [15, 13, 11, 12, 14, 9, 7, 5, 6, 8, 3, 1, 0, 2, 4, 10, 16], [18, 16, 10, 4, 2, 0, 1, 3, 8, 6, 5, 7, 9, 14, 12, 11, 13, 15, 17], [15, 13, 11, 12, 14, 9, 7, 5, 6, 8, 3, 1, 0, 2, 4, 10, 16], [20, 17, 15, 13, 11, 12, 14, 9, 7, 5, 6, 8, 3, 1, 0, 2, 4, 10, 16, 18, 19], [19, 18, 17, 20, 21, 15, 13, 11, 12, 14, 9, 7, 5, 6, 8, 3, 1, 0, 2, 4, 10, 16]]) (by kernel_rfl) (by kernel_rfl) ?_
    refine fD (OF.fieldAddrO (tv (T.op 0 0) rfl) fa48_0) rfl rfl ?_
    refine lD (OL.loadO1 (t := (tI x1.Tester)) (tv (T.op 0 0) rfl) rfl rfl st3) rfl rfl ?_
    refine VRunD.quiet (bi := [0, 1]) rfl VWant.always rfl rfl rfl (ball_nil) (cS (vc (tv (tI x1.Tester) rfl) (vc (VEv.int .i64 1) (vc (VEv.int .i64 9) VEvs.nil))) (lp rfl (lp rfl (lp rfl (LendL.nil)))) (W_impl_InRange (n + 1) x1.Tester 1 9 ) rfl rfl) ?_
    refine fD (B.not (c := (!(decide (1 ≤ x1.Tester ∧ x1.Tester ≤ 9)))) (tv (tB (decide (1 ≤ x1.Tester ∧ x1.Tester ≤ 9))) rfl) rfl) rfl rfl ?_
    refine mD (tB (!(decide (1 ≤ x1.Tester ∧ x1.Tester ≤ 9)))) rfl rfl ?_
    refine bool_way (!(decide (1 ≤ x1.Tester ∧ x1.Tester ≤ 9))) (fun hg19_1 => ?_) (fun hg19_1 => ?_)
    · have fhg19_1 : ¬ (1 ≤ x1.Tester ∧ x1.Tester ≤ 9) := ndT hg19_1
      refine oD rfl rfl hg19_1 rfl ?_
      refine oD rfl rfl hg19_1 rfl ?_
      refine oD rfl rfl hg19_1 rfl ?_
      refine oD rfl rfl hg19_1 rfl ?_
      refine fD (OF.pickT (VEv.tmpB (b := (!(decide (1 ≤ x1.Tester ∧ x1.Tester ≤ 9)))) rfl hg19_1) (VEv.bool true)) rfl rfl ?_
      refine mD (tB true) rfl rfl ?_
      refine VRunD.off rfl (VWant.not (b := true) rfl rfl rfl) ?_
      refine VRunD.off rfl (VWant.not (b := true) rfl rfl rfl) ?_
      refine VRunD.off rfl (VWant.not (b := true) rfl rfl rfl) ?_
      refine VRunD.off rfl (VWant.not (b := true) rfl rfl rfl) ?_
      refine fD (OF.pickT (tv (tB true) rfl) (VEv.bool true)) rfl rfl ?_
      refine mD (tB true) rfl rfl ?_
      refine VRunD.off rfl (VWant.not (b := true) rfl rfl rfl) ?_
      refine VRunD.off rfl (VWant.not (b := true) rfl rfl rfl) ?_
      refine VRunD.off rfl (VWant.not (b := true) rfl rfl rfl) ?_
      refine VRunD.off rfl (VWant.not (b := true) rfl rfl rfl) ?_
      refine VRunD.off rfl (VWant.not (b := true) rfl rfl rfl) ?_
      refine fD (OF.pickT (tv (tB true) rfl) (VEv.bool true)) rfl rfl ?_
      refine VRunD.nil ?_
      refine tn ?_
      refine VRun.cond (tv (tB true) rfl) (fun hk2 => ?_) (fun hk2 => ?_)
      · skip
        refine sr ?_
        refine fO (OF.assign (VEv.bool false)) ?_
        refine nt ?_
        refine rt ?_
        refine tr ?_
        refine vinB.r ?_
        refine tr ?_
        refine tr ?_
        refine vinB.r ?_
        refine tr ?_
        refine vb (b' := false) rfl ?_
        first | (symm; rw [decide_eq_false_iff_not]; rintro ⟨h2, _⟩; omega) | (symm; rw [decide_eq_true_eq]; exact ⟨by omega, allEnd hI' fhc1⟩) | (symm; rw [decide_eq_false_iff_not]; rintro ⟨_, h2⟩; obtain ⟨y, hy, h3, h4, h5, h6, h7, h8⟩ := h2 i fhc1; obtain rfl := same_at hx1 hy; first | omega | (simp_all; done) | (obtain ⟨k, hk, hk2⟩ := mem_take_iff.1 fhc2; exact h8 k hk hk2))
      · exact absurd (rfl.symm.trans hk2) (by decide)
    have fhg19_1 : 1 ≤ x1.Tester ∧ x1.Tester ≤ 9 := ndF hg19_1
    refine VRunD.free rfl (VWant.on (b := (!(decide (1 ≤ x1.Tester ∧ x1.Tester ≤ 9)))) rfl rfl hg19_1) rfl (OF.fieldAddrO (tv (T.op 0 0) rfl) fa48_1) ?_
    refine VRunD.look rfl (VWant.on (b := (!(decide (1 ≤ x1.Tester ∧ x1.Tester ≤ 9)))) rfl rfl hg19_1) rfl (OL.loadO1 (t := (tI x1.Slot)) (tv (T.op 0 1) rfl) rfl rfl st3) ?_
    refine VRunD.quiet (bi := [5, 3, 1, 0, 2, 4, 6]) rfl (VWant.on (b := (!(decide (1 ≤ x1.Tester ∧ x1.Tester ≤ 9)))) rfl rfl hg19_1) rfl rfl rfl (ball_nil) (cS (vc (tv (tI x1.Slot) rfl) (vc (VEv.int .i64 0) (vc (VEv.int .i64 99) VEvs.nil))) (lp rfl (lp rfl (lp rfl (LendL.nil)))) (W_impl_InRange (n + 1) x1.Slot 0 99 ) rfl rfl) ?_
    refine VRunD.free rfl (VWant.on (b := (!(decide (1 ≤ x1.Tester ∧ x1.Tester ≤ 9)))) rfl rfl hg19_1) rfl (B.not (c := (!(decide (0 ≤ x1.Slot ∧ x1.Slot ≤ 99)))) (tv (tB (decide (0 ≤ x1.Slot ∧ x1.Slot ≤ 99))) rfl) rfl) ?_
    refine fD (OF.pickF (VEv.tmpB (b := (!(decide (1 ≤ x1.Tester ∧ x1.Tester ≤ 9)))) rfl hg19_1) (tv (tB (!(decide (0 ≤ x1.Slot ∧ x1.Slot ≤ 99)))) rfl)) rfl rfl ?_
    refine mD (tB (!(decide (0 ≤ x1.Slot ∧ x1.Slot ≤ 99)))) rfl rfl ?_
    refine bool_way (!(decide (0 ≤ x1.Slot ∧ x1.Slot ≤ 99))) (fun hg25_3 => ?_) (fun hg25_3 => ?_)
    · have fhg25_3 : ¬ (0 ≤ x1.Slot ∧ x1.Slot ≤ 99) := ndT hg25_3
      refine oD rfl rfl hg25_3 rfl ?_
      refine oD rfl rfl hg25_3 rfl ?_
      refine oD rfl rfl hg25_3 rfl ?_
      refine oD rfl rfl hg25_3 rfl ?_
      refine fD (OF.pickT (VEv.tmpB (b := (!(decide (0 ≤ x1.Slot ∧ x1.Slot ≤ 99)))) rfl hg25_3) (VEv.bool true)) rfl rfl ?_
      refine mD (tB true) rfl rfl ?_
      refine VRunD.off rfl (VWant.not (b := true) rfl rfl rfl) ?_
      refine VRunD.off rfl (VWant.not (b := true) rfl rfl rfl) ?_
      refine VRunD.off rfl (VWant.not (b := true) rfl rfl rfl) ?_
      refine VRunD.off rfl (VWant.not (b := true) rfl rfl rfl) ?_
      refine VRunD.off rfl (VWant.not (b := true) rfl rfl rfl) ?_
      refine fD (OF.pickT (tv (tB true) rfl) (VEv.bool true)) rfl rfl ?_
      refine VRunD.nil ?_
      refine tn ?_
      refine VRun.cond (tv (tB true) rfl) (fun hk4 => ?_) (fun hk4 => ?_)
      · skip
        refine sr ?_
        refine fO (OF.assign (VEv.bool false)) ?_
        refine nt ?_
        refine rt ?_
        refine tr ?_
        refine vinB.r ?_
        refine tr ?_
        refine tr ?_
        refine vinB.r ?_
        refine tr ?_
        refine vb (b' := false) rfl ?_
        first | (symm; rw [decide_eq_false_iff_not]; rintro ⟨h2, _⟩; omega) | (symm; rw [decide_eq_true_eq]; exact ⟨by omega, allEnd hI' fhc1⟩) | (symm; rw [decide_eq_false_iff_not]; rintro ⟨_, h2⟩; obtain ⟨y, hy, h3, h4, h5, h6, h7, h8⟩ := h2 i fhc1; obtain rfl := same_at hx1 hy; first | omega | (simp_all; done) | (obtain ⟨k, hk, hk2⟩ := mem_take_iff.1 fhc2; exact h8 k hk hk2))
      · exact absurd (rfl.symm.trans hk4) (by decide)
    have fhg25_3 : 0 ≤ x1.Slot ∧ x1.Slot ≤ 99 := ndF hg25_3
    refine VRunD.free rfl (VWant.on (b := (!(decide (0 ≤ x1.Slot ∧ x1.Slot ≤ 99)))) rfl rfl hg25_3) rfl (OF.fieldAddrO (tv (T.op 0 0) rfl) fa48_2) ?_
    refine VRunD.look rfl (VWant.on (b := (!(decide (0 ≤ x1.Slot ∧ x1.Slot ≤ 99)))) rfl rfl hg25_3) rfl (OL.loadO1 (t := (tI x1.Kind)) (tv (T.op 0 2) rfl) rfl rfl st3) ?_
    refine VRunD.quiet (bi := [11, 9, 7, 5, 6, 8, 3, 1, 0, 2, 4, 10, 12]) rfl (VWant.on (b := (!(decide (0 ≤ x1.Slot ∧ x1.Slot ≤ 99)))) rfl rfl hg25_3) rfl rfl rfl (ball_nil) (cS (vc (tv (tI x1.Kind) rfl) (vc (VEv.int .i64 1) (vc (VEv.int .i64 3) VEvs.nil))) (lp rfl (lp rfl (lp rfl (LendL.nil)))) (W_impl_InRange (n + 1) x1.Kind 1 3 ) rfl rfl) ?_
    refine VRunD.free rfl (VWant.on (b := (!(decide (0 ≤ x1.Slot ∧ x1.Slot ≤ 99)))) rfl rfl hg25_3) rfl (B.not (c := (!(decide (1 ≤ x1.Kind ∧ x1.Kind ≤ 3)))) (tv (tB (decide (1 ≤ x1.Kind ∧ x1.Kind ≤ 3))) rfl) rfl) ?_
    refine fD (OF.pickF (VEv.tmpB (b := (!(decide (0 ≤ x1.Slot ∧ x1.Slot ≤ 99)))) rfl hg25_3) (tv (tB (!(decide (1 ≤ x1.Kind ∧ x1.Kind ≤ 3)))) rfl)) rfl rfl ?_
    refine mD (tB (!(decide (1 ≤ x1.Kind ∧ x1.Kind ≤ 3)))) rfl rfl ?_
    refine bool_way (!(decide (1 ≤ x1.Kind ∧ x1.Kind ≤ 3))) (fun hg31_5 => ?_) (fun hg31_5 => ?_)
    · have fhg31_5 : ¬ (1 ≤ x1.Kind ∧ x1.Kind ≤ 3) := ndT hg31_5
      refine oD rfl rfl hg31_5 rfl ?_
      refine oD rfl rfl hg31_5 rfl ?_
      refine oD rfl rfl hg31_5 rfl ?_
      refine oD rfl rfl hg31_5 rfl ?_
      refine oD rfl rfl hg31_5 rfl ?_
      refine fD (OF.pickT (VEv.tmpB (b := (!(decide (1 ≤ x1.Kind ∧ x1.Kind ≤ 3)))) rfl hg31_5) (VEv.bool true)) rfl rfl ?_
      refine VRunD.nil ?_
      refine tn ?_
      refine VRun.cond (tv (tB true) rfl) (fun hk6 => ?_) (fun hk6 => ?_)
      · skip
        refine sr ?_
        refine fO (OF.assign (VEv.bool false)) ?_
        refine nt ?_
        refine rt ?_
        refine tr ?_
        refine vinB.r ?_
        refine tr ?_
        refine tr ?_
        refine vinB.r ?_
        refine tr ?_
        refine vb (b' := false) rfl ?_
        first | (symm; rw [decide_eq_false_iff_not]; rintro ⟨h2, _⟩; omega) | (symm; rw [decide_eq_true_eq]; exact ⟨by omega, allEnd hI' fhc1⟩) | (symm; rw [decide_eq_false_iff_not]; rintro ⟨_, h2⟩; obtain ⟨y, hy, h3, h4, h5, h6, h7, h8⟩ := h2 i fhc1; obtain rfl := same_at hx1 hy; first | omega | (simp_all; done) | (obtain ⟨k, hk, hk2⟩ := mem_take_iff.1 fhc2; exact h8 k hk hk2))
      · exact absurd (rfl.symm.trans hk6) (by decide)
    have fhg31_5 : 1 ≤ x1.Kind ∧ x1.Kind ≤ 3 := ndF hg31_5
    refine VRunD.free rfl (VWant.on (b := (!(decide (1 ≤ x1.Kind ∧ x1.Kind ≤ 3)))) rfl rfl hg31_5) rfl (OF.move (tv (rd 4 eReport a) rfl)) ?_
    refine VRunD.free rfl (VWant.on (b := (!(decide (1 ≤ x1.Kind ∧ x1.Kind ≤ 3)))) rfl rfl hg31_5) rfl (OF.move (tv (tN i) rfl)) ?_
    refine VRunD.look rfl (VWant.on (b := (!(decide (1 ≤ x1.Kind ∧ x1.Kind ≤ 3)))) rfl rfl hg31_5) rfl (show OL _ _ _ _ _ (T.sl false 4 ((a.take i).map (eReport false))) by rw [List.map_take]; exact (OL.sliceRHi (j := i) (tv (rd 4 eReport a) rfl) (tv (tN i) rfl) rfl (by first | exact hw _ (List.mem_of_getElem? hx1) | (rw [List.length_take]; omega) | omega | (simp only [List.length_map]; omega) | (simp only [List.length_map, List.length_append, List.length_cons, List.length_nil, List.length_replicate, List.length_set, List.length_drop, List.length_take, lim] at *; omega)) Try.underlying32 sz48 if48)) ?_
    refine VRunD.look rfl (VWant.on (b := (!(decide (1 ≤ x1.Kind ∧ x1.Kind ≤ 3)))) rfl rfl hg31_5) rfl (OL.loadOn (us := (eReport false x1)) (tv (T.op 0 0) rfl) rfl st48 sz48 (Nat.le_of_ble_eq_true rfl) rfl) ?_
    refine VRunD.quiet (bi := [20, 17, 15, 13, 11, 12, 14, 9, 7, 5, 6, 8, 3, 1, 0, 2, 4, 10, 16, 18, 19]) rfl (VWant.on (b := (!(decide (1 ≤ x1.Kind ∧ x1.Kind ≤ 3)))) rfl rfl hg31_5) rfl rfl rfl (ball_nil) (cS (vc (tv (rd 4 eReport (a.take i)) rfl) (vc (tv (T.agg (eReport false x1)) rfl) VEvs.nil)) (lp rfl (LendL.cons (lg okeReport) (LendL.nil))) (W_slices_Contains_impl_Report_impl_Report_ (n + 0) (a.take i) x1 (by first | exact hw _ (List.mem_of_getElem? hx1) | (rw [List.length_take]; omega) | assumption | omega)) rfl rfl) ?_
    refine fD (OF.pickF (VEv.tmpB (b := (!(decide (1 ≤ x1.Kind ∧ x1.Kind ≤ 3)))) rfl hg31_5) (tv (tB (decide (x1 ∈ (a.take i)))) rfl)) rfl rfl ?_
    refine VRunD.nil ?_
    refine tn ?_
    refine VRun.cond (tv (tB (decide (x1 ∈ (a.take i)))) rfl) (fun hc2 => ?_) (fun hc2 => ?_)
    · have fhc2 : x1 ∈ (a.take i) := of_decide_eq_true hc2
      refine sr ?_
      refine fO (OF.assign (VEv.bool false)) ?_
      refine nt ?_
      refine rt ?_
      refine tr ?_
      refine vinB.r ?_
      refine tr ?_
      refine tr ?_
      refine vinB.r ?_
      refine tr ?_
      refine vb (b' := false) rfl ?_
      first | (symm; rw [decide_eq_false_iff_not]; rintro ⟨h2, _⟩; omega) | (symm; rw [decide_eq_true_eq]; exact ⟨by omega, allEnd hI' fhc1⟩) | (symm; rw [decide_eq_false_iff_not]; rintro ⟨_, h2⟩; obtain ⟨y, hy, h3, h4, h5, h6, h7, h8⟩ := h2 i fhc1; obtain rfl := same_at hx1 hy; first | omega | (simp_all; done) | (obtain ⟨k, hk, hk2⟩ := mem_take_iff.1 fhc2; exact h8 k hk hk2))
    have fhc2 : ¬ (x1 ∈ (a.take i)) := of_decide_eq_false hc2
    refine sk ?_
    refine tn ?_
    refine sr ?_
    refine fO (OF.fieldAddrO (tv (T.op 0 0) rfl) fa48_2) ?_
    refine lO (OL.loadO1 (t := (tI x1.Kind)) (tv (T.op 0 2) rfl) rfl rfl st3) ?_
    refine fO (B.eql (c := (decide (x1.Kind = 3))) (tv (tI x1.Kind) rfl) (VEv.int .i64 3) rfl) ?_
    refine mO (tB (decide (x1.Kind = 3))) rfl ?_
    refine bool_way (decide (x1.Kind = 3)) (fun hg41_7 => ?_) (fun hg41_7 => ?_)
    · have fhg41_7 : x1.Kind = 3 := of_decide_eq_true hg41_7
      refine gF hg41_7 rfl rfl (OF.fieldAddrO (tv (T.op 0 0) rfl) fa48_3) ?_
      refine gL hg41_7 rfl rfl (OL.loadO1 (t := (tS x1.Word)) (tv (T.op 0 3) rfl) rfl rfl st9) ?_
      refine gF hg41_7 rfl rfl (B.sneq (c := (!(decide (x1.Word = (⟨#[]⟩ : ByteArray))))) (tv (tS x1.Word) rfl) (VEv.str (⟨#[]⟩ : ByteArray)) rfl) ?_
      refine fO (OF.pickT (VEv.tmpB (b := (decide (x1.Kind = 3))) rfl hg41_7) (tv (tB (!(decide (x1.Word = (⟨#[]⟩ : ByteArray))))) rfl)) ?_
      refine mO (tB (!(decide (x1.Word = (⟨#[]⟩ : ByteArray))))) rfl ?_
      refine bool_way (!(decide (x1.Word = (⟨#[]⟩ : ByteArray)))) (fun hg46_8 => ?_) (fun hg46_8 => ?_)
      · have fhg46_8 : ¬ (x1.Word = (⟨#[]⟩ : ByteArray)) := ndT hg46_8
        refine oO rfl rfl hg46_8 ?_
        refine oO rfl rfl hg46_8 ?_
        refine oO rfl rfl hg46_8 ?_
        refine oO rfl rfl hg46_8 ?_
        refine uO rfl rfl ?_
        refine uO rfl rfl ?_
        refine uO rfl rfl ?_
        refine uO rfl rfl ?_
        refine oO rfl rfl hg46_8 ?_
        refine fO (OF.pickT (VEv.tmpB (b := (!(decide (x1.Word = (⟨#[]⟩ : ByteArray))))) rfl hg46_8) (VEv.bool true)) ?_
        refine nt ?_
        refine VRun.cond (tv (tB true) rfl) (fun hk9 => ?_) (fun hk9 => ?_)
        · skip
          refine sr ?_
          refine fO (OF.assign (VEv.bool false)) ?_
          refine nt ?_
          refine rt ?_
          refine vinB.r ?_
          refine tr ?_
          refine tr ?_
          refine vinB.r ?_
          refine tr ?_
          refine vb (b' := false) rfl ?_
          first | (symm; rw [decide_eq_false_iff_not]; rintro ⟨h2, _⟩; omega) | (symm; rw [decide_eq_true_eq]; exact ⟨by omega, allEnd hI' fhc1⟩) | (symm; rw [decide_eq_false_iff_not]; rintro ⟨_, h2⟩; obtain ⟨y, hy, h3, h4, h5, h6, h7, h8⟩ := h2 i fhc1; obtain rfl := same_at hx1 hy; first | omega | (simp_all; done) | (obtain ⟨k, hk, hk2⟩ := mem_take_iff.1 fhc2; exact h8 k hk hk2))
        · exact absurd (rfl.symm.trans hk9) (by decide)
      have fhg46_8 : x1.Word = (⟨#[]⟩ : ByteArray) := ndF hg46_8
      refine gF hg46_8 rfl rfl (OF.fieldAddrO (tv (T.op 0 0) rfl) fa48_2) ?_
      refine gL hg46_8 rfl rfl (OL.loadO1 (t := (tI x1.Kind)) (tv (T.op 0 2) rfl) rfl rfl st3) ?_
      refine gF hg46_8 rfl rfl (B.neq (c := (!(decide (x1.Kind = 3)))) (tv (tI x1.Kind) rfl) (VEv.int .i64 3) rfl) ?_
      refine gF hg46_8 rfl rfl (OF.move (tv (tB (!(decide (x1.Kind = 3)))) rfl)) ?_
      refine oO rfl rfl (nkT hg41_7) ?_
      refine oO rfl rfl (nkT hg41_7) ?_
      refine oO rfl rfl (nkT hg41_7) ?_
      refine oO rfl rfl (nkT hg41_7) ?_
      refine gF hg46_8 rfl rfl (OF.pickF (VEv.tmpB (b := (!(decide (x1.Kind = 3)))) rfl (nkT hg41_7)) (VEv.bool false)) ?_
      refine fO (OF.pickF (VEv.tmpB (b := (!(decide (x1.Word = (⟨#[]⟩ : ByteArray))))) rfl hg46_8) (tv (tB false) rfl)) ?_
      refine nt ?_
      refine VRun.cond (tv (tB false) rfl) (fun hk10 => ?_) (fun hk10 => ?_)
      · exact absurd (rfl.symm.trans hk10) (by decide)
      · skip
        refine sk ?_
        refine vinB.n ?_
        refine tn ?_
        refine VRun.region ?_
        refine fO (B.add (n := (((i + 1) : Nat) : Int)) (tv (tN i) rfl) (VEv.int .i64 1) (by first | exact hw _ (List.mem_of_getElem? hx1) | (rw [List.length_take]; omega) | rfl | (rw [wrap64 (by omega)]; omega) | (rw [wrap64 (by omega)]; done))) ?_
        refine mO (tN (i + 1)) rfl ?_
        refine VRunO.nil ?_
        refine tn ?_
        refine ⟨(i + 1 : Nat), ?_, ?_, Wk.mk (fun k => k) ?_ ?_ ?_⟩
        · refine allNext hI0 fhc1 ⟨x1, hx1, by omega, by omega, by omega, ?_, ?_, fun q hq hh => fhc2 (mem_take_iff.2 ⟨q, hq, hh⟩)⟩
          · intro h; first | assumption | omega
          · intro h; first | assumption | omega
        · first | omega | (simp only []; omega) | (show _ < _; omega) | (simp; omega)
        · exact (ball_cons ⟨rfl, rfl⟩ (ball_cons ⟨rfl, rfl⟩ (ball_cons ⟨rfl, rfl⟩ (ball_cons ⟨rfl, rfl⟩ (ball_nil)))))
        · exact (ball_nil)
        · show List.Nodup ([] : List Nat)
          decide
    have fhg41_7 : ¬ (x1.Kind = 3) := of_decide_eq_false hg41_7
    refine oO rfl rfl hg41_7 ?_
    refine oO rfl rfl hg41_7 ?_
    refine oO rfl rfl hg41_7 ?_
    refine fO (OF.pickF (VEv.tmpB (b := (decide (x1.Kind = 3))) rfl hg41_7) (VEv.bool false)) ?_
    refine mO (tB false) rfl ?_
    refine VRunO.free (VWant.on (b := false) rfl rfl rfl) (OF.fieldAddrO (tv (T.op 0 0) rfl) fa48_2) ?_
    refine VRunO.look (VWant.on (b := false) rfl rfl rfl) (OL.loadO1 (t := (tI x1.Kind)) (tv (T.op 0 2) rfl) rfl rfl st3) ?_
    refine VRunO.free (VWant.on (b := false) rfl rfl rfl) (B.neq (c := (!(decide (x1.Kind = 3)))) (tv (tI x1.Kind) rfl) (VEv.int .i64 3) rfl) ?_
    refine VRunO.free (VWant.on (b := false) rfl rfl rfl) (OF.move (tv (tB (!(decide (x1.Kind = 3)))) rfl)) ?_
    refine gF (nkF hg41_7) rfl rfl (OF.fieldAddrO (tv (T.op 0 0) rfl) fa48_3) ?_
    refine gL (nkF hg41_7) rfl rfl (OL.loadO1 (t := (tS x1.Word)) (tv (T.op 0 3) rfl) rfl rfl st9) ?_
    refine VRunO.chain (VWant.on (b := (!(decide (x1.Kind = 3)))) rfl rfl (nkF hg41_7)) (cS (vc (tv (tS x1.Word) rfl) VEvs.nil) (lp rfl (LendL.nil)) (W_impl_IsWord (n + 0) x1.Word (by first | exact hw _ (List.mem_of_getElem? hx1) | (rw [List.length_take]; omega) | assumption | omega)) rfl rfl) ?_
    refine gF (nkF hg41_7) rfl rfl (B.not (c := (!(decide (isWord x1.Word)))) (tv (tB (decide (isWord x1.Word))) rfl) rfl) ?_
    refine VRunO.free (VWant.on (b := false) rfl rfl rfl) (OF.pickT (VEv.tmpB (b := (!(decide (x1.Kind = 3)))) rfl (nkF hg41_7)) (tv (tB (!(decide (isWord x1.Word)))) rfl)) ?_
    refine fO (OF.pickF (tv (tB false) rfl) (tv (tB (!(decide (isWord x1.Word)))) rfl)) ?_
    refine nt ?_
    refine VRun.cond (tv (tB (!(decide (isWord x1.Word)))) rfl) (fun hc3 => ?_) (fun hc3 => ?_)
    · have fhc3 : ¬ (isWord x1.Word) := ndT hc3
      refine sr ?_
      refine fO (OF.assign (VEv.bool false)) ?_
      refine nt ?_
      refine rt ?_
      refine vinB.r ?_
      refine tr ?_
      refine tr ?_
      refine vinB.r ?_
      refine tr ?_
      refine vb (b' := false) rfl ?_
      first | (symm; rw [decide_eq_false_iff_not]; rintro ⟨h2, _⟩; omega) | (symm; rw [decide_eq_true_eq]; exact ⟨by omega, allEnd hI' fhc1⟩) | (symm; rw [decide_eq_false_iff_not]; rintro ⟨_, h2⟩; obtain ⟨y, hy, h3, h4, h5, h6, h7, h8⟩ := h2 i fhc1; obtain rfl := same_at hx1 hy; first | omega | (simp_all; done) | (obtain ⟨k, hk, hk2⟩ := mem_take_iff.1 fhc2; exact h8 k hk hk2))
    have fhc3 : isWord x1.Word := ndF hc3
    refine sk ?_
    refine vinB.n ?_
    refine tn ?_
    refine VRun.region ?_
    refine fO (B.add (n := (((i + 1) : Nat) : Int)) (tv (tN i) rfl) (VEv.int .i64 1) (by first | exact hw _ (List.mem_of_getElem? hx1) | (rw [List.length_take]; omega) | rfl | (rw [wrap64 (by omega)]; omega) | (rw [wrap64 (by omega)]; done))) ?_
    refine mO (tN (i + 1)) rfl ?_
    refine VRunO.nil ?_
    refine tn ?_
    refine ⟨(i + 1 : Nat), ?_, ?_, Wk.mk (fun k => k) ?_ ?_ ?_⟩
    · refine allNext hI0 fhc1 ⟨x1, hx1, by omega, by omega, by omega, ?_, ?_, fun q hq hh => fhc2 (mem_take_iff.2 ⟨q, hq, hh⟩)⟩
      · intro h; first | assumption | omega
      · intro h; first | assumption | omega
    · first | omega | (simp only []; omega) | (show _ < _; omega) | (simp; omega)
    · exact (ball_cons ⟨rfl, rfl⟩ (ball_cons ⟨rfl, rfl⟩ (ball_cons ⟨rfl, rfl⟩ (ball_cons ⟨rfl, rfl⟩ (ball_nil)))))
    · exact (ball_nil)
    · show List.Nodup ([] : List Nat)
      decide
  have fhc1 : ¬ (i < a.length) := of_decide_eq_false hc1
  refine VRun.exit ?_
  refine vthn.e ?_
  refine vthn.e ?_
  refine vinB.e ?_
  refine tn ?_
  refine sr ?_
  refine fO (OF.assign (VEv.bool true)) ?_
  refine nt ?_
  refine rt ?_
  refine vb (b' := true) rfl ?_
  first | (symm; rw [decide_eq_false_iff_not]; rintro ⟨h2, _⟩; omega) | (symm; rw [decide_eq_true_eq]; exact ⟨by omega, allEnd hI' fhc1⟩) | (symm; rw [decide_eq_false_iff_not]; rintro ⟨_, h2⟩; obtain ⟨y, hy, h3, h4, h5, h6, h7, h8⟩ := h2 i fhc1; obtain rfl := same_at hx1 hy; first | omega | (simp_all; done) | (obtain ⟨k, hk, hk2⟩ := mem_take_iff.1 fhc2; exact h8 k hk hk2))
noncomputable section
def addRep (l : List D.Report) (x : D.Report) : List D.Report := if areReports (l ++ [x]) then l ++ [x] else l
theorem addRep_len (l : List D.Report) (x : D.Report) : (addRep l x).length ≤ max l.length 30 := by
  unfold addRep
  split
  · rename_i h
    have := h.1
    omega
  · omega
theorem zL_snoc {α : Type} (z : α → Nat) (l : List α) (x : α) : zL z (l ++ [x]) = zL z l + z x + 1 := by
  have h : sumZ z (l ++ [x]) = sumZ z l + z x := by
    induction l with
    | nil => simp [sumZ]
    | cons y l ih => simp only [List.cons_append, sumZ, ih]; omega
  simp only [zL, h, List.length_append, List.length_cons, List.length_nil]
  omega
end
theorem W_slices_Clone_impl_Report_impl_Report_ (n : Nat) (a : List D.Report) (ha : a.length ≤ mx) : Pure (acall Try.prog (n + 1)) 94 [(rd 4 eReport a)] (T.sl true 4 (a.map (eReport true))) := by
  refine Pure.intro (rs := [ResultVar.tmp 2]) Try.func94 rfl rfl rfl (E0 := [(0, (rd 4 eReport a))]) rfl ?_
  have hlim : lim = 1099511627776 := rfl
  have hmx : mx = 1048576 := rfl
  have hmax : maxLen = 9223372036854775807 := rfl
  refine sr ?_
  refine fO (OF.assign VEv.nils) ?_
  refine nt ?_
  refine sq ?_
  refine sr ?_
  refine mO (rd 4 eReport a) rfl ?_
  refine VRunO.nilEq VWant.always (tv (rd 4 eReport a) rfl) VEv.nils Try.underlying32 (fun bn1 hbn1 => ?_)
  refine nt ?_
  refine VRun.cond (tv (tB bn1) rfl) (fun hc0 => ?_) (fun hc0 => ?_)
  · have fhc0 : bn1 = true := hc0
    have ebn1 := hbn1 hc0
    refine sr ?_
    refine fO (OF.assign VEv.nils) ?_
    refine nt ?_
    refine rt ?_
    refine tr ?_
    refine vfin.eq (r' := (T.sl true 4 [])) ?_ (vfin.r (VRes.tmp (t := T.nils) rfl VRes.nil) (Give.nils 4))
    show (T.sl true 4 []) = (T.sl true 4 (a.map (eReport true)))
    refine congrArg (fun l_ => T.sl true 4 (List.map (eReport true) l_)) (a₁ := []) ?_
    exact (List.map_eq_nil_iff.1 ebn1).symm
  have fhc0 : bn1 = false := hc0
  refine sk ?_
  refine tn ?_
  refine sr ?_
  refine kO (OM.slice0 Try.underlying32 zo48 (by kernel_rfl) rfl (by rw [sz48]; decide) sz48) ?_
  refine mO (rd 4 eReport a) rfl ?_
  refine cO (B.append (rows := []) (rows2 := (a.map (eReport false))) (rows3 := (a.map (eReport true))) (VDst.own (tv (T.os 4 0 0 0) rfl) rfl rfl) (VSrc.read (tv (rd 4 eReport a) rfl) Try.underlying32 (okeReport.okMap _ _)) nofun Try.underlying32 sz48 (by decide) zo48 rfl (of_decide_eq_true (by kernel_rfl)) (by first | omega | (simp only [List.length_map]; omega) | (simp only [List.length_map, List.length_append, List.length_cons, List.length_nil, List.length_replicate, List.length_set, List.length_drop, List.length_take, lim] at *; omega)) (List.nil_append _)) ?_
  refine aO (T.os 4 1 0 ((a.map (eReport true)).length)) rfl ?_
  refine nt ?_
  refine rt ?_
  refine vfin.eq (r' := (T.sl true 4 (a.map (eReport true)))) ?_ (vfin.r (VRes.tmp (t := (T.os 4 1 0 ((a.map (eReport true)).length))) rfl VRes.nil) (Give.os rfl rfl (okeReport.cleanMap _)))
  rfl
theorem W_spec_AddReport (n : Nat) (l : List D.Report) (x : D.Report) (hl : l.length ≤ mx) (hz : zL zReport (l ++ [x]) ≤ 2 * mx) : Pure (acall Try.prog (n + 4)) 34 [(rd 4 eReport l), (T.agg (eReport false x))] (T.tup [(T.sl true 4 ((addRep l x).map (eReport true))), (tB (decide (areReports (l ++ [x]))))]) := by
  refine Pure.intro (rs := [ResultVar.tmp 4, ResultVar.tmp 5]) Try.func34 rfl rfl rfl (E0 := [(0, (rd 4 eReport l)), (1, (T.agg (eReport false x)))]) rfl ?_
  have hlim : lim = 1099511627776 := rfl
  have hmx : mx = 1048576 := rfl
  have hmax : maxLen = 9223372036854775807 := rfl
  refine sr ?_
  refine kO (B.box (ts := (eReport false x)) (tv (T.agg (eReport false x)) rfl) nofun rfl) ?_
  refine fO (OF.assign VEv.nils) ?_
  refine fO (OF.assign (VEv.bool false)) ?_
  refine nt ?_
  refine sq ?_
  refine VRun.draw (B := [[], [], [1, 0], [], [3], [3, 4, 0, 1, 2], [2, 1, 0, 4, 3, 5]]) (by kernel_rfl) (by kernel_rfl) ?_
  refine VRunD.make rfl VWant.always rfl (OM.slice0 Try.underlying32 zo48 (by kernel_rfl) rfl (by rw [sz48]; decide) sz48) ?_
  refine mD (rd 4 eReport l) rfl rfl ?_
  refine VRunD.quiet (bi := [1, 0]) rfl VWant.always rfl rfl rfl (ball_cons (Nat.le_of_ble_eq_true rfl) (ball_nil)) (B.append (rows := []) (rows2 := (l.map (eReport false))) (rows3 := (l.map (eReport true))) (VDst.own (tv (T.os 4 1 0 0) rfl) rfl rfl) (VSrc.read (tv (rd 4 eReport l) rfl) Try.underlying32 (okeReport.okMap _ _)) nofun Try.underlying32 sz48 (by decide) zo48 rfl (of_decide_eq_true (by kernel_rfl)) (by first | omega | (simp only [List.length_map]; omega) | (simp only [List.length_map, List.length_append, List.length_cons, List.length_nil, List.length_replicate, List.length_set, List.length_drop, List.length_take, lim] at *; omega)) (List.nil_append _)) ?_
  refine lD (OL.loadOn (us := (eReport false x)) (tv (T.op 0 0) rfl) rfl st48 sz48 (Nat.le_of_ble_eq_true rfl) rfl) rfl rfl ?_
  refine VRunD.make rfl VWant.always rfl (OM.buildSlice (l := [(T.agg (eReport false x))]) (VEvp.cons (tv (T.agg (eReport false x)) rfl) VEvp.nil) rfl (by decide) (ball_cons (nofun) (ball_nil)) (ball_cons ((ball_cons (rfl) (ball_cons (rfl) (ball_cons (rfl) (ball_cons (rfl) (ball_nil)))))) (ball_nil)) (ball_cons (rfl) (ball_nil)) Try.underlying32 zo48 (by kernel_rfl) rfl (by rw [sz48]; decide) sz48 (Nat.le_of_ble_eq_true rfl)) ?_
  refine VRunD.quiet (bi := [3, 4, 0, 1, 2]) rfl VWant.always rfl rfl rfl (ball_cons (Nat.le_of_ble_eq_true rfl) (ball_cons (Nat.le_of_ble_eq_true rfl) (ball_nil))) (B.append (rows := (l.map (eReport true))) (rows2 := [[(tI x.Tester), (tI x.Slot), (tI x.Kind), (tS x.Word)]]) (rows3 := ((l ++ [x]).map (eReport true))) (VDst.own (tv (T.os 4 2 0 ((l.map (eReport true)).length)) rfl) rfl rfl) (VSrc.own (tv (T.os 4 3 0 1) rfl) rfl rfl Try.underlying32 (ball_cons (ball_cons rfl (ball_cons rfl (ball_cons rfl (ball_cons rfl (ball_nil))))) (ball_nil))) (by decide) Try.underlying32 sz48 (by decide) zo48 rfl (of_decide_eq_true (by kernel_rfl)) (by first | omega | (simp only [List.length_map]; omega) | (simp only [List.length_map, List.length_append, List.length_cons, List.length_nil, List.length_replicate, List.length_set, List.length_drop, List.length_take, lim] at *; omega)) ((List.map_append (f := eReport true) (l₁ := l) (l₂ := [x])).symm)) ?_
  refine fD (OF.assign (tv (T.os 4 4 0 (((l ++ [x]).map (eReport true)).length)) rfl)) rfl rfl ?_
  refine VRunD.nil ?_
  refine tn ?_
  refine sq ?_
  refine sr ?_
  refine mO (T.os 4 4 0 (((l ++ [x]).map (eReport true)).length)) rfl ?_
  refine cO (cS (us := [(rd 4 eReport (l ++ [x]))]) (vc (tv (T.os 4 4 0 (((l ++ [x]).map (eReport true)).length)) rfl) VEvs.nil) (LendL.cons (Lend.os rfl rfl (okeReport.fzMap _ _)) (LendL.nil)) (W_spec_AreReports (n + 0) (l ++ [x]) (by first | assumption | omega)) rfl rfl) ?_
  refine fO (B.not (c := (!(decide (areReports (l ++ [x]))))) (tv (tB (decide (areReports (l ++ [x])))) rfl) rfl) ?_
  refine nt ?_
  refine VRun.cond (tv (tB (!(decide (areReports (l ++ [x]))))) rfl) (fun hc0 => ?_) (fun hc0 => ?_)
  · have fhc0 : ¬ (areReports (l ++ [x])) := ndT hc0
    refine sr ?_
    refine kO (OM.slice0 Try.underlying32 zo48 (by kernel_rfl) rfl (by rw [sz48]; decide) sz48) ?_
    refine mO (rd 4 eReport l) rfl ?_
    refine cO (B.append (rows := []) (rows2 := (l.map (eReport false))) (rows3 := (l.map (eReport true))) (VDst.own (tv (T.os 4 5 0 0) rfl) rfl rfl) (VSrc.read (tv (rd 4 eReport l) rfl) Try.underlying32 (okeReport.okMap _ _)) nofun Try.underlying32 sz48 (by decide) zo48 rfl (of_decide_eq_true (by kernel_rfl)) (by first | omega | (simp only [List.length_map]; omega) | (simp only [List.length_map, List.length_append, List.length_cons, List.length_nil, List.length_replicate, List.length_set, List.length_drop, List.length_take, lim] at *; omega)) (List.nil_append _)) ?_
    refine aO (T.os 4 6 0 ((l.map (eReport true)).length)) rfl ?_
    refine fO (OF.assign (VEv.bool false)) ?_
    refine nt ?_
    refine rt ?_
    refine tr ?_
    refine vfin.eq (r' := (T.tup [(T.sl true 4 (l.map (eReport true))), (tB false)])) ?_ (vfin.r (VRes.tmp (t := (T.os 4 6 0 ((l.map (eReport true)).length))) rfl (VRes.tmp (t := (tB false)) rfl VRes.nil)) (Give.tup (GiveL.cons (Give.os rfl rfl (okeReport.cleanMap _)) (GiveL.cons (Give.bool _) GiveL.nil (by decide)) (by decide))))
    show (T.tup [(T.sl true 4 (l.map (eReport true))), (tB false)]) = (T.tup [(T.sl true 4 ((addRep l x).map (eReport true))), (tB (decide (areReports (l ++ [x]))))])
    first | (rw [addRep, if_pos fhc0, decide_eq_true fhc0]) | (rw [addRep, if_neg fhc0, decide_eq_false fhc0])
  have fhc0 : areReports (l ++ [x]) := ndF hc0
  refine sk ?_
  refine tn ?_
  refine sr ?_
  refine mO (T.os 4 4 0 (((l ++ [x]).map (eReport true)).length)) rfl ?_
  refine aO (T.os 4 4 0 (((l ++ [x]).map (eReport true)).length)) rfl ?_
  refine fO (OF.assign (VEv.bool true)) ?_
  refine nt ?_
  refine rt ?_
  refine vfin.eq (r' := (T.tup [(T.sl true 4 ((l ++ [x]).map (eReport true))), (tB true)])) ?_ (vfin.r (VRes.tmp (t := (T.os 4 4 0 (((l ++ [x]).map (eReport true)).length))) rfl (VRes.tmp (t := (tB true)) rfl VRes.nil)) (Give.tup (GiveL.cons (Give.os rfl rfl (okeReport.cleanMap _)) (GiveL.cons (Give.bool _) GiveL.nil (by decide)) (by decide))))
  show (T.tup [(T.sl true 4 ((l ++ [x]).map (eReport true))), (tB true)]) = (T.tup [(T.sl true 4 ((addRep l x).map (eReport true))), (tB (decide (areReports (l ++ [x]))))])
  first | (rw [addRep, if_pos fhc0, decide_eq_true fhc0]) | (rw [addRep, if_neg fhc0, decide_eq_false fhc0])
theorem W_impl_AddReport (n : Nat) (l : List D.Report) (x : D.Report) (hl : l.length ≤ mx) (hz : zL zReport (l ++ [x]) ≤ 2 * mx) : Pure (acall Try.prog (n + 4)) 36 [(rd 4 eReport l), (T.agg (eReport false x))] (T.tup [(T.sl true 4 ((addRep l x).map (eReport true))), (tB (decide (areReports (l ++ [x]))))]) := by
  refine Pure.intro (rs := [ResultVar.tmp 4, ResultVar.tmp 5]) Try.func36 rfl rfl rfl (E0 := [(0, (rd 4 eReport l)), (1, (T.agg (eReport false x)))]) rfl ?_
  have hlim : lim = 1099511627776 := rfl
  have hmx : mx = 1048576 := rfl
  have hmax : maxLen = 9223372036854775807 := rfl
  refine sr ?_
  refine kO (B.box (ts := (eReport false x)) (tv (T.agg (eReport false x)) rfl) nofun rfl) ?_
  refine fO (OF.assign VEv.nils) ?_
  refine fO (OF.assign (VEv.bool false)) ?_
  refine nt ?_
  refine sq ?_
  refine VRun.draw (B := [[], [0], [], [2], [2, 3, 0, 1], [1, 0, 3, 2, 4]]) (by kernel_rfl) (by kernel_rfl) ?_
  refine mD (rd 4 eReport l) rfl rfl ?_
  refine VRunD.quiet (bi := [0]) rfl VWant.always rfl rfl rfl (ball_nil) (OC.callF (us := [(rd 4 eReport l)]) (r := (T.sl true 4 (l.map (eReport true)))) (r' := (T.os 4 1 0 ((l.map (eReport true)).length))) (objs := [(Obj.rows 4 (l.map (eReport true)))]) rfl (vc (tv (rd 4 eReport l) rfl) VEvs.nil) (lp rfl (LendL.nil)) (W_slices_Clone_impl_Report_impl_Report_ (n + 2) l (by first | assumption | omega)) rfl) ?_
  refine lD (OL.loadOn (us := (eReport false x)) (tv (T.op 0 0) rfl) rfl st48 sz48 (Nat.le_of_ble_eq_true rfl) rfl) rfl rfl ?_
  refine VRunD.make rfl VWant.always rfl (OM.buildSlice (l := [(T.agg (eReport false x))]) (VEvp.cons (tv (T.agg (eReport false x)) rfl) VEvp.nil) rfl (by decide) (ball_cons (nofun) (ball_nil)) (ball_cons ((ball_cons (rfl) (ball_cons (rfl) (ball_cons (rfl) (ball_cons (rfl) (ball_nil)))))) (ball_nil)) (ball_cons (rfl) (ball_nil)) Try.underlying32 zo48 (by kernel_rfl) rfl (by rw [sz48]; decide) sz48 (Nat.le_of_ble_eq_true rfl)) ?_
  refine VRunD.quiet (bi := [2, 3, 0, 1]) rfl VWant.always rfl rfl rfl (ball_cons (Nat.le_of_ble_eq_true rfl) (ball_cons (Nat.le_of_ble_eq_true rfl) (ball_nil))) (B.append (rows := (l.map (eReport true))) (rows2 := [[(tI x.Tester), (tI x.Slot), (tI x.Kind), (tS x.Word)]]) (rows3 := ((l ++ [x]).map (eReport true))) (VDst.own (tv (T.os 4 1 0 ((l.map (eReport true)).length)) rfl) rfl rfl) (VSrc.own (tv (T.os 4 2 0 1) rfl) rfl rfl Try.underlying32 (ball_cons (ball_cons rfl (ball_cons rfl (ball_cons rfl (ball_cons rfl (ball_nil))))) (ball_nil))) (by decide) Try.underlying32 sz48 (by decide) zo48 rfl (of_decide_eq_true (by kernel_rfl)) (by first | omega | (simp only [List.length_map]; omega) | (simp only [List.length_map, List.length_append, List.length_cons, List.length_nil, List.length_replicate, List.length_set, List.length_drop, List.length_take, lim] at *; omega)) ((List.map_append (f := eReport true) (l₁ := l) (l₂ := [x])).symm)) ?_
  refine fD (OF.assign (tv (T.os 4 3 0 (((l ++ [x]).map (eReport true)).length)) rfl)) rfl rfl ?_
  refine VRunD.nil ?_
  refine tn ?_
  refine sq ?_
  refine sr ?_
  refine mO (T.os 4 3 0 (((l ++ [x]).map (eReport true)).length)) rfl ?_
  refine cO (cS (us := [(rd 4 eReport (l ++ [x]))]) (vc (tv (T.os 4 3 0 (((l ++ [x]).map (eReport true)).length)) rfl) VEvs.nil) (LendL.cons (Lend.os rfl rfl (okeReport.fzMap _ _)) (LendL.nil)) (W_impl_AreReports (n + 0) (l ++ [x]) (by first | assumption | omega)) rfl rfl) ?_
  refine fO (B.not (c := (!(decide (areReports (l ++ [x]))))) (tv (tB (decide (areReports (l ++ [x])))) rfl) rfl) ?_
  refine nt ?_
  refine VRun.cond (tv (tB (!(decide (areReports (l ++ [x]))))) rfl) (fun hc0 => ?_) (fun hc0 => ?_)
  · have fhc0 : ¬ (areReports (l ++ [x])) := ndT hc0
    refine sr ?_
    refine mO (rd 4 eReport l) rfl ?_
    refine cO (OC.callF (us := [(rd 4 eReport l)]) (r := (T.sl true 4 (l.map (eReport true)))) (r' := (T.os 4 4 0 ((l.map (eReport true)).length))) (objs := [(Obj.rows 4 (l.map (eReport true)))]) rfl (vc (tv (rd 4 eReport l) rfl) VEvs.nil) (lp rfl (LendL.nil)) (W_slices_Clone_impl_Report_impl_Report_ (n + 2) l (by first | assumption | omega)) rfl) ?_
    refine aO (T.os 4 4 0 ((l.map (eReport true)).length)) rfl ?_
    refine fO (OF.assign (VEv.bool false)) ?_
    refine nt ?_
    refine rt ?_
    refine tr ?_
    refine vfin.eq (r' := (T.tup [(T.sl true 4 (l.map (eReport true))), (tB false)])) ?_ (vfin.r (VRes.tmp (t := (T.os 4 4 0 ((l.map (eReport true)).length))) rfl (VRes.tmp (t := (tB false)) rfl VRes.nil)) (Give.tup (GiveL.cons (Give.os rfl rfl (okeReport.cleanMap _)) (GiveL.cons (Give.bool _) GiveL.nil (by decide)) (by decide))))
    show (T.tup [(T.sl true 4 (l.map (eReport true))), (tB false)]) = (T.tup [(T.sl true 4 ((addRep l x).map (eReport true))), (tB (decide (areReports (l ++ [x]))))])
    first | (rw [addRep, if_pos fhc0, decide_eq_true fhc0]) | (rw [addRep, if_neg fhc0, decide_eq_false fhc0])
  have fhc0 : areReports (l ++ [x]) := ndF hc0
  refine sk ?_
  refine tn ?_
  refine sr ?_
  refine mO (T.os 4 3 0 (((l ++ [x]).map (eReport true)).length)) rfl ?_
  refine aO (T.os 4 3 0 (((l ++ [x]).map (eReport true)).length)) rfl ?_
  refine fO (OF.assign (VEv.bool true)) ?_
  refine nt ?_
  refine rt ?_
  refine vfin.eq (r' := (T.tup [(T.sl true 4 ((l ++ [x]).map (eReport true))), (tB true)])) ?_ (vfin.r (VRes.tmp (t := (T.os 4 3 0 (((l ++ [x]).map (eReport true)).length))) rfl (VRes.tmp (t := (tB true)) rfl VRes.nil)) (Give.tup (GiveL.cons (Give.os rfl rfl (okeReport.cleanMap _)) (GiveL.cons (Give.bool _) GiveL.nil (by decide)) (by decide))))
  show (T.tup [(T.sl true 4 ((l ++ [x]).map (eReport true))), (tB true)]) = (T.tup [(T.sl true 4 ((addRep l x).map (eReport true))), (tB (decide (areReports (l ++ [x]))))])
  first | (rw [addRep, if_pos fhc0, decide_eq_true fhc0]) | (rw [addRep, if_neg fhc0, decide_eq_false fhc0])
end Go.Proofs.Ythdnjihmjdbdkaa.AE
