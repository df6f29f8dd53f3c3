/- Walks of the program's functions over trees. Conditions: as each theorem states. -/
import Derived.Test.YthdnjihmjdbdkaaKFnExactAreReportsVa
namespace Go.Proofs.Ythdnjihmjdbdkaa.AE
open Go Go.RowKit
set_option linter.unusedVariables false
set_option linter.unusedSimpArgs false
set_option maxRecDepth 20000
set_option maxHeartbeats 2000000

noncomputable section
def bUse (a b : D.Used) : Bool := decide (a.Issue < b.Issue ∨ (a.Issue = b.Issue ∧ bWord a.Word b.Word = true))
def useOk (l : List D.Used) (j : Nat) : Prop := ∃ x, l[j]? = some x ∧ isWord x.Word ∧ (1 ≤ x.Issue ∧ x.Issue ≤ 999) ∧ (0 < j → ∃ y, l[j - 1]? = some y ∧ bUse y x = true)
def areUses (l : List D.Used) : Prop := l.length ≤ 60 ∧ ∀ j, j < l.length → useOk l j
instance (l : List D.Used) : Decidable (areUses l) := Classical.propDecidable _
def repOk (l : List D.Report) (j : Nat) : Prop := ∃ x, l[j]? = some x ∧ (1 ≤ x.Tester ∧ x.Tester ≤ 9) ∧ (0 ≤ x.Slot ∧ x.Slot ≤ 99) ∧ (1 ≤ x.Kind ∧ x.Kind ≤ 3) ∧ (x.Kind = 3 → x.Word = (⟨#[]⟩ : ByteArray)) ∧ (¬ x.Kind = 3 → isWord x.Word) ∧ ∀ k, k < j → l[k]? ≠ some x
def areReports (l : List D.Report) : Prop := l.length ≤ 30 ∧ ∀ j, j < l.length → repOk l j
instance (l : List D.Report) : Decidable (areReports l) := Classical.propDecidable _
end
theorem W_slices_Index_impl_Report_impl_Report_ (n : Nat) (a : List D.Report) (b : D.Report) (ha : a.length ≤ lim) : Pure (acall Try.prog (n + 1)) 131 [(T.sl false 4 (a.map (eReport false))), (T.agg (eReport false b))] (T.int .i64 (ixF (fun y => b = y) a)) := by
  refine Pure.intro (rs := [ResultVar.tmp 4]) Try.func131 rfl rfl rfl (E0 := [(0, (T.sl false 4 (a.map (eReport false)))), (1, (T.agg (eReport false b)))]) rfl ?_
  have hlim : lim = 1099511627776 := rfl
  have hmx : mx = 1048576 := rfl
  have hmax : maxLen = 9223372036854775807 := rfl
  refine VRun.seq ?_
  refine VRun.region ?_
  refine VRunO.make VWant.always (B.box (ts := [(T.int .i64 b.Tester), (T.int .i64 b.Slot), (T.int .i64 b.Kind), (T.str b.Word)]) (VEv.tmp (t := (T.agg (eReport false b))) rfl) nofun rfl) ?_
  refine VRunO.free VWant.always (OF.assign (VEv.int .i64 0)) ?_
  refine VRunO.nil ?_
  refine vthn.n ?_
  refine VRun.seq ?_
  refine VRun.seq ?_
  refine VRun.region ?_
  refine VRunO.free VWant.always (OF.move (VEv.tmp (t := (T.sl false 4 (a.map (eReport false)))) rfl)) ?_
  refine VRunO.look VWant.always (B.lenR (m := a.length) (VEv.tmp (t := (T.sl false 4 (a.map (eReport false)))) rfl) Try.underlying32 (List.length_map ..)) ?_
  refine VRunO.free VWant.always (OF.move (VEv.int .i64 0)) ?_
  refine VRunO.nil ?_
  refine vthn.n ?_
  refine VRun.block ?_
  refine VRun.loop (A := Nat) (fun s_ => [(0, (T.sl false 4 (a.map (eReport false)))), (3, (T.op 0 0)), (7, (T.int .i64 ((a.length : Nat) : Int))), (8, (T.int .i64 ((s_ : Nat) : Int)))]) (fun s_ => mkO [(0, (Obj.cells [(T.int .i64 b.Tester), (T.int .i64 b.Slot), (T.int .i64 b.Kind), (T.str b.Word)]))]) 1 (fun s_ => NoneTo (fun y => b = y) a s_) (fun s_ => a.length - s_) (0 : Nat) ?_ (Wk.mk (fun k => k) ?_ ?_ ?_) ?_
  · exact NoneTo.start _ _
  · exact (ball_cons ⟨rfl, rfl⟩ (ball_cons ⟨rfl, rfl⟩ (ball_cons ⟨rfl, rfl⟩ (ball_cons ⟨(congrArg (T.int .i64) (show 0 = ((0 : Nat) : Int) from (by first | rfl | omega | (simp; done) | (push_cast; omega)))), rfl⟩ (ball_nil)))))
  · exact (ball_cons ⟨rfl, (Nat.le_of_ble_eq_true rfl), rfl⟩ (ball_nil))
  · show List.Nodup ([0] : List Nat)
    decide
  · rintro i hI
    have hI' : NoneTo (fun y => b = y) a i := hI
    clear hI
    show VRun _ _ _ [(0, (T.sl false 4 (a.map (eReport false)))), (3, (T.op 0 0)), (7, (T.int .i64 ((a.length : Nat) : Int))), (8, (T.int .i64 ((i : Nat) : Int)))] (mkO [(0, (Obj.cells [(T.int .i64 b.Tester), (T.int .i64 b.Slot), (T.int .i64 b.Kind), (T.str b.Word)]))]) 1 _
    have hI1 := hI'.1
    refine VRun.seq ?_
    refine VRun.region ?_
    refine VRunO.free VWant.always (B.lss (c := (decide (i < a.length))) (VEv.tmp (t := (T.int .i64 ((i : Nat) : Int))) rfl) (VEv.tmp (t := (T.int .i64 ((a.length : Nat) : Int))) rfl) (by first | (exact decN (by omega)))) ?_
    refine VRunO.nil ?_
    refine vthn.n ?_
    refine VRun.seq ?_
    refine VRun.cond (VEv.tmp (t := (T.bool (decide (i < a.length)))) rfl) (fun hc0 => ?_) (fun hc0 => ?_)
    · have fhc0 : i < a.length := of_decide_eq_true hc0
      refine VRun.skip ?_
      refine vthn.n ?_
      refine VRun.seq ?_
      refine VRun.block ?_
      refine VRun.seq ?_
      refine VRun.region ?_
      refine VRunO.free VWant.always (OF.move (VEv.tmp (t := (T.int .i64 ((i : Nat) : Int))) rfl)) ?_
      refine VRunO.free VWant.always (OF.assign (VEv.tmp (t := (T.int .i64 ((i : Nat) : Int))) rfl)) ?_
      refine VRunO.nil ?_
      refine vthn.n ?_
      refine VRun.seq ?_
      refine VRun.draw (B := [[], [], [], [2, 1], [1, 2, 3], [3, 2, 1, 4, 0]]) (by kernel_rfl) (by kernel_rfl) ?_
      refine VRunD.look rfl VWant.always rfl (OL.loadOn (us := (eReport false b)) (VEv.tmp (t := (T.op 0 0)) rfl) rfl st48 sz48 (Nat.le_of_ble_eq_true rfl) rfl) ?_
      refine VRunD.free rfl VWant.always rfl (OF.move (VEv.tmp (t := (T.sl false 4 (a.map (eReport false)))) rfl)) ?_
      refine VRunD.free rfl VWant.always rfl (OF.move (VEv.tmp (t := (T.int .i64 ((i : Nat) : Int))) rfl)) ?_
      obtain ⟨x1, hx1⟩ : ∃ x, a[i]? = some x := ⟨_, List.getElem?_eq_getElem (by first | omega | (simp only [List.length_map]; omega) | (simp only [List.length_map, List.length_append, List.length_cons, List.length_nil, List.length_replicate, List.length_set, List.length_drop, List.length_take, lim] at *; omega))⟩
      refine VRunD.free rfl VWant.always rfl (OF.indexAddrR (row := (eReport false x1)) (i := i) (VEv.tmp (t := (T.sl false 4 (a.map (eReport false)))) rfl) (VEv.tmp (t := (T.int .i64 ((i : Nat) : Int))) rfl) rfl (map_at _ hx1) Try.underlying32 sz48 if48) ?_
      refine VRunD.look rfl VWant.always rfl (OL.loadRn (us := (eReport false x1)) (VEv.tmp (t := (T.rp [(T.int .i64 x1.Tester), (T.int .i64 x1.Slot), (T.int .i64 x1.Kind), (T.str x1.Word)])) rfl) st48 sz48 (Nat.le_of_ble_eq_true rfl) rfl) ?_
      refine VRunD.free rfl VWant.always rfl (B.eql48 (a := b) (b := x1) (m := false) (m' := false) (VEv.tmp (t := (T.agg (eReport false b))) rfl) (VEv.tmp (t := (T.agg (eReport false x1))) rfl)) ?_
      refine VRunD.nil ?_
      refine vthn.n ?_
      refine VRun.cond (VEv.tmp (t := (T.bool (decide (b = x1)))) rfl) (fun hc1 => ?_) (fun hc1 => ?_)
      · have fhc1 : b = x1 := of_decide_eq_true hc1
        refine VRun.seq ?_
        refine VRun.region ?_
        refine VRunO.free VWant.always (OF.move (VEv.tmp (t := (T.int .i64 ((i : Nat) : Int))) rfl)) ?_
        refine VRunO.free VWant.always (OF.assign (VEv.tmp (t := (T.int .i64 ((i : Nat) : Int))) rfl)) ?_
        refine VRunO.nil ?_
        refine vthn.n ?_
        refine VRun.ret ?_
        refine vinB.r ?_
        refine vthn.r ?_
        refine vthn.r ?_
        refine vinB.r ?_
        refine vthn.r ?_
        refine vfin.eq (r' := (T.int .i64 ((i : Nat) : Int))) ?_ (vfin.r (VRes.tmp (t := (T.int .i64 ((i : Nat) : Int))) rfl VRes.nil) (Give.int _ _))
        show (T.int .i64 ((i : Nat) : Int)) = (T.int .i64 (ixF (fun y => b = y) a))
        refine congrArg (T.int .i64) ?_
        exact (ixF_found hx1 fhc1 hI'.2).symm
      · have fhc1 : ¬ (b = x1) := of_decide_eq_false hc1
        refine VRun.skip ?_
        refine vinB.n ?_
        refine vthn.n ?_
        refine VRun.region ?_
        refine VRunO.free VWant.always (B.add (n := (((i + 1) : Nat) : Int)) (VEv.tmp (t := (T.int .i64 ((i : Nat) : Int))) rfl) (VEv.int .i64 1) (by first | rfl | (rw [wrap64 (by omega)]; done) | (rw [wrap64 (by omega)]; omega) | (rw [wrap64 (by omega)]; push_cast; omega) | omega)) ?_
        refine VRunO.free VWant.always (OF.move (VEv.tmp (t := (T.int .i64 (((i + 1) : Nat) : Int))) rfl)) ?_
        refine VRunO.nil ?_
        refine vthn.n ?_
        refine ⟨(i + 1 : Nat), ?_, ?_, Wk.mk (fun k => k) ?_ ?_ ?_⟩
        · exact hI'.next hx1 fhc1
        · first | omega | (simp only []; omega) | (show _ < _; omega) | (simp; omega)
        · exact (ball_cons ⟨rfl, rfl⟩ (ball_cons ⟨rfl, rfl⟩ (ball_cons ⟨rfl, rfl⟩ (ball_cons ⟨rfl, rfl⟩ (ball_nil)))))
        · exact (ball_cons ⟨rfl, (Nat.le_of_ble_eq_true rfl), rfl⟩ (ball_nil))
        · show List.Nodup ([0] : List Nat)
          decide
    · have fhc0 : ¬ (i < a.length) := of_decide_eq_false hc0
      refine VRun.exit ?_
      refine vthn.e ?_
      refine vthn.e ?_
      refine vinB.e ?_
      refine vthn.n ?_
      refine VRun.seq ?_
      refine VRun.region ?_
      refine VRunO.free VWant.always (OF.assign (VEv.int .i64 (-1))) ?_
      refine VRunO.nil ?_
      refine vthn.n ?_
      refine VRun.ret ?_
      refine vfin.eq (r' := (T.int .i64 (-1))) ?_ (vfin.r (VRes.tmp (t := (T.int .i64 (-1))) rfl VRes.nil) (Give.int _ _))
      show (T.int .i64 (-1)) = (T.int .i64 (ixF (fun y => b = y) a))
      refine congrArg (T.int .i64) ?_
      exact (ixF_none (hI'.all fhc0)).symm
theorem W_slices_Contains_impl_Report_impl_Report_ (n : Nat) (a : List D.Report) (b : D.Report) (ha : a.length ≤ lim) : Pure (acall Try.prog (n + 2)) 87 [(T.sl false 4 (a.map (eReport false))), (T.agg (eReport false b))] (T.bool (decide (b ∈ a))) := by
  refine Pure.intro (rs := [ResultVar.tmp 4]) Try.func87 rfl rfl rfl (E0 := [(0, (T.sl false 4 (a.map (eReport false)))), (1, (T.agg (eReport false b)))]) rfl ?_
  have hlim : lim = 1099511627776 := rfl
  have hmx : mx = 1048576 := rfl
  have hmax : maxLen = 9223372036854775807 := rfl
  refine VRun.seq ?_
  refine VRun.region ?_
  refine VRunO.make VWant.always (B.box (ts := [(T.int .i64 b.Tester), (T.int .i64 b.Slot), (T.int .i64 b.Kind), (T.str b.Word)]) (VEv.tmp (t := (T.agg (eReport false b))) rfl) nofun rfl) ?_
  refine VRunO.free VWant.always (OF.assign (VEv.bool false)) ?_
  refine VRunO.nil ?_
  refine vthn.n ?_
  refine VRun.seq ?_
  refine VRun.region ?_
  refine VRunO.free VWant.always (OF.move (VEv.tmp (t := (T.sl false 4 (a.map (eReport false)))) rfl)) ?_
  refine VRunO.look VWant.always (OL.loadOn (us := (eReport false b)) (VEv.tmp (t := (T.op 0 0)) rfl) rfl st48 sz48 (Nat.le_of_ble_eq_true rfl) rfl) ?_
  refine VRunO.chain VWant.always (OC.callF (us := [(T.sl false 4 (a.map (eReport false))), (T.agg (eReport false b))]) (r := (T.int .i64 (ixF (fun y => b = y) a))) (r' := (T.int .i64 (ixF (fun y => b = y) a))) (objs := []) rfl (VEvs.cons (VEv.tmp (t := (T.sl false 4 (a.map (eReport false)))) rfl) (VEvs.cons (VEv.tmp (t := (T.agg (eReport false b))) rfl) VEvs.nil)) (LendL.cons (Lend.pl rfl) (LendL.cons (Lend.agg (LendL.cons (Lend.pl rfl) (LendL.cons (Lend.pl rfl) (LendL.cons (Lend.pl rfl) (LendL.cons (Lend.pl rfl) (LendL.nil)))))) (LendL.nil))) (W_slices_Index_impl_Report_impl_Report_ (n + 0) a b (by first | assumption | omega | (simp only [List.length_map]; omega) | (simp only [List.length_map, List.length_append, List.length_cons, List.length_nil, List.length_replicate, List.length_set, List.length_drop, List.length_take, lim] at *; omega))) rfl) ?_
  refine VRunO.free VWant.always (B.geq (c := (decide (0 ≤ ixF (fun y => b = y) a))) (VEv.tmp (t := (T.int .i64 (ixF (fun y => b = y) a))) rfl) (VEv.int .i64 0) rfl) ?_
  refine VRunO.free VWant.always (OF.assign (VEv.tmp (t := (T.bool (decide (0 ≤ ixF (fun y => b = y) a)))) rfl)) ?_
  refine VRunO.nil ?_
  refine vthn.n ?_
  refine VRun.ret ?_
  refine vfin.eq (r' := (T.bool (decide (0 ≤ ixF (fun y => b = y) a)))) ?_ (vfin.r (VRes.tmp (t := (T.bool (decide (0 ≤ ixF (fun y => b = y) a)))) rfl VRes.nil) (Give.bool _))
  show (T.bool (decide (0 ≤ ixF (fun y => b = y) a))) = (T.bool (decide (b ∈ a)))
  refine congrArg T.bool ?_
  refine decN ?_
  rw [ixF_nn]
  exact ⟨fun ⟨x, h1, h2⟩ => h2 ▸ h1, fun h => ⟨b, h, rfl⟩⟩
theorem W_spec_AreReports (n : Nat) (a : List D.Report) (hz : zL zReport a ≤ mx) : Pure (acall Try.prog (n + 3)) 21 [(T.sl false 4 (a.map (eReport false)))] (T.bool (decide (areReports a))) := by
  refine Pure.intro (rs := [ResultVar.tmp 2]) Try.func21 rfl rfl rfl (E0 := [(0, (T.sl false 4 (a.map (eReport false))))]) rfl ?_
  have hlim : lim = 1099511627776 := rfl
  have hmx : mx = 1048576 := rfl
  have hmax : maxLen = 9223372036854775807 := rfl
  have ha := zL_len (z := zReport) a
  have hw : ∀ x ∈ a, x.Word.size ≤ maxLen := fun x hx => by have h1 := zL_mem (z := zReport) hx; simp only [zReport] at h1; omega
  refine VRun.seq ?_
  refine VRun.region ?_
  refine VRunO.free VWant.always (OF.assign (VEv.bool false)) ?_
  refine VRunO.nil ?_
  refine vthn.n ?_
  refine VRun.seq ?_
  refine VRun.seq ?_
  refine VRun.region ?_
  refine VRunO.free VWant.always (OF.assign (VEv.int .i64 0)) ?_
  refine VRunO.nil ?_
  refine vthn.n ?_
  refine VRun.block ?_
  refine VRun.loop (A := Nat) (fun s_ => [(0, (T.sl false 4 (a.map (eReport false)))), (3, (T.int .i64 ((s_ : Nat) : Int)))]) (fun s_ => mkO []) 0 (fun s_ => s_ ≤ a.length ∧ ∀ j, j < s_ → repOk a j) (fun s_ => a.length - s_) (0 : Nat) ?_ (Wk.mk (fun k => k) ?_ ?_ ?_) ?_
  · exact ⟨Nat.zero_le _, fun j hj => by omega⟩
  · exact (ball_cons ⟨rfl, rfl⟩ (ball_cons ⟨(congrArg (T.int .i64) (show 0 = ((0 : Nat) : Int) from (by first | rfl | omega | (simp; done) | (push_cast; omega)))), rfl⟩ (ball_nil)))
  · exact (ball_nil)
  · show List.Nodup ([] : List Nat)
    decide
  · rintro i hI
    have hI' : i ≤ a.length ∧ ∀ j, j < i → repOk a j := hI
    clear hI
    show VRun _ _ _ [(0, (T.sl false 4 (a.map (eReport false)))), (3, (T.int .i64 ((i : Nat) : Int)))] (mkO []) 0 _
    have hI0 := hI'
    refine VRun.seq ?_
    refine VRun.seq ?_
    refine VRun.region ?_
    refine VRunO.free VWant.always (OF.move (VEv.tmp (t := (T.int .i64 ((i : Nat) : Int))) rfl)) ?_
    refine VRunO.free VWant.always (OF.move (VEv.tmp (t := (T.sl false 4 (a.map (eReport false)))) rfl)) ?_
    refine VRunO.look VWant.always (B.lenR (m := a.length) (VEv.tmp (t := (T.sl false 4 (a.map (eReport false)))) rfl) Try.underlying32 (List.length_map ..)) ?_
    refine VRunO.free VWant.always (B.lss (c := (decide (i < a.length))) (VEv.tmp (t := (T.int .i64 ((i : Nat) : Int))) rfl) (VEv.tmp (t := (T.int .i64 ((a.length : Nat) : Int))) rfl) (by first | exact hw _ (List.mem_of_getElem? hx1) | (exact decN (by omega)))) ?_
    refine VRunO.nil ?_
    refine vthn.n ?_
    refine VRun.cond (VEv.tmp (t := (T.bool (decide (i < a.length)))) rfl) (fun hc0 => ?_) (fun hc0 => ?_)
    · have fhc0 : i < a.length := of_decide_eq_true hc0
      refine VRun.skip ?_
      refine vthn.n ?_
      refine VRun.seq ?_
      refine VRun.block ?_
      refine VRun.seq ?_
      refine VRun.region ?_
      refine VRunO.free VWant.always (OF.move (VEv.tmp (t := (T.sl false 4 (a.map (eReport false)))) rfl)) ?_
      refine VRunO.free VWant.always (OF.move (VEv.tmp (t := (T.int .i64 ((i : Nat) : Int))) rfl)) ?_
      obtain ⟨x1, hx1⟩ : ∃ x, a[i]? = some x := ⟨_, List.getElem?_eq_getElem (by first | exact hw _ (List.mem_of_getElem? hx1) | omega | (simp only [List.length_map]; omega) | (simp only [List.length_map, List.length_append, List.length_cons, List.length_nil, List.length_replicate, List.length_set, List.length_drop, List.length_take, lim] at *; omega))⟩
      refine VRunO.free VWant.always (OF.indexAddrR (row := (eReport false x1)) (i := i) (VEv.tmp (t := (T.sl false 4 (a.map (eReport false)))) rfl) (VEv.tmp (t := (T.int .i64 ((i : Nat) : Int))) rfl) rfl (map_at _ hx1) Try.underlying32 sz48 if48) ?_
      refine VRunO.look VWant.always (OL.loadRn (us := (eReport false x1)) (VEv.tmp (t := (T.rp [(T.int .i64 x1.Tester), (T.int .i64 x1.Slot), (T.int .i64 x1.Kind), (T.str x1.Word)])) rfl) st48 sz48 (Nat.le_of_ble_eq_true rfl) rfl) ?_
      refine VRunO.make VWant.always (B.alloc (t := (T.agg [(T.int .i64 0), (T.int .i64 0), (T.int .i64 0), (T.str ByteArray.empty)])) (ts := [(T.int .i64 0), (T.int .i64 0), (T.int .i64 0), (T.str ByteArray.empty)]) zo48 zc48 nofun (fun _ => .agg _ _ rfl (RLof (RL.cons (.int _ _) (RL.cons (.int _ _) (RL.cons (.int _ _) (RL.cons (.str _) (RL.nil _))))))) rfl) ?_
      refine VRunO.chain VWant.always (B.storeO (us := [(T.int .i64 x1.Tester), (T.int .i64 x1.Slot), (T.int .i64 x1.Kind), (T.str x1.Word)]) (ws := [(T.int .i64 x1.Tester), (T.int .i64 x1.Slot), (T.int .i64 x1.Kind), (T.str x1.Word)]) (VEv.tmp (t := (T.op 0 0)) rfl) (VEv.tmp (t := (T.agg (eReport false x1))) rfl) nofun rfl rfl (Nat.le_of_ble_eq_true rfl) if48 sz48 (ball_cons rfl (ball_cons rfl (ball_cons rfl (ball_cons rfl (ball_nil))))) rfl) ?_
      refine VRunO.nil ?_
      refine vthn.n ?_
      refine VRun.seq ?_
      refine VRun.seq ?_
      refine VRun.region ?_
      refine VRunO.free VWant.always (OF.fieldAddrO (VEv.tmp (t := (T.op 0 0)) rfl) fa48_0) ?_
      refine VRunO.look VWant.always (OL.loadO1 (t := (T.int .i64 x1.Tester)) (VEv.tmp (t := (T.op 0 0)) rfl) rfl rfl st3) ?_
      refine VRunO.chain VWant.always (OC.callF (us := [(T.int .i64 x1.Tester), (T.int .i64 1), (T.int .i64 9)]) (r := (T.bool (decide (1 ≤ x1.Tester ∧ x1.Tester ≤ 9)))) (r' := (T.bool (decide (1 ≤ x1.Tester ∧ x1.Tester ≤ 9)))) (objs := []) rfl (VEvs.cons (VEv.tmp (t := (T.int .i64 x1.Tester)) rfl) (VEvs.cons (VEv.int .i64 1) (VEvs.cons (VEv.int .i64 9) VEvs.nil))) (LendL.cons (Lend.pl rfl) (LendL.cons (Lend.pl rfl) (LendL.cons (Lend.pl rfl) (LendL.nil)))) (W_spec_l1In (n + 1) x1.Tester 1 9 ) rfl) ?_
      refine VRunO.free VWant.always (B.not (c := (!(decide (1 ≤ x1.Tester ∧ x1.Tester ≤ 9)))) (VEv.tmp (t := (T.bool (decide (1 ≤ x1.Tester ∧ x1.Tester ≤ 9)))) rfl) rfl) ?_
      refine VRunO.free VWant.always (OF.move (VEv.tmp (t := (T.bool (!(decide (1 ≤ x1.Tester ∧ x1.Tester ≤ 9))))) rfl)) ?_
      refine bool_way (!(decide (1 ≤ x1.Tester ∧ x1.Tester ≤ 9))) (fun hg20_1 => ?_) (fun hg20_1 => ?_)
      · have fhg20_1 : ¬ (1 ≤ x1.Tester ∧ x1.Tester ≤ 9) := ndT hg20_1
        refine VRunO.off (VWant.not (b := (!(decide (1 ≤ x1.Tester ∧ x1.Tester ≤ 9)))) rfl rfl hg20_1) ?_
        refine VRunO.off (VWant.not (b := (!(decide (1 ≤ x1.Tester ∧ x1.Tester ≤ 9)))) rfl rfl hg20_1) ?_
        refine VRunO.off (VWant.not (b := (!(decide (1 ≤ x1.Tester ∧ x1.Tester ≤ 9)))) rfl rfl hg20_1) ?_
        refine VRunO.off (VWant.not (b := (!(decide (1 ≤ x1.Tester ∧ x1.Tester ≤ 9)))) rfl rfl hg20_1) ?_
        refine VRunO.free VWant.always (OF.pickT (VEv.tmpB (b := (!(decide (1 ≤ x1.Tester ∧ x1.Tester ≤ 9)))) rfl hg20_1) (VEv.bool true)) ?_
        refine VRunO.free VWant.always (OF.move (VEv.tmp (t := (T.bool true)) rfl)) ?_
        refine VRunO.off (VWant.not (b := true) rfl rfl rfl) ?_
        refine VRunO.off (VWant.not (b := true) rfl rfl rfl) ?_
        refine VRunO.off (VWant.not (b := true) rfl rfl rfl) ?_
        refine VRunO.off (VWant.not (b := true) rfl rfl rfl) ?_
        refine VRunO.free VWant.always (OF.pickT (VEv.tmp (t := (T.bool true)) rfl) (VEv.bool true)) ?_
        refine VRunO.free VWant.always (OF.move (VEv.tmp (t := (T.bool true)) rfl)) ?_
        refine VRunO.off (VWant.not (b := true) rfl rfl rfl) ?_
        refine VRunO.off (VWant.not (b := true) rfl rfl rfl) ?_
        refine VRunO.off (VWant.not (b := true) rfl rfl rfl) ?_
        refine VRunO.off (VWant.not (b := true) rfl rfl rfl) ?_
        refine VRunO.off (VWant.undef rfl rfl) ?_
        refine VRunO.off (VWant.undef rfl rfl) ?_
        refine VRunO.off (VWant.undef rfl rfl) ?_
        refine VRunO.off (VWant.not (b := true) rfl rfl rfl) ?_
        refine VRunO.free VWant.always (OF.pickT (VEv.tmp (t := (T.bool true)) rfl) (VEv.bool true)) ?_
        refine VRunO.free VWant.always (OF.move (VEv.tmp (t := (T.bool true)) rfl)) ?_
        refine VRunO.off (VWant.not (b := true) rfl rfl rfl) ?_
        refine VRunO.off (VWant.not (b := true) rfl rfl rfl) ?_
        refine VRunO.off (VWant.not (b := true) rfl rfl rfl) ?_
        refine VRunO.off (VWant.not (b := true) rfl rfl rfl) ?_
        refine VRunO.off (VWant.undef rfl rfl) ?_
        refine VRunO.off (VWant.undef rfl rfl) ?_
        refine VRunO.off (VWant.undef rfl rfl) ?_
        refine VRunO.off (VWant.undef rfl rfl) ?_
        refine VRunO.off (VWant.not (b := true) rfl rfl rfl) ?_
        refine VRunO.free VWant.always (OF.pickT (VEv.tmp (t := (T.bool true)) rfl) (VEv.bool true)) ?_
        refine VRunO.nil ?_
        refine vthn.n ?_
        refine VRun.cond (VEv.tmp (t := (T.bool true)) rfl) (fun hk2 => ?_) (fun hk2 => ?_)
        · skip
          refine VRun.seq ?_
          refine VRun.region ?_
          refine VRunO.free VWant.always (OF.assign (VEv.bool false)) ?_
          refine VRunO.nil ?_
          refine vthn.n ?_
          refine VRun.ret ?_
          refine vthn.r ?_
          refine vinB.r ?_
          refine vthn.r ?_
          refine vthn.r ?_
          refine vinB.r ?_
          refine vthn.r ?_
          refine vfin.eq (r' := (T.bool false)) ?_ (vfin.r (VRes.tmp (t := (T.bool false)) rfl VRes.nil) (Give.bool _))
          show (T.bool false) = (T.bool (decide (areReports a)))
          refine congrArg T.bool ?_
          first | (refine decN ⟨fun h => ⟨by omega, allEnd hI' fhc0⟩, fun h => by have := h.1; omega⟩) | (symm; rw [decide_eq_false_iff_not]; rintro ⟨_, h2⟩; obtain ⟨y, hy, h3, h4, h5, h6, h7, h8⟩ := h2 i fhc0; obtain rfl := same_at hx1 hy; first | omega | (simp_all; done) | (exact h8 k fhc2 (fhc3 ▸ hx2)))
        · exact absurd (rfl.symm.trans hk2) (by decide)
      · have fhg20_1 : 1 ≤ x1.Tester ∧ x1.Tester ≤ 9 := ndF hg20_1
        refine VRunO.free (VWant.on (b := (!(decide (1 ≤ x1.Tester ∧ x1.Tester ≤ 9)))) rfl rfl hg20_1) (OF.fieldAddrO (VEv.tmp (t := (T.op 0 0)) rfl) fa48_1) ?_
        refine VRunO.look (VWant.on (b := (!(decide (1 ≤ x1.Tester ∧ x1.Tester ≤ 9)))) rfl rfl hg20_1) (OL.loadO1 (t := (T.int .i64 x1.Slot)) (VEv.tmp (t := (T.op 0 1)) rfl) rfl rfl st3) ?_
        refine VRunO.chain (VWant.on (b := (!(decide (1 ≤ x1.Tester ∧ x1.Tester ≤ 9)))) rfl rfl hg20_1) (OC.callF (us := [(T.int .i64 x1.Slot), (T.int .i64 0), (T.int .i64 99)]) (r := (T.bool (decide (0 ≤ x1.Slot ∧ x1.Slot ≤ 99)))) (r' := (T.bool (decide (0 ≤ x1.Slot ∧ x1.Slot ≤ 99)))) (objs := []) rfl (VEvs.cons (VEv.tmp (t := (T.int .i64 x1.Slot)) rfl) (VEvs.cons (VEv.int .i64 0) (VEvs.cons (VEv.int .i64 99) VEvs.nil))) (LendL.cons (Lend.pl rfl) (LendL.cons (Lend.pl rfl) (LendL.cons (Lend.pl rfl) (LendL.nil)))) (W_spec_l1In (n + 1) x1.Slot 0 99 ) rfl) ?_
        refine VRunO.free (VWant.on (b := (!(decide (1 ≤ x1.Tester ∧ x1.Tester ≤ 9)))) rfl rfl hg20_1) (B.not (c := (!(decide (0 ≤ x1.Slot ∧ x1.Slot ≤ 99)))) (VEv.tmp (t := (T.bool (decide (0 ≤ x1.Slot ∧ x1.Slot ≤ 99)))) rfl) rfl) ?_
        refine VRunO.free VWant.always (OF.pickF (VEv.tmpB (b := (!(decide (1 ≤ x1.Tester ∧ x1.Tester ≤ 9)))) rfl hg20_1) (VEv.tmp (t := (T.bool (!(decide (0 ≤ x1.Slot ∧ x1.Slot ≤ 99))))) rfl)) ?_
        refine VRunO.free VWant.always (OF.move (VEv.tmp (t := (T.bool (!(decide (0 ≤ x1.Slot ∧ x1.Slot ≤ 99))))) rfl)) ?_
        refine bool_way (!(decide (0 ≤ x1.Slot ∧ x1.Slot ≤ 99))) (fun hg26_3 => ?_) (fun hg26_3 => ?_)
        · have fhg26_3 : ¬ (0 ≤ x1.Slot ∧ x1.Slot ≤ 99) := ndT hg26_3
          refine VRunO.off (VWant.not (b := (!(decide (0 ≤ x1.Slot ∧ x1.Slot ≤ 99)))) rfl rfl hg26_3) ?_
          refine VRunO.off (VWant.not (b := (!(decide (0 ≤ x1.Slot ∧ x1.Slot ≤ 99)))) rfl rfl hg26_3) ?_
          refine VRunO.off (VWant.not (b := (!(decide (0 ≤ x1.Slot ∧ x1.Slot ≤ 99)))) rfl rfl hg26_3) ?_
          refine VRunO.off (VWant.not (b := (!(decide (0 ≤ x1.Slot ∧ x1.Slot ≤ 99)))) rfl rfl hg26_3) ?_
          refine VRunO.free VWant.always (OF.pickT (VEv.tmpB (b := (!(decide (0 ≤ x1.Slot ∧ x1.Slot ≤ 99)))) rfl hg26_3) (VEv.bool true)) ?_
          refine VRunO.free VWant.always (OF.move (VEv.tmp (t := (T.bool true)) rfl)) ?_
          refine VRunO.off (VWant.not (b := true) rfl rfl rfl) ?_
          refine VRunO.off (VWant.not (b := true) rfl rfl rfl) ?_
          refine VRunO.off (VWant.not (b := true) rfl rfl rfl) ?_
          refine VRunO.off (VWant.not (b := true) rfl rfl rfl) ?_
          refine VRunO.off (VWant.undef rfl rfl) ?_
          refine VRunO.off (VWant.undef rfl rfl) ?_
          refine VRunO.off (VWant.undef rfl rfl) ?_
          refine VRunO.off (VWant.not (b := true) rfl rfl rfl) ?_
          refine VRunO.free VWant.always (OF.pickT (VEv.tmp (t := (T.bool true)) rfl) (VEv.bool true)) ?_
          refine VRunO.free VWant.always (OF.move (VEv.tmp (t := (T.bool true)) rfl)) ?_
          refine VRunO.off (VWant.not (b := true) rfl rfl rfl) ?_
          refine VRunO.off (VWant.not (b := true) rfl rfl rfl) ?_
          refine VRunO.off (VWant.not (b := true) rfl rfl rfl) ?_
          refine VRunO.off (VWant.not (b := true) rfl rfl rfl) ?_
          refine VRunO.off (VWant.undef rfl rfl) ?_
          refine VRunO.off (VWant.undef rfl rfl) ?_
          refine VRunO.off (VWant.undef rfl rfl) ?_
          refine VRunO.off (VWant.undef rfl rfl) ?_
          refine VRunO.off (VWant.not (b := true) rfl rfl rfl) ?_
          refine VRunO.free VWant.always (OF.pickT (VEv.tmp (t := (T.bool true)) rfl) (VEv.bool true)) ?_
          refine VRunO.nil ?_
          refine vthn.n ?_
          refine VRun.cond (VEv.tmp (t := (T.bool true)) rfl) (fun hk4 => ?_) (fun hk4 => ?_)
          · skip
            refine VRun.seq ?_
            refine VRun.region ?_
            refine VRunO.free VWant.always (OF.assign (VEv.bool false)) ?_
            refine VRunO.nil ?_
            refine vthn.n ?_
            refine VRun.ret ?_
            refine vthn.r ?_
            refine vinB.r ?_
            refine vthn.r ?_
            refine vthn.r ?_
            refine vinB.r ?_
            refine vthn.r ?_
            refine vfin.eq (r' := (T.bool false)) ?_ (vfin.r (VRes.tmp (t := (T.bool false)) rfl VRes.nil) (Give.bool _))
            show (T.bool false) = (T.bool (decide (areReports a)))
            refine congrArg T.bool ?_
            first | (refine decN ⟨fun h => ⟨by omega, allEnd hI' fhc0⟩, fun h => by have := h.1; omega⟩) | (symm; rw [decide_eq_false_iff_not]; rintro ⟨_, h2⟩; obtain ⟨y, hy, h3, h4, h5, h6, h7, h8⟩ := h2 i fhc0; obtain rfl := same_at hx1 hy; first | omega | (simp_all; done) | (exact h8 k fhc2 (fhc3 ▸ hx2)))
          · exact absurd (rfl.symm.trans hk4) (by decide)
        · have fhg26_3 : 0 ≤ x1.Slot ∧ x1.Slot ≤ 99 := ndF hg26_3
          refine VRunO.free (VWant.on (b := (!(decide (0 ≤ x1.Slot ∧ x1.Slot ≤ 99)))) rfl rfl hg26_3) (OF.fieldAddrO (VEv.tmp (t := (T.op 0 0)) rfl) fa48_2) ?_
          refine VRunO.look (VWant.on (b := (!(decide (0 ≤ x1.Slot ∧ x1.Slot ≤ 99)))) rfl rfl hg26_3) (OL.loadO1 (t := (T.int .i64 x1.Kind)) (VEv.tmp (t := (T.op 0 2)) rfl) rfl rfl st3) ?_
          refine VRunO.chain (VWant.on (b := (!(decide (0 ≤ x1.Slot ∧ x1.Slot ≤ 99)))) rfl rfl hg26_3) (OC.callF (us := [(T.int .i64 x1.Kind), (T.int .i64 1), (T.int .i64 3)]) (r := (T.bool (decide (1 ≤ x1.Kind ∧ x1.Kind ≤ 3)))) (r' := (T.bool (decide (1 ≤ x1.Kind ∧ x1.Kind ≤ 3)))) (objs := []) rfl (VEvs.cons (VEv.tmp (t := (T.int .i64 x1.Kind)) rfl) (VEvs.cons (VEv.int .i64 1) (VEvs.cons (VEv.int .i64 3) VEvs.nil))) (LendL.cons (Lend.pl rfl) (LendL.cons (Lend.pl rfl) (LendL.cons (Lend.pl rfl) (LendL.nil)))) (W_spec_l1In (n + 1) x1.Kind 1 3 ) rfl) ?_
          refine VRunO.free (VWant.on (b := (!(decide (0 ≤ x1.Slot ∧ x1.Slot ≤ 99)))) rfl rfl hg26_3) (B.not (c := (!(decide (1 ≤ x1.Kind ∧ x1.Kind ≤ 3)))) (VEv.tmp (t := (T.bool (decide (1 ≤ x1.Kind ∧ x1.Kind ≤ 3)))) rfl) rfl) ?_
          refine VRunO.free VWant.always (OF.pickF (VEv.tmpB (b := (!(decide (0 ≤ x1.Slot ∧ x1.Slot ≤ 99)))) rfl hg26_3) (VEv.tmp (t := (T.bool (!(decide (1 ≤ x1.Kind ∧ x1.Kind ≤ 3))))) rfl)) ?_
          refine VRunO.free VWant.always (OF.move (VEv.tmp (t := (T.bool (!(decide (1 ≤ x1.Kind ∧ x1.Kind ≤ 3))))) rfl)) ?_
          refine bool_way (!(decide (1 ≤ x1.Kind ∧ x1.Kind ≤ 3))) (fun hg32_5 => ?_) (fun hg32_5 => ?_)
          · have fhg32_5 : ¬ (1 ≤ x1.Kind ∧ x1.Kind ≤ 3) := ndT hg32_5
            refine VRunO.off (VWant.not (b := (!(decide (1 ≤ x1.Kind ∧ x1.Kind ≤ 3)))) rfl rfl hg32_5) ?_
            refine VRunO.off (VWant.not (b := (!(decide (1 ≤ x1.Kind ∧ x1.Kind ≤ 3)))) rfl rfl hg32_5) ?_
            refine VRunO.off (VWant.not (b := (!(decide (1 ≤ x1.Kind ∧ x1.Kind ≤ 3)))) rfl rfl hg32_5) ?_
            refine VRunO.off (VWant.not (b := (!(decide (1 ≤ x1.Kind ∧ x1.Kind ≤ 3)))) rfl rfl hg32_5) ?_
            refine VRunO.off (VWant.undef rfl rfl) ?_
            refine VRunO.off (VWant.undef rfl rfl) ?_
            refine VRunO.off (VWant.undef rfl rfl) ?_
            refine VRunO.off (VWant.not (b := (!(decide (1 ≤ x1.Kind ∧ x1.Kind ≤ 3)))) rfl rfl hg32_5) ?_
            refine VRunO.free VWant.always (OF.pickT (VEv.tmpB (b := (!(decide (1 ≤ x1.Kind ∧ x1.Kind ≤ 3)))) rfl hg32_5) (VEv.bool true)) ?_
            refine VRunO.free VWant.always (OF.move (VEv.tmp (t := (T.bool true)) rfl)) ?_
            refine VRunO.off (VWant.not (b := true) rfl rfl rfl) ?_
            refine VRunO.off (VWant.not (b := true) rfl rfl rfl) ?_
            refine VRunO.off (VWant.not (b := true) rfl rfl rfl) ?_
            refine VRunO.off (VWant.not (b := true) rfl rfl rfl) ?_
            refine VRunO.off (VWant.undef rfl rfl) ?_
            refine VRunO.off (VWant.undef rfl rfl) ?_
            refine VRunO.off (VWant.undef rfl rfl) ?_
            refine VRunO.off (VWant.undef rfl rfl) ?_
            refine VRunO.off (VWant.not (b := true) rfl rfl rfl) ?_
            refine VRunO.free VWant.always (OF.pickT (VEv.tmp (t := (T.bool true)) rfl) (VEv.bool true)) ?_
            refine VRunO.nil ?_
            refine vthn.n ?_
            refine VRun.cond (VEv.tmp (t := (T.bool true)) rfl) (fun hk6 => ?_) (fun hk6 => ?_)
            · skip
              refine VRun.seq ?_
              refine VRun.region ?_
              refine VRunO.free VWant.always (OF.assign (VEv.bool false)) ?_
              refine VRunO.nil ?_
              refine vthn.n ?_
              refine VRun.ret ?_
              refine vthn.r ?_
              refine vinB.r ?_
              refine vthn.r ?_
              refine vthn.r ?_
              refine vinB.r ?_
              refine vthn.r ?_
              refine vfin.eq (r' := (T.bool false)) ?_ (vfin.r (VRes.tmp (t := (T.bool false)) rfl VRes.nil) (Give.bool _))
              show (T.bool false) = (T.bool (decide (areReports a)))
              refine congrArg T.bool ?_
              first | (refine decN ⟨fun h => ⟨by omega, allEnd hI' fhc0⟩, fun h => by have := h.1; omega⟩) | (symm; rw [decide_eq_false_iff_not]; rintro ⟨_, h2⟩; obtain ⟨y, hy, h3, h4, h5, h6, h7, h8⟩ := h2 i fhc0; obtain rfl := same_at hx1 hy; first | omega | (simp_all; done) | (exact h8 k fhc2 (fhc3 ▸ hx2)))
            · exact absurd (rfl.symm.trans hk6) (by decide)
          · have fhg32_5 : 1 ≤ x1.Kind ∧ x1.Kind ≤ 3 := ndF hg32_5
            refine VRunO.free (VWant.on (b := (!(decide (1 ≤ x1.Kind ∧ x1.Kind ≤ 3)))) rfl rfl hg32_5) (OF.fieldAddrO (VEv.tmp (t := (T.op 0 0)) rfl) fa48_2) ?_
            refine VRunO.look (VWant.on (b := (!(decide (1 ≤ x1.Kind ∧ x1.Kind ≤ 3)))) rfl rfl hg32_5) (OL.loadO1 (t := (T.int .i64 x1.Kind)) (VEv.tmp (t := (T.op 0 2)) rfl) rfl rfl st3) ?_
            refine VRunO.free (VWant.on (b := (!(decide (1 ≤ x1.Kind ∧ x1.Kind ≤ 3)))) rfl rfl hg32_5) (B.eql (c := (decide (x1.Kind = 3))) (VEv.tmp (t := (T.int .i64 x1.Kind)) rfl) (VEv.int .i64 3) rfl) ?_
            refine VRunO.free (VWant.on (b := (!(decide (1 ≤ x1.Kind ∧ x1.Kind ≤ 3)))) rfl rfl hg32_5) (OF.move (VEv.tmp (t := (T.bool (decide (x1.Kind = 3)))) rfl)) ?_
            refine bool_way (decide (x1.Kind = 3)) (fun hg36_7 => ?_) (fun hg36_7 => ?_)
            · have fhg36_7 : x1.Kind = 3 := of_decide_eq_true hg36_7
              refine VRunO.free (VWant.on (b := (decide (x1.Kind = 3))) rfl rfl hg36_7) (OF.fieldAddrO (VEv.tmp (t := (T.op 0 0)) rfl) fa48_3) ?_
              refine VRunO.look (VWant.on (b := (decide (x1.Kind = 3))) rfl rfl hg36_7) (OL.loadO1 (t := (T.str x1.Word)) (VEv.tmp (t := (T.op 0 3)) rfl) rfl rfl st9) ?_
              refine VRunO.free (VWant.on (b := (decide (x1.Kind = 3))) rfl rfl hg36_7) (B.sneq (c := (!(decide (x1.Word = (⟨#[]⟩ : ByteArray))))) (VEv.tmp (t := (T.str x1.Word)) rfl) (VEv.str (⟨#[]⟩ : ByteArray)) rfl) ?_
              refine VRunO.free (VWant.on (b := (!(decide (1 ≤ x1.Kind ∧ x1.Kind ≤ 3)))) rfl rfl hg32_5) (OF.pickT (VEv.tmpB (b := (decide (x1.Kind = 3))) rfl hg36_7) (VEv.tmp (t := (T.bool (!(decide (x1.Word = (⟨#[]⟩ : ByteArray)))))) rfl)) ?_
              refine VRunO.free VWant.always (OF.pickF (VEv.tmpB (b := (!(decide (1 ≤ x1.Kind ∧ x1.Kind ≤ 3)))) rfl hg32_5) (VEv.tmp (t := (T.bool (!(decide (x1.Word = (⟨#[]⟩ : ByteArray)))))) rfl)) ?_
              refine VRunO.free VWant.always (OF.move (VEv.tmp (t := (T.bool (!(decide (x1.Word = (⟨#[]⟩ : ByteArray)))))) rfl)) ?_
              refine bool_way (!(decide (x1.Word = (⟨#[]⟩ : ByteArray)))) (fun hg42_8 => ?_) (fun hg42_8 => ?_)
              · have fhg42_8 : ¬ (x1.Word = (⟨#[]⟩ : ByteArray)) := ndT hg42_8
                refine VRunO.off (VWant.not (b := (!(decide (x1.Word = (⟨#[]⟩ : ByteArray))))) rfl rfl hg42_8) ?_
                refine VRunO.off (VWant.not (b := (!(decide (x1.Word = (⟨#[]⟩ : ByteArray))))) rfl rfl hg42_8) ?_
                refine VRunO.off (VWant.not (b := (!(decide (x1.Word = (⟨#[]⟩ : ByteArray))))) rfl rfl hg42_8) ?_
                refine VRunO.off (VWant.not (b := (!(decide (x1.Word = (⟨#[]⟩ : ByteArray))))) rfl rfl hg42_8) ?_
                refine VRunO.off (VWant.undef rfl rfl) ?_
                refine VRunO.off (VWant.undef rfl rfl) ?_
                refine VRunO.off (VWant.undef rfl rfl) ?_
                refine VRunO.off (VWant.undef rfl rfl) ?_
                refine VRunO.off (VWant.not (b := (!(decide (x1.Word = (⟨#[]⟩ : ByteArray))))) rfl rfl hg42_8) ?_
                refine VRunO.free VWant.always (OF.pickT (VEv.tmpB (b := (!(decide (x1.Word = (⟨#[]⟩ : ByteArray))))) rfl hg42_8) (VEv.bool true)) ?_
                refine VRunO.nil ?_
                refine vthn.n ?_
                refine VRun.cond (VEv.tmp (t := (T.bool true)) rfl) (fun hk9 => ?_) (fun hk9 => ?_)
                · skip
                  refine VRun.seq ?_
                  refine VRun.region ?_
                  refine VRunO.free VWant.always (OF.assign (VEv.bool false)) ?_
                  refine VRunO.nil ?_
                  refine vthn.n ?_
                  refine VRun.ret ?_
                  refine vthn.r ?_
                  refine vinB.r ?_
                  refine vthn.r ?_
                  refine vthn.r ?_
                  refine vinB.r ?_
                  refine vthn.r ?_
                  refine vfin.eq (r' := (T.bool false)) ?_ (vfin.r (VRes.tmp (t := (T.bool false)) rfl VRes.nil) (Give.bool _))
                  show (T.bool false) = (T.bool (decide (areReports a)))
                  refine congrArg T.bool ?_
                  first | (refine decN ⟨fun h => ⟨by omega, allEnd hI' fhc0⟩, fun h => by have := h.1; omega⟩) | (symm; rw [decide_eq_false_iff_not]; rintro ⟨_, h2⟩; obtain ⟨y, hy, h3, h4, h5, h6, h7, h8⟩ := h2 i fhc0; obtain rfl := same_at hx1 hy; first | omega | (simp_all; done) | (exact h8 k fhc2 (fhc3 ▸ hx2)))
                · exact absurd (rfl.symm.trans hk9) (by decide)
              · have fhg42_8 : x1.Word = (⟨#[]⟩ : ByteArray) := ndF hg42_8
                refine VRunO.free (VWant.on (b := (!(decide (x1.Word = (⟨#[]⟩ : ByteArray))))) rfl rfl hg42_8) (OF.fieldAddrO (VEv.tmp (t := (T.op 0 0)) rfl) fa48_2) ?_
                refine VRunO.look (VWant.on (b := (!(decide (x1.Word = (⟨#[]⟩ : ByteArray))))) rfl rfl hg42_8) (OL.loadO1 (t := (T.int .i64 x1.Kind)) (VEv.tmp (t := (T.op 0 2)) rfl) rfl rfl st3) ?_
                refine VRunO.free (VWant.on (b := (!(decide (x1.Word = (⟨#[]⟩ : ByteArray))))) rfl rfl hg42_8) (B.neq (c := (!(decide (x1.Kind = 3)))) (VEv.tmp (t := (T.int .i64 x1.Kind)) rfl) (VEv.int .i64 3) rfl) ?_
                refine VRunO.free (VWant.on (b := (!(decide (x1.Word = (⟨#[]⟩ : ByteArray))))) rfl rfl hg42_8) (OF.move (VEv.tmp (t := (T.bool (!(decide (x1.Kind = 3))))) rfl)) ?_
                refine VRunO.off (VWant.not (b := (!(decide (x1.Kind = 3)))) rfl rfl (nkT hg36_7)) ?_
                refine VRunO.off (VWant.not (b := (!(decide (x1.Kind = 3)))) rfl rfl (nkT hg36_7)) ?_
                refine VRunO.off (VWant.not (b := (!(decide (x1.Kind = 3)))) rfl rfl (nkT hg36_7)) ?_
                refine VRunO.off (VWant.not (b := (!(decide (x1.Kind = 3)))) rfl rfl (nkT hg36_7)) ?_
                refine VRunO.free (VWant.on (b := (!(decide (x1.Word = (⟨#[]⟩ : ByteArray))))) rfl rfl hg42_8) (OF.pickF (VEv.tmpB (b := (!(decide (x1.Kind = 3)))) rfl (nkT hg36_7)) (VEv.bool false)) ?_
                refine VRunO.free VWant.always (OF.pickF (VEv.tmpB (b := (!(decide (x1.Word = (⟨#[]⟩ : ByteArray))))) rfl hg42_8) (VEv.tmp (t := (T.bool false)) rfl)) ?_
                refine VRunO.nil ?_
                refine vthn.n ?_
                refine VRun.cond (VEv.tmp (t := (T.bool false)) rfl) (fun hk10 => ?_) (fun hk10 => ?_)
                · exact absurd (rfl.symm.trans hk10) (by decide)
                · skip
                  refine VRun.skip ?_
                  refine vthn.n ?_
                  refine VRun.seq ?_
                  refine VRun.region ?_
                  refine VRunO.free VWant.always (OF.assign (VEv.int .i64 0)) ?_
                  refine VRunO.nil ?_
                  refine vthn.n ?_
                  refine VRun.block ?_
                  refine VRun.loop (A := Nat) (fun s_ => [(0, (T.sl false 4 (a.map (eReport false)))), (3, (T.int .i64 ((i : Nat) : Int))), (4, (T.op 0 0)), (5, (T.int .i64 ((s_ : Nat) : Int)))]) (fun s_ => mkO [(0, (Obj.cells [(T.int .i64 x1.Tester), (T.int .i64 x1.Slot), (T.int .i64 x1.Kind), (T.str x1.Word)]))]) 1 (fun s_ => s_ ≤ i ∧ ∀ j, j < s_ → a[j]? ≠ some x1) (fun s_ => i - s_) (0 : Nat) ?_ (Wk.mk (fun k => k) ?_ ?_ ?_) ?_
                  · exact ⟨Nat.zero_le _, fun j hj => by omega⟩
                  · exact (ball_cons ⟨rfl, rfl⟩ (ball_cons ⟨rfl, rfl⟩ (ball_cons ⟨rfl, rfl⟩ (ball_cons ⟨(congrArg (T.int .i64) (show 0 = ((0 : Nat) : Int) from (by first | rfl | omega | (simp; done) | (push_cast; omega)))), rfl⟩ (ball_nil)))))
                  · exact (ball_cons ⟨rfl, (Nat.le_of_ble_eq_true rfl), rfl⟩ (ball_nil))
                  · show List.Nodup ([0] : List Nat)
                    decide
                  · rintro k hI
                    have hI' : k ≤ i ∧ ∀ j, j < k → a[j]? ≠ some x1 := hI
                    clear hI
                    show VRun _ _ _ [(0, (T.sl false 4 (a.map (eReport false)))), (3, (T.int .i64 ((i : Nat) : Int))), (4, (T.op 0 0)), (5, (T.int .i64 ((k : Nat) : Int)))] (mkO [(0, (Obj.cells [(T.int .i64 x1.Tester), (T.int .i64 x1.Slot), (T.int .i64 x1.Kind), (T.str x1.Word)]))]) 1 _
                    refine VRun.seq ?_
                    refine VRun.seq ?_
                    refine VRun.region ?_
                    refine VRunO.free VWant.always (OF.move (VEv.tmp (t := (T.int .i64 ((k : Nat) : Int))) rfl)) ?_
                    refine VRunO.free VWant.always (OF.move (VEv.tmp (t := (T.int .i64 ((i : Nat) : Int))) rfl)) ?_
                    refine VRunO.free VWant.always (B.lss (c := (decide (k < i))) (VEv.tmp (t := (T.int .i64 ((k : Nat) : Int))) rfl) (VEv.tmp (t := (T.int .i64 ((i : Nat) : Int))) rfl) (by first | exact hw _ (List.mem_of_getElem? hx1) | (exact decN (by omega)))) ?_
                    refine VRunO.nil ?_
                    refine vthn.n ?_
                    refine VRun.cond (VEv.tmp (t := (T.bool (decide (k < i)))) rfl) (fun hc2 => ?_) (fun hc2 => ?_)
                    · have fhc2 : k < i := of_decide_eq_true hc2
                      refine VRun.skip ?_
                      refine vthn.n ?_
                      refine VRun.seq ?_
                      refine VRun.block ?_
                      refine VRun.seq ?_
                      refine VRun.draw (B := [[], [], [1, 0], [0, 1, 2], [], [4, 2, 1, 0, 3]]) (by kernel_rfl) (by kernel_rfl) ?_
                      refine VRunD.free rfl VWant.always rfl (OF.move (VEv.tmp (t := (T.sl false 4 (a.map (eReport false)))) rfl)) ?_
                      refine VRunD.free rfl VWant.always rfl (OF.move (VEv.tmp (t := (T.int .i64 ((k : Nat) : Int))) rfl)) ?_
                      obtain ⟨x2, hx2⟩ : ∃ x, a[k]? = some x := ⟨_, List.getElem?_eq_getElem (by first | exact hw _ (List.mem_of_getElem? hx1) | omega | (simp only [List.length_map]; omega) | (simp only [List.length_map, List.length_append, List.length_cons, List.length_nil, List.length_replicate, List.length_set, List.length_drop, List.length_take, lim] at *; omega))⟩
                      refine VRunD.free rfl VWant.always rfl (OF.indexAddrR (row := (eReport false x2)) (i := k) (VEv.tmp (t := (T.sl false 4 (a.map (eReport false)))) rfl) (VEv.tmp (t := (T.int .i64 ((k : Nat) : Int))) rfl) rfl (map_at _ hx2) Try.underlying32 sz48 if48) ?_
                      refine VRunD.look rfl VWant.always rfl (OL.loadRn (us := (eReport false x2)) (VEv.tmp (t := (T.rp [(T.int .i64 x2.Tester), (T.int .i64 x2.Slot), (T.int .i64 x2.Kind), (T.str x2.Word)])) rfl) st48 sz48 (Nat.le_of_ble_eq_true rfl) rfl) ?_
                      refine VRunD.look rfl VWant.always rfl (OL.loadOn (us := (eReport false x1)) (VEv.tmp (t := (T.op 0 0)) rfl) rfl st48 sz48 (Nat.le_of_ble_eq_true rfl) rfl) ?_
                      refine VRunD.free rfl VWant.always rfl (B.eql48 (a := x2) (b := x1) (m := false) (m' := false) (VEv.tmp (t := (T.agg (eReport false x2))) rfl) (VEv.tmp (t := (T.agg (eReport false x1))) rfl)) ?_
                      refine VRunD.nil ?_
                      refine vthn.n ?_
                      refine VRun.cond (VEv.tmp (t := (T.bool (decide (x2 = x1)))) rfl) (fun hc3 => ?_) (fun hc3 => ?_)
                      · have fhc3 : x2 = x1 := of_decide_eq_true hc3
                        refine VRun.seq ?_
                        refine VRun.region ?_
                        refine VRunO.free VWant.always (OF.assign (VEv.bool false)) ?_
                        refine VRunO.nil ?_
                        refine vthn.n ?_
                        refine VRun.ret ?_
                        refine vinB.r ?_
                        refine vthn.r ?_
                        refine vthn.r ?_
                        refine vinB.r ?_
                        refine vinB.r ?_
                        refine vthn.r ?_
                        refine vthn.r ?_
                        refine vinB.r ?_
                        refine vthn.r ?_
                        refine vfin.eq (r' := (T.bool false)) ?_ (vfin.r (VRes.tmp (t := (T.bool false)) rfl VRes.nil) (Give.bool _))
                        show (T.bool false) = (T.bool (decide (areReports a)))
                        refine congrArg T.bool ?_
                        first | (refine decN ⟨fun h => ⟨by omega, allEnd hI' fhc0⟩, fun h => by have := h.1; omega⟩) | (symm; rw [decide_eq_false_iff_not]; rintro ⟨_, h2⟩; obtain ⟨y, hy, h3, h4, h5, h6, h7, h8⟩ := h2 i fhc0; obtain rfl := same_at hx1 hy; first | omega | (simp_all; done) | (exact h8 k fhc2 (fhc3 ▸ hx2)))
                      · have fhc3 : ¬ (x2 = x1) := of_decide_eq_false hc3
                        refine VRun.skip ?_
                        refine vinB.n ?_
                        refine vthn.n ?_
                        refine VRun.region ?_
                        refine VRunO.free VWant.always (OF.move (VEv.tmp (t := (T.int .i64 ((k : Nat) : Int))) rfl)) ?_
                        refine VRunO.free VWant.always (B.add (n := (((k + 1) : Nat) : Int)) (VEv.tmp (t := (T.int .i64 ((k : Nat) : Int))) rfl) (VEv.int .i64 1) (by first | exact hw _ (List.mem_of_getElem? hx1) | rfl | (rw [wrap64 (by omega)]; done) | (rw [wrap64 (by omega)]; omega) | (rw [wrap64 (by omega)]; push_cast; omega) | omega)) ?_
                        refine VRunO.free VWant.always (OF.assign (VEv.tmp (t := (T.int .i64 (((k + 1) : Nat) : Int))) rfl)) ?_
                        refine VRunO.nil ?_
                        refine vthn.n ?_
                        refine ⟨(k + 1 : Nat), ?_, ?_, Wk.mk (fun k => k) ?_ ?_ ?_⟩
                        · refine allNext (ok := fun j => a[j]? ≠ some x1) hI' fhc2 ?_; intro h; rw [hx2] at h; exact fhc3 (Option.some.inj h)
                        · first | omega | (simp only []; omega) | (show _ < _; omega) | (simp; omega)
                        · exact (ball_cons ⟨rfl, rfl⟩ (ball_cons ⟨rfl, rfl⟩ (ball_cons ⟨rfl, rfl⟩ (ball_cons ⟨rfl, rfl⟩ (ball_nil)))))
                        · exact (ball_cons ⟨rfl, (Nat.le_of_ble_eq_true rfl), rfl⟩ (ball_nil))
                        · show List.Nodup ([0] : List Nat)
                          decide
                    · have fhc2 : ¬ (k < i) := of_decide_eq_false hc2
                      refine VRun.exit ?_
                      refine vthn.e ?_
                      refine vthn.e ?_
                      refine vinB.e ?_
                      refine vinB.n ?_
                      refine vthn.n ?_
                      refine VRun.region ?_
                      refine VRunO.free VWant.always (OF.move (VEv.tmp (t := (T.int .i64 ((i : Nat) : Int))) rfl)) ?_
                      refine VRunO.free VWant.always (B.add (n := (((i + 1) : Nat) : Int)) (VEv.tmp (t := (T.int .i64 ((i : Nat) : Int))) rfl) (VEv.int .i64 1) (by first | exact hw _ (List.mem_of_getElem? hx1) | rfl | (rw [wrap64 (by omega)]; done) | (rw [wrap64 (by omega)]; omega) | (rw [wrap64 (by omega)]; push_cast; omega) | omega)) ?_
                      refine VRunO.free VWant.always (OF.assign (VEv.tmp (t := (T.int .i64 (((i + 1) : Nat) : Int))) rfl)) ?_
                      refine VRunO.nil ?_
                      refine vthn.n ?_
                      refine ⟨(i + 1 : Nat), ?_, ?_, Wk.mk (fun k => k) ?_ ?_ ?_⟩
                      · refine allNext hI0 fhc0 ⟨x1, hx1, by omega, by omega, by omega, ?_, ?_, fun q hq => hI'.2 q (by omega)⟩
                        · intro h; first | assumption | omega
                        · intro h; first | assumption | omega
                      · first | omega | (simp only []; omega) | (show _ < _; omega) | (simp; omega)
                      · exact (ball_cons ⟨rfl, rfl⟩ (ball_cons ⟨rfl, rfl⟩ (ball_nil)))
                      · exact (ball_nil)
                      · show List.Nodup ([] : List Nat)
                        decide
            · have fhg36_7 : ¬ (x1.Kind = 3) := of_decide_eq_false hg36_7
              refine VRunO.off (VWant.not (b := (decide (x1.Kind = 3))) rfl rfl hg36_7) ?_
              refine VRunO.off (VWant.not (b := (decide (x1.Kind = 3))) rfl rfl hg36_7) ?_
              refine VRunO.off (VWant.not (b := (decide (x1.Kind = 3))) rfl rfl hg36_7) ?_
              refine VRunO.free (VWant.on (b := (!(decide (1 ≤ x1.Kind ∧ x1.Kind ≤ 3)))) rfl rfl hg32_5) (OF.pickF (VEv.tmpB (b := (decide (x1.Kind = 3))) rfl hg36_7) (VEv.bool false)) ?_
              refine VRunO.free VWant.always (OF.pickF (VEv.tmpB (b := (!(decide (1 ≤ x1.Kind ∧ x1.Kind ≤ 3)))) rfl hg32_5) (VEv.tmp (t := (T.bool false)) rfl)) ?_
              refine VRunO.free VWant.always (OF.move (VEv.tmp (t := (T.bool false)) rfl)) ?_
              refine VRunO.free (VWant.on (b := false) rfl rfl rfl) (OF.fieldAddrO (VEv.tmp (t := (T.op 0 0)) rfl) fa48_2) ?_
              refine VRunO.look (VWant.on (b := false) rfl rfl rfl) (OL.loadO1 (t := (T.int .i64 x1.Kind)) (VEv.tmp (t := (T.op 0 2)) rfl) rfl rfl st3) ?_
              refine VRunO.free (VWant.on (b := false) rfl rfl rfl) (B.neq (c := (!(decide (x1.Kind = 3)))) (VEv.tmp (t := (T.int .i64 x1.Kind)) rfl) (VEv.int .i64 3) rfl) ?_
              refine VRunO.free (VWant.on (b := false) rfl rfl rfl) (OF.move (VEv.tmp (t := (T.bool (!(decide (x1.Kind = 3))))) rfl)) ?_
              refine VRunO.free (VWant.on (b := (!(decide (x1.Kind = 3)))) rfl rfl (nkF hg36_7)) (OF.fieldAddrO (VEv.tmp (t := (T.op 0 0)) rfl) fa48_3) ?_
              refine VRunO.look (VWant.on (b := (!(decide (x1.Kind = 3)))) rfl rfl (nkF hg36_7)) (OL.loadO1 (t := (T.str x1.Word)) (VEv.tmp (t := (T.op 0 3)) rfl) rfl rfl st9) ?_
              refine VRunO.chain (VWant.on (b := (!(decide (x1.Kind = 3)))) rfl rfl (nkF hg36_7)) (OC.callF (us := [(T.str x1.Word)]) (r := (T.bool (decide (isWord x1.Word)))) (r' := (T.bool (decide (isWord x1.Word)))) (objs := []) rfl (VEvs.cons (VEv.tmp (t := (T.str x1.Word)) rfl) VEvs.nil) (LendL.cons (Lend.pl rfl) (LendL.nil)) (W_spec_IsWord (n + 0) x1.Word (by first | exact hw _ (List.mem_of_getElem? hx1) | assumption | omega | (simp only [List.length_map]; omega) | (simp only [List.length_map, List.length_append, List.length_cons, List.length_nil, List.length_replicate, List.length_set, List.length_drop, List.length_take, lim] at *; omega))) rfl) ?_
              refine VRunO.free (VWant.on (b := (!(decide (x1.Kind = 3)))) rfl rfl (nkF hg36_7)) (B.not (c := (!(decide (isWord x1.Word)))) (VEv.tmp (t := (T.bool (decide (isWord x1.Word)))) rfl) rfl) ?_
              refine VRunO.free (VWant.on (b := false) rfl rfl rfl) (OF.pickT (VEv.tmpB (b := (!(decide (x1.Kind = 3)))) rfl (nkF hg36_7)) (VEv.tmp (t := (T.bool (!(decide (isWord x1.Word))))) rfl)) ?_
              refine VRunO.free VWant.always (OF.pickF (VEv.tmp (t := (T.bool false)) rfl) (VEv.tmp (t := (T.bool (!(decide (isWord x1.Word))))) rfl)) ?_
              refine VRunO.nil ?_
              refine vthn.n ?_
              refine VRun.cond (VEv.tmp (t := (T.bool (!(decide (isWord x1.Word))))) rfl) (fun hc1 => ?_) (fun hc1 => ?_)
              · have fhc1 : ¬ (isWord x1.Word) := ndT hc1
                refine VRun.seq ?_
                refine VRun.region ?_
                refine VRunO.free VWant.always (OF.assign (VEv.bool false)) ?_
                refine VRunO.nil ?_
                refine vthn.n ?_
                refine VRun.ret ?_
                refine vthn.r ?_
                refine vinB.r ?_
                refine vthn.r ?_
                refine vthn.r ?_
                refine vinB.r ?_
                refine vthn.r ?_
                refine vfin.eq (r' := (T.bool false)) ?_ (vfin.r (VRes.tmp (t := (T.bool false)) rfl VRes.nil) (Give.bool _))
                show (T.bool false) = (T.bool (decide (areReports a)))
                refine congrArg T.bool ?_
                first | (refine decN ⟨fun h => ⟨by omega, allEnd hI' fhc0⟩, fun h => by have := h.1; omega⟩) | (symm; rw [decide_eq_false_iff_not]; rintro ⟨_, h2⟩; obtain ⟨y, hy, h3, h4, h5, h6, h7, h8⟩ := h2 i fhc0; obtain rfl := same_at hx1 hy; first | omega | (simp_all; done) | (exact h8 k fhc2 (fhc3 ▸ hx2)))
              · have fhc1 : isWord x1.Word := ndF hc1
                refine VRun.skip ?_
                refine vthn.n ?_
                refine VRun.seq ?_
                refine VRun.region ?_
                refine VRunO.free VWant.always (OF.assign (VEv.int .i64 0)) ?_
                refine VRunO.nil ?_
                refine vthn.n ?_
                refine VRun.block ?_
                refine VRun.loop (A := Nat) (fun s_ => [(0, (T.sl false 4 (a.map (eReport false)))), (3, (T.int .i64 ((i : Nat) : Int))), (4, (T.op 0 0)), (5, (T.int .i64 ((s_ : Nat) : Int)))]) (fun s_ => mkO [(0, (Obj.cells [(T.int .i64 x1.Tester), (T.int .i64 x1.Slot), (T.int .i64 x1.Kind), (T.str x1.Word)]))]) 1 (fun s_ => s_ ≤ i ∧ ∀ j, j < s_ → a[j]? ≠ some x1) (fun s_ => i - s_) (0 : Nat) ?_ (Wk.mk (fun k => k) ?_ ?_ ?_) ?_
                · exact ⟨Nat.zero_le _, fun j hj => by omega⟩
                · exact (ball_cons ⟨rfl, rfl⟩ (ball_cons ⟨rfl, rfl⟩ (ball_cons ⟨rfl, rfl⟩ (ball_cons ⟨(congrArg (T.int .i64) (show 0 = ((0 : Nat) : Int) from (by first | rfl | omega | (simp; done) | (push_cast; omega)))), rfl⟩ (ball_nil)))))
                · exact (ball_cons ⟨rfl, (Nat.le_of_ble_eq_true rfl), rfl⟩ (ball_nil))
                · show List.Nodup ([0] : List Nat)
                  decide
                · rintro k hI
                  have hI' : k ≤ i ∧ ∀ j, j < k → a[j]? ≠ some x1 := hI
                  clear hI
                  show VRun _ _ _ [(0, (T.sl false 4 (a.map (eReport false)))), (3, (T.int .i64 ((i : Nat) : Int))), (4, (T.op 0 0)), (5, (T.int .i64 ((k : Nat) : Int)))] (mkO [(0, (Obj.cells [(T.int .i64 x1.Tester), (T.int .i64 x1.Slot), (T.int .i64 x1.Kind), (T.str x1.Word)]))]) 1 _
                  refine VRun.seq ?_
                  refine VRun.seq ?_
                  refine VRun.region ?_
                  refine VRunO.free VWant.always (OF.move (VEv.tmp (t := (T.int .i64 ((k : Nat) : Int))) rfl)) ?_
                  refine VRunO.free VWant.always (OF.move (VEv.tmp (t := (T.int .i64 ((i : Nat) : Int))) rfl)) ?_
                  refine VRunO.free VWant.always (B.lss (c := (decide (k < i))) (VEv.tmp (t := (T.int .i64 ((k : Nat) : Int))) rfl) (VEv.tmp (t := (T.int .i64 ((i : Nat) : Int))) rfl) (by first | exact hw _ (List.mem_of_getElem? hx1) | (exact decN (by omega)))) ?_
                  refine VRunO.nil ?_
                  refine vthn.n ?_
                  refine VRun.cond (VEv.tmp (t := (T.bool (decide (k < i)))) rfl) (fun hc2 => ?_) (fun hc2 => ?_)
                  · have fhc2 : k < i := of_decide_eq_true hc2
                    refine VRun.skip ?_
                    refine vthn.n ?_
                    refine VRun.seq ?_
                    refine VRun.block ?_
                    refine VRun.seq ?_
                    refine VRun.draw (B := [[], [], [1, 0], [0, 1, 2], [], [4, 2, 1, 0, 3]]) (by kernel_rfl) (by kernel_rfl) ?_
                    refine VRunD.free rfl VWant.always rfl (OF.move (VEv.tmp (t := (T.sl false 4 (a.map (eReport false)))) rfl)) ?_
                    refine VRunD.free rfl VWant.always rfl (OF.move (VEv.tmp (t := (T.int .i64 ((k : Nat) : Int))) rfl)) ?_
                    obtain ⟨x2, hx2⟩ : ∃ x, a[k]? = some x := ⟨_, List.getElem?_eq_getElem (by first | exact hw _ (List.mem_of_getElem? hx1) | omega | (simp only [List.length_map]; omega) | (simp only [List.length_map, List.length_append, List.length_cons, List.length_nil, List.length_replicate, List.length_set, List.length_drop, List.length_take, lim] at *; omega))⟩
                    refine VRunD.free rfl VWant.always rfl (OF.indexAddrR (row := (eReport false x2)) (i := k) (VEv.tmp (t := (T.sl false 4 (a.map (eReport false)))) rfl) (VEv.tmp (t := (T.int .i64 ((k : Nat) : Int))) rfl) rfl (map_at _ hx2) Try.underlying32 sz48 if48) ?_
                    refine VRunD.look rfl VWant.always rfl (OL.loadRn (us := (eReport false x2)) (VEv.tmp (t := (T.rp [(T.int .i64 x2.Tester), (T.int .i64 x2.Slot), (T.int .i64 x2.Kind), (T.str x2.Word)])) rfl) st48 sz48 (Nat.le_of_ble_eq_true rfl) rfl) ?_
                    refine VRunD.look rfl VWant.always rfl (OL.loadOn (us := (eReport false x1)) (VEv.tmp (t := (T.op 0 0)) rfl) rfl st48 sz48 (Nat.le_of_ble_eq_true rfl) rfl) ?_
                    refine VRunD.free rfl VWant.always rfl (B.eql48 (a := x2) (b := x1) (m := false) (m' := false) (VEv.tmp (t := (T.agg (eReport false x2))) rfl) (VEv.tmp (t := (T.agg (eReport false x1))) rfl)) ?_
                    refine VRunD.nil ?_
                    refine vthn.n ?_
                    refine VRun.cond (VEv.tmp (t := (T.bool (decide (x2 = x1)))) rfl) (fun hc3 => ?_) (fun hc3 => ?_)
                    · have fhc3 : x2 = x1 := of_decide_eq_true hc3
                      refine VRun.seq ?_
                      refine VRun.region ?_
                      refine VRunO.free VWant.always (OF.assign (VEv.bool false)) ?_
                      refine VRunO.nil ?_
                      refine vthn.n ?_
                      refine VRun.ret ?_
                      refine vinB.r ?_
                      refine vthn.r ?_
                      refine vthn.r ?_
                      refine vinB.r ?_
                      refine vinB.r ?_
                      refine vthn.r ?_
                      refine vthn.r ?_
                      refine vinB.r ?_
                      refine vthn.r ?_
                      refine vfin.eq (r' := (T.bool false)) ?_ (vfin.r (VRes.tmp (t := (T.bool false)) rfl VRes.nil) (Give.bool _))
                      show (T.bool false) = (T.bool (decide (areReports a)))
                      refine congrArg T.bool ?_
                      first | (refine decN ⟨fun h => ⟨by omega, allEnd hI' fhc0⟩, fun h => by have := h.1; omega⟩) | (symm; rw [decide_eq_false_iff_not]; rintro ⟨_, h2⟩; obtain ⟨y, hy, h3, h4, h5, h6, h7, h8⟩ := h2 i fhc0; obtain rfl := same_at hx1 hy; first | omega | (simp_all; done) | (exact h8 k fhc2 (fhc3 ▸ hx2)))
                    · have fhc3 : ¬ (x2 = x1) := of_decide_eq_false hc3
                      refine VRun.skip ?_
                      refine vinB.n ?_
                      refine vthn.n ?_
                      refine VRun.region ?_
                      refine VRunO.free VWant.always (OF.move (VEv.tmp (t := (T.int .i64 ((k : Nat) : Int))) rfl)) ?_
                      refine VRunO.free VWant.always (B.add (n := (((k + 1) : Nat) : Int)) (VEv.tmp (t := (T.int .i64 ((k : Nat) : Int))) rfl) (VEv.int .i64 1) (by first | exact hw _ (List.mem_of_getElem? hx1) | rfl | (rw [wrap64 (by omega)]; done) | (rw [wrap64 (by omega)]; omega) | (rw [wrap64 (by omega)]; push_cast; omega) | omega)) ?_
                      refine VRunO.free VWant.always (OF.assign (VEv.tmp (t := (T.int .i64 (((k + 1) : Nat) : Int))) rfl)) ?_
                      refine VRunO.nil ?_
                      refine vthn.n ?_
                      refine ⟨(k + 1 : Nat), ?_, ?_, Wk.mk (fun k => k) ?_ ?_ ?_⟩
                      · refine allNext (ok := fun j => a[j]? ≠ some x1) hI' fhc2 ?_; intro h; rw [hx2] at h; exact fhc3 (Option.some.inj h)
                      · first | omega | (simp only []; omega) | (show _ < _; omega) | (simp; omega)
                      · exact (ball_cons ⟨rfl, rfl⟩ (ball_cons ⟨rfl, rfl⟩ (ball_cons ⟨rfl, rfl⟩ (ball_cons ⟨rfl, rfl⟩ (ball_nil)))))
                      · exact (ball_cons ⟨rfl, (Nat.le_of_ble_eq_true rfl), rfl⟩ (ball_nil))
                      · show List.Nodup ([0] : List Nat)
                        decide
                  · have fhc2 : ¬ (k < i) := of_decide_eq_false hc2
                    refine VRun.exit ?_
                    refine vthn.e ?_
                    refine vthn.e ?_
                    refine vinB.e ?_
                    refine vinB.n ?_
                    refine vthn.n ?_
                    refine VRun.region ?_
                    refine VRunO.free VWant.always (OF.move (VEv.tmp (t := (T.int .i64 ((i : Nat) : Int))) rfl)) ?_
                    refine VRunO.free VWant.always (B.add (n := (((i + 1) : Nat) : Int)) (VEv.tmp (t := (T.int .i64 ((i : Nat) : Int))) rfl) (VEv.int .i64 1) (by first | exact hw _ (List.mem_of_getElem? hx1) | rfl | (rw [wrap64 (by omega)]; done) | (rw [wrap64 (by omega)]; omega) | (rw [wrap64 (by omega)]; push_cast; omega) | omega)) ?_
                    refine VRunO.free VWant.always (OF.assign (VEv.tmp (t := (T.int .i64 (((i + 1) : Nat) : Int))) rfl)) ?_
                    refine VRunO.nil ?_
                    refine vthn.n ?_
                    refine ⟨(i + 1 : Nat), ?_, ?_, Wk.mk (fun k => k) ?_ ?_ ?_⟩
                    · refine allNext hI0 fhc0 ⟨x1, hx1, by omega, by omega, by omega, ?_, ?_, fun q hq => hI'.2 q (by omega)⟩
                      · intro h; first | assumption | omega
                      · intro h; first | assumption | omega
                    · first | omega | (simp only []; omega) | (show _ < _; omega) | (simp; omega)
                    · exact (ball_cons ⟨rfl, rfl⟩ (ball_cons ⟨rfl, rfl⟩ (ball_nil)))
                    · exact (ball_nil)
                    · show List.Nodup ([] : List Nat)
                      decide
    · have fhc0 : ¬ (i < a.length) := of_decide_eq_false hc0
      refine VRun.exit ?_
      refine vthn.e ?_
      refine vthn.e ?_
      refine vinB.e ?_
      refine vthn.n ?_
      refine VRun.seq ?_
      refine VRun.region ?_
      refine VRunO.free VWant.always (OF.move (VEv.tmp (t := (T.sl false 4 (a.map (eReport false)))) rfl)) ?_
      refine VRunO.look VWant.always (B.lenR (m := a.length) (VEv.tmp (t := (T.sl false 4 (a.map (eReport false)))) rfl) Try.underlying32 (List.length_map ..)) ?_
      refine VRunO.free VWant.always (B.leq (c := (decide (a.length ≤ 30))) (VEv.tmp (t := (T.int .i64 ((a.length : Nat) : Int))) rfl) (VEv.int .i64 30) (by first | exact hw _ (List.mem_of_getElem? hx1) | (exact decN (by omega)))) ?_
      refine VRunO.free VWant.always (OF.assign (VEv.tmp (t := (T.bool (decide (a.length ≤ 30)))) rfl)) ?_
      refine VRunO.nil ?_
      refine vthn.n ?_
      refine VRun.ret ?_
      refine vfin.eq (r' := (T.bool (decide (a.length ≤ 30)))) ?_ (vfin.r (VRes.tmp (t := (T.bool (decide (a.length ≤ 30)))) rfl VRes.nil) (Give.bool _))
      show (T.bool (decide (a.length ≤ 30))) = (T.bool (decide (areReports a)))
      refine congrArg T.bool ?_
      first | (refine decN ⟨fun h => ⟨by omega, allEnd hI' fhc0⟩, fun h => by have := h.1; omega⟩) | (symm; rw [decide_eq_false_iff_not]; rintro ⟨_, h2⟩; obtain ⟨y, hy, h3, h4, h5, h6, h7, h8⟩ := h2 i fhc0; obtain rfl := same_at hx1 hy; first | omega | (simp_all; done) | (exact h8 k fhc2 (fhc3 ▸ hx2)))
theorem W_impl_AreReports (n : Nat) (a : List D.Report) (hz : zL zReport a ≤ mx) : Pure (acall Try.prog (n + 3)) 23 [(T.sl false 4 (a.map (eReport false)))] (T.bool (decide (areReports a))) := by
  refine Pure.intro (rs := [ResultVar.tmp 2]) Try.func23 rfl rfl rfl (E0 := [(0, (T.sl false 4 (a.map (eReport false))))]) rfl ?_
  have hlim : lim = 1099511627776 := rfl
  have hmx : mx = 1048576 := rfl
  have hmax : maxLen = 9223372036854775807 := rfl
  have ha := zL_len (z := zReport) a
  have hw : ∀ x ∈ a, x.Word.size ≤ maxLen := fun x hx => by have h1 := zL_mem (z := zReport) hx; simp only [zReport] at h1; omega
  refine VRun.seq ?_
  refine VRun.region ?_
  refine VRunO.free VWant.always (OF.assign (VEv.bool false)) ?_
  refine VRunO.nil ?_
  refine vthn.n ?_
  refine VRun.seq ?_
  refine VRun.seq ?_
  refine VRun.region ?_
  refine VRunO.free VWant.always (OF.move (VEv.tmp (t := (T.sl false 4 (a.map (eReport false)))) rfl)) ?_
  refine VRunO.look VWant.always (B.lenR (m := a.length) (VEv.tmp (t := (T.sl false 4 (a.map (eReport false)))) rfl) Try.underlying32 (List.length_map ..)) ?_
  refine VRunO.free VWant.always (B.gtr (c := (decide (30 < a.length))) (VEv.tmp (t := (T.int .i64 ((a.length : Nat) : Int))) rfl) (VEv.int .i64 30) (by first | exact hw _ (List.mem_of_getElem? hx1) | (rw [List.length_take]; omega) | (exact decN (by omega)))) ?_
  refine VRunO.nil ?_
  refine vthn.n ?_
  refine VRun.cond (VEv.tmp (t := (T.bool (decide (30 < a.length)))) rfl) (fun hc0 => ?_) (fun hc0 => ?_)
  · have fhc0 : 30 < a.length := of_decide_eq_true hc0
    refine VRun.seq ?_
    refine VRun.region ?_
    refine VRunO.free VWant.always (OF.assign (VEv.bool false)) ?_
    refine VRunO.nil ?_
    refine vthn.n ?_
    refine VRun.ret ?_
    refine vthn.r ?_
    refine vfin.eq (r' := (T.bool false)) ?_ (vfin.r (VRes.tmp (t := (T.bool false)) rfl VRes.nil) (Give.bool _))
    show (T.bool false) = (T.bool (decide (areReports a)))
    refine congrArg T.bool ?_
    first | (symm; rw [decide_eq_false_iff_not]; rintro ⟨h2, _⟩; omega) | (symm; rw [decide_eq_true_eq]; exact ⟨by omega, allEnd hI' fhc1⟩) | (symm; rw [decide_eq_false_iff_not]; rintro ⟨_, h2⟩; obtain ⟨y, hy, h3, h4, h5, h6, h7, h8⟩ := h2 i fhc1; obtain rfl := same_at hx1 hy; first | omega | (simp_all; done) | (obtain ⟨k, hk, hk2⟩ := mem_take_iff.1 fhc2; exact h8 k hk hk2))
  · have fhc0 : ¬ (30 < a.length) := of_decide_eq_false hc0
    refine VRun.skip ?_
    refine vthn.n ?_
    refine VRun.seq ?_
    refine VRun.seq ?_
    refine VRun.region ?_
    refine VRunO.free VWant.always (OF.move (VEv.tmp (t := (T.sl false 4 (a.map (eReport false)))) rfl)) ?_
    refine VRunO.look VWant.always (B.lenR (m := a.length) (VEv.tmp (t := (T.sl false 4 (a.map (eReport false)))) rfl) Try.underlying32 (List.length_map ..)) ?_
    refine VRunO.free VWant.always (OF.move (VEv.int .i64 0)) ?_
    refine VRunO.nil ?_
    refine vthn.n ?_
    refine VRun.block ?_
    refine VRun.loop (A := Nat) (fun s_ => [(0, (T.sl false 4 (a.map (eReport false)))), (8, (T.sl false 4 (a.map (eReport false)))), (9, (T.int .i64 ((a.length : Nat) : Int))), (10, (T.int .i64 ((s_ : Nat) : Int)))]) (fun s_ => mkO []) 0 (fun s_ => s_ ≤ a.length ∧ ∀ j, j < s_ → repOk a j) (fun s_ => a.length - s_) (0 : Nat) ?_ (Wk.mk (fun k => k) ?_ ?_ ?_) ?_
    · exact ⟨Nat.zero_le _, fun j hj => by omega⟩
    · exact (ball_cons ⟨rfl, rfl⟩ (ball_cons ⟨rfl, rfl⟩ (ball_cons ⟨rfl, rfl⟩ (ball_cons ⟨(congrArg (T.int .i64) (show 0 = ((0 : Nat) : Int) from (by first | rfl | omega | (simp; done) | (push_cast; omega)))), rfl⟩ (ball_nil)))))
    · exact (ball_nil)
    · show List.Nodup ([] : List Nat)
      decide
    · rintro i hI
      have hI' : i ≤ a.length ∧ ∀ j, j < i → repOk a j := hI
      clear hI
      show VRun _ _ _ [(0, (T.sl false 4 (a.map (eReport false)))), (8, (T.sl false 4 (a.map (eReport false)))), (9, (T.int .i64 ((a.length : Nat) : Int))), (10, (T.int .i64 ((i : Nat) : Int)))] (mkO []) 0 _
      have hI0 := hI'
      refine VRun.seq ?_
      refine VRun.region ?_
      refine VRunO.free VWant.always (B.lss (c := (decide (i < a.length))) (VEv.tmp (t := (T.int .i64 ((i : Nat) : Int))) rfl) (VEv.tmp (t := (T.int .i64 ((a.length : Nat) : Int))) rfl) (by first | exact hw _ (List.mem_of_getElem? hx1) | (rw [List.length_take]; omega) | (exact decN (by omega)))) ?_
      refine VRunO.nil ?_
      refine vthn.n ?_
      refine VRun.seq ?_
      refine VRun.cond (VEv.tmp (t := (T.bool (decide (i < a.length)))) rfl) (fun hc1 => ?_) (fun hc1 => ?_)
      · have fhc1 : i < a.length := of_decide_eq_true hc1
        refine VRun.skip ?_
        refine vthn.n ?_
        refine VRun.seq ?_
        refine VRun.block ?_
        refine VRun.seq ?_
        refine VRun.region ?_
        refine VRunO.free VWant.always (OF.move (VEv.tmp (t := (T.int .i64 ((i : Nat) : Int))) rfl)) ?_
        obtain ⟨x1, hx1⟩ : ∃ x, a[i]? = some x := ⟨_, List.getElem?_eq_getElem (by first | exact hw _ (List.mem_of_getElem? hx1) | (rw [List.length_take]; omega) | omega | (simp only [List.length_map]; omega) | (simp only [List.length_map, List.length_append, List.length_cons, List.length_nil, List.length_replicate, List.length_set, List.length_drop, List.length_take, lim] at *; omega))⟩
        refine VRunO.free VWant.always (OF.indexAddrR (row := (eReport false x1)) (i := i) (VEv.tmp (t := (T.sl false 4 (a.map (eReport false)))) rfl) (VEv.tmp (t := (T.int .i64 ((i : Nat) : Int))) rfl) rfl (map_at _ hx1) Try.underlying32 sz48 if48) ?_
        refine VRunO.look VWant.always (OL.loadRn (us := (eReport false x1)) (VEv.tmp (t := (T.rp [(T.int .i64 x1.Tester), (T.int .i64 x1.Slot), (T.int .i64 x1.Kind), (T.str x1.Word)])) rfl) st48 sz48 (Nat.le_of_ble_eq_true rfl) rfl) ?_
        refine VRunO.make VWant.always (B.alloc (t := (T.agg [(T.int .i64 0), (T.int .i64 0), (T.int .i64 0), (T.str ByteArray.empty)])) (ts := [(T.int .i64 0), (T.int .i64 0), (T.int .i64 0), (T.str ByteArray.empty)]) zo48 zc48 nofun (fun _ => .agg _ _ rfl (RLof (RL.cons (.int _ _) (RL.cons (.int _ _) (RL.cons (.int _ _) (RL.cons (.str _) (RL.nil _))))))) rfl) ?_
        refine VRunO.free VWant.always (OF.assign (VEv.tmp (t := (T.int .i64 ((i : Nat) : Int))) rfl)) ?_
        refine VRunO.chain VWant.always (B.storeO (us := [(T.int .i64 x1.Tester), (T.int .i64 x1.Slot), (T.int .i64 x1.Kind), (T.str x1.Word)]) (ws := [(T.int .i64 x1.Tester), (T.int .i64 x1.Slot), (T.int .i64 x1.Kind), (T.str x1.Word)]) (VEv.tmp (t := (T.op 0 0)) rfl) (VEv.tmp (t := (T.agg (eReport false x1))) rfl) nofun rfl rfl (Nat.le_of_ble_eq_true rfl) if48 sz48 (ball_cons rfl (ball_cons rfl (ball_cons rfl (ball_cons rfl (ball_nil))))) rfl) ?_
        refine VRunO.nil ?_
        refine vthn.n ?_
        refine VRun.seq ?_
        refine VRun.seq ?_
        refine VRun.draw (B := [[], [0], [0, 1], [1, 0, 2], [2, 0, 1, 3], [3, 1, 0, 2, 4], [4, 2, 0, 1, 3, 5], [5, 3, 1, 0, 2, 4, 6], [6, 4, 2, 0, 1, 3, 5, 7], [7, 5, 6, 8, 3, 1, 0, 2, 4], [4, 2, 0, 1, 3, 8, 6, 5, 7, 9], [9, 7, 5, 6, 8, 3, 1, 0, 2, 4, 10], [10, 4, 2, 0, 1, 3, 8, 6, 5, 7, 9, 11], [11, 9, 7, 5, 6, 8, 3, 1, 0, 2, 4, 10, 12], [12, 10, 4, 2, 0, 1, 3, 8, 6, 5, 7, 9, 11, 13], [13, 11, 12, 14, 9, 7, 5, 6, 8, 3, 1, 0, 2, 4, 10], [10, 4, 2, 0, 1, 3, 8, 6, 5, 7, 9, 14, 12, 11, 13, 15], [15, 13, 11, 12, 14, 9, 7, 5, 6, 8, 3, 1, 0, 2, 4, 10, 16], [15, 13, 11, 12, 14, 9, 7, 5, 6, 8, 3, 1, 0, 2, 4, 10, 16], [18, 16, 10, 4, 2, 0, 1, 3, 8, 6, 5, 7, 9, 14, 12, 11, 13, 15, 17], [15, 13, 11, 12, 14, 9, 7, 5, 6, 8, 3, 1, 0, 2, 4, 10, 16], [20, 17, 15, 13, 11, 12, 14, 9, 7, 5, 6, 8, 3, 1, 0, 2, 4, 10, 16, 18, 19], [19, 18, 17, 20, 21, 15, 13, 11, 12, 14, 9, 7, 5, 6, 8, 3, 1, 0, 2, 4, 10, 16]]) (by kernel_rfl) (by kernel_rfl) ?_
        refine VRunD.free rfl VWant.always rfl (OF.fieldAddrO (VEv.tmp (t := (T.op 0 0)) rfl) fa48_0) ?_
        refine VRunD.look rfl VWant.always rfl (OL.loadO1 (t := (T.int .i64 x1.Tester)) (VEv.tmp (t := (T.op 0 0)) rfl) rfl rfl st3) ?_
        refine VRunD.quiet (bi := [0, 1]) rfl VWant.always rfl rfl rfl (ball_nil) (OC.callF (us := [(T.int .i64 x1.Tester), (T.int .i64 1), (T.int .i64 9)]) (r := (T.bool (decide (1 ≤ x1.Tester ∧ x1.Tester ≤ 9)))) (r' := (T.bool (decide (1 ≤ x1.Tester ∧ x1.Tester ≤ 9)))) (objs := []) rfl (VEvs.cons (VEv.tmp (t := (T.int .i64 x1.Tester)) rfl) (VEvs.cons (VEv.int .i64 1) (VEvs.cons (VEv.int .i64 9) VEvs.nil))) (LendL.cons (Lend.pl rfl) (LendL.cons (Lend.pl rfl) (LendL.cons (Lend.pl rfl) (LendL.nil)))) (W_impl_InRange (n + 1) x1.Tester 1 9 ) rfl) ?_
        refine VRunD.free rfl VWant.always rfl (B.not (c := (!(decide (1 ≤ x1.Tester ∧ x1.Tester ≤ 9)))) (VEv.tmp (t := (T.bool (decide (1 ≤ x1.Tester ∧ x1.Tester ≤ 9)))) rfl) rfl) ?_
        refine VRunD.free rfl VWant.always rfl (OF.move (VEv.tmp (t := (T.bool (!(decide (1 ≤ x1.Tester ∧ x1.Tester ≤ 9))))) rfl)) ?_
        refine bool_way (!(decide (1 ≤ x1.Tester ∧ x1.Tester ≤ 9))) (fun hg19_1 => ?_) (fun hg19_1 => ?_)
        · have fhg19_1 : ¬ (1 ≤ x1.Tester ∧ x1.Tester ≤ 9) := ndT hg19_1
          refine VRunD.off rfl (VWant.not (b := (!(decide (1 ≤ x1.Tester ∧ x1.Tester ≤ 9)))) rfl rfl hg19_1) ?_
          refine VRunD.off rfl (VWant.not (b := (!(decide (1 ≤ x1.Tester ∧ x1.Tester ≤ 9)))) rfl rfl hg19_1) ?_
          refine VRunD.off rfl (VWant.not (b := (!(decide (1 ≤ x1.Tester ∧ x1.Tester ≤ 9)))) rfl rfl hg19_1) ?_
          refine VRunD.off rfl (VWant.not (b := (!(decide (1 ≤ x1.Tester ∧ x1.Tester ≤ 9)))) rfl rfl hg19_1) ?_
          refine VRunD.free rfl VWant.always rfl (OF.pickT (VEv.tmpB (b := (!(decide (1 ≤ x1.Tester ∧ x1.Tester ≤ 9)))) rfl hg19_1) (VEv.bool true)) ?_
          refine VRunD.free rfl VWant.always rfl (OF.move (VEv.tmp (t := (T.bool true)) rfl)) ?_
          refine VRunD.off rfl (VWant.not (b := true) rfl rfl rfl) ?_
          refine VRunD.off rfl (VWant.not (b := true) rfl rfl rfl) ?_
          refine VRunD.off rfl (VWant.not (b := true) rfl rfl rfl) ?_
          refine VRunD.off rfl (VWant.not (b := true) rfl rfl rfl) ?_
          refine VRunD.free rfl VWant.always rfl (OF.pickT (VEv.tmp (t := (T.bool true)) rfl) (VEv.bool true)) ?_
          refine VRunD.free rfl VWant.always rfl (OF.move (VEv.tmp (t := (T.bool true)) rfl)) ?_
          refine VRunD.off rfl (VWant.not (b := true) rfl rfl rfl) ?_
          refine VRunD.off rfl (VWant.not (b := true) rfl rfl rfl) ?_
          refine VRunD.off rfl (VWant.not (b := true) rfl rfl rfl) ?_
          refine VRunD.off rfl (VWant.not (b := true) rfl rfl rfl) ?_
          refine VRunD.off rfl (VWant.not (b := true) rfl rfl rfl) ?_
          refine VRunD.free rfl VWant.always rfl (OF.pickT (VEv.tmp (t := (T.bool true)) rfl) (VEv.bool true)) ?_
          refine VRunD.nil ?_
          refine vthn.n ?_
          refine VRun.cond (VEv.tmp (t := (T.bool true)) rfl) (fun hk2 => ?_) (fun hk2 => ?_)
          · skip
            refine VRun.seq ?_
            refine VRun.region ?_
            refine VRunO.free VWant.always (OF.assign (VEv.bool false)) ?_
            refine VRunO.nil ?_
            refine vthn.n ?_
            refine VRun.ret ?_
            refine vthn.r ?_
            refine vinB.r ?_
            refine vthn.r ?_
            refine vthn.r ?_
            refine vinB.r ?_
            refine vthn.r ?_
            refine vfin.eq (r' := (T.bool false)) ?_ (vfin.r (VRes.tmp (t := (T.bool false)) rfl VRes.nil) (Give.bool _))
            show (T.bool false) = (T.bool (decide (areReports a)))
            refine congrArg T.bool ?_
            first | (symm; rw [decide_eq_false_iff_not]; rintro ⟨h2, _⟩; omega) | (symm; rw [decide_eq_true_eq]; exact ⟨by omega, allEnd hI' fhc1⟩) | (symm; rw [decide_eq_false_iff_not]; rintro ⟨_, h2⟩; obtain ⟨y, hy, h3, h4, h5, h6, h7, h8⟩ := h2 i fhc1; obtain rfl := same_at hx1 hy; first | omega | (simp_all; done) | (obtain ⟨k, hk, hk2⟩ := mem_take_iff.1 fhc2; exact h8 k hk hk2))
          · exact absurd (rfl.symm.trans hk2) (by decide)
        · have fhg19_1 : 1 ≤ x1.Tester ∧ x1.Tester ≤ 9 := ndF hg19_1
          refine VRunD.free rfl (VWant.on (b := (!(decide (1 ≤ x1.Tester ∧ x1.Tester ≤ 9)))) rfl rfl hg19_1) rfl (OF.fieldAddrO (VEv.tmp (t := (T.op 0 0)) rfl) fa48_1) ?_
          refine VRunD.look rfl (VWant.on (b := (!(decide (1 ≤ x1.Tester ∧ x1.Tester ≤ 9)))) rfl rfl hg19_1) rfl (OL.loadO1 (t := (T.int .i64 x1.Slot)) (VEv.tmp (t := (T.op 0 1)) rfl) rfl rfl st3) ?_
          refine VRunD.quiet (bi := [5, 3, 1, 0, 2, 4, 6]) rfl (VWant.on (b := (!(decide (1 ≤ x1.Tester ∧ x1.Tester ≤ 9)))) rfl rfl hg19_1) rfl rfl rfl (ball_nil) (OC.callF (us := [(T.int .i64 x1.Slot), (T.int .i64 0), (T.int .i64 99)]) (r := (T.bool (decide (0 ≤ x1.Slot ∧ x1.Slot ≤ 99)))) (r' := (T.bool (decide (0 ≤ x1.Slot ∧ x1.Slot ≤ 99)))) (objs := []) rfl (VEvs.cons (VEv.tmp (t := (T.int .i64 x1.Slot)) rfl) (VEvs.cons (VEv.int .i64 0) (VEvs.cons (VEv.int .i64 99) VEvs.nil))) (LendL.cons (Lend.pl rfl) (LendL.cons (Lend.pl rfl) (LendL.cons (Lend.pl rfl) (LendL.nil)))) (W_impl_InRange (n + 1) x1.Slot 0 99 ) rfl) ?_
          refine VRunD.free rfl (VWant.on (b := (!(decide (1 ≤ x1.Tester ∧ x1.Tester ≤ 9)))) rfl rfl hg19_1) rfl (B.not (c := (!(decide (0 ≤ x1.Slot ∧ x1.Slot ≤ 99)))) (VEv.tmp (t := (T.bool (decide (0 ≤ x1.Slot ∧ x1.Slot ≤ 99)))) rfl) rfl) ?_
          refine VRunD.free rfl VWant.always rfl (OF.pickF (VEv.tmpB (b := (!(decide (1 ≤ x1.Tester ∧ x1.Tester ≤ 9)))) rfl hg19_1) (VEv.tmp (t := (T.bool (!(decide (0 ≤ x1.Slot ∧ x1.Slot ≤ 99))))) rfl)) ?_
          refine VRunD.free rfl VWant.always rfl (OF.move (VEv.tmp (t := (T.bool (!(decide (0 ≤ x1.Slot ∧ x1.Slot ≤ 99))))) rfl)) ?_
          refine bool_way (!(decide (0 ≤ x1.Slot ∧ x1.Slot ≤ 99))) (fun hg25_3 => ?_) (fun hg25_3 => ?_)
          · have fhg25_3 : ¬ (0 ≤ x1.Slot ∧ x1.Slot ≤ 99) := ndT hg25_3
            refine VRunD.off rfl (VWant.not (b := (!(decide (0 ≤ x1.Slot ∧ x1.Slot ≤ 99)))) rfl rfl hg25_3) ?_
            refine VRunD.off rfl (VWant.not (b := (!(decide (0 ≤ x1.Slot ∧ x1.Slot ≤ 99)))) rfl rfl hg25_3) ?_
            refine VRunD.off rfl (VWant.not (b := (!(decide (0 ≤ x1.Slot ∧ x1.Slot ≤ 99)))) rfl rfl hg25_3) ?_
            refine VRunD.off rfl (VWant.not (b := (!(decide (0 ≤ x1.Slot ∧ x1.Slot ≤ 99)))) rfl rfl hg25_3) ?_
            refine VRunD.free rfl VWant.always rfl (OF.pickT (VEv.tmpB (b := (!(decide (0 ≤ x1.Slot ∧ x1.Slot ≤ 99)))) rfl hg25_3) (VEv.bool true)) ?_
            refine VRunD.free rfl VWant.always rfl (OF.move (VEv.tmp (t := (T.bool true)) rfl)) ?_
            refine VRunD.off rfl (VWant.not (b := true) rfl rfl rfl) ?_
            refine VRunD.off rfl (VWant.not (b := true) rfl rfl rfl) ?_
            refine VRunD.off rfl (VWant.not (b := true) rfl rfl rfl) ?_
            refine VRunD.off rfl (VWant.not (b := true) rfl rfl rfl) ?_
            refine VRunD.off rfl (VWant.not (b := true) rfl rfl rfl) ?_
            refine VRunD.free rfl VWant.always rfl (OF.pickT (VEv.tmp (t := (T.bool true)) rfl) (VEv.bool true)) ?_
            refine VRunD.nil ?_
            refine vthn.n ?_
            refine VRun.cond (VEv.tmp (t := (T.bool true)) rfl) (fun hk4 => ?_) (fun hk4 => ?_)
            · skip
              refine VRun.seq ?_
              refine VRun.region ?_
              refine VRunO.free VWant.always (OF.assign (VEv.bool false)) ?_
              refine VRunO.nil ?_
              refine vthn.n ?_
              refine VRun.ret ?_
              refine vthn.r ?_
              refine vinB.r ?_
              refine vthn.r ?_
              refine vthn.r ?_
              refine vinB.r ?_
              refine vthn.r ?_
              refine vfin.eq (r' := (T.bool false)) ?_ (vfin.r (VRes.tmp (t := (T.bool false)) rfl VRes.nil) (Give.bool _))
              show (T.bool false) = (T.bool (decide (areReports a)))
              refine congrArg T.bool ?_
              first | (symm; rw [decide_eq_false_iff_not]; rintro ⟨h2, _⟩; omega) | (symm; rw [decide_eq_true_eq]; exact ⟨by omega, allEnd hI' fhc1⟩) | (symm; rw [decide_eq_false_iff_not]; rintro ⟨_, h2⟩; obtain ⟨y, hy, h3, h4, h5, h6, h7, h8⟩ := h2 i fhc1; obtain rfl := same_at hx1 hy; first | omega | (simp_all; done) | (obtain ⟨k, hk, hk2⟩ := mem_take_iff.1 fhc2; exact h8 k hk hk2))
            · exact absurd (rfl.symm.trans hk4) (by decide)
          · have fhg25_3 : 0 ≤ x1.Slot ∧ x1.Slot ≤ 99 := ndF hg25_3
            refine VRunD.free rfl (VWant.on (b := (!(decide (0 ≤ x1.Slot ∧ x1.Slot ≤ 99)))) rfl rfl hg25_3) rfl (OF.fieldAddrO (VEv.tmp (t := (T.op 0 0)) rfl) fa48_2) ?_
            refine VRunD.look rfl (VWant.on (b := (!(decide (0 ≤ x1.Slot ∧ x1.Slot ≤ 99)))) rfl rfl hg25_3) rfl (OL.loadO1 (t := (T.int .i64 x1.Kind)) (VEv.tmp (t := (T.op 0 2)) rfl) rfl rfl st3) ?_
            refine VRunD.quiet (bi := [11, 9, 7, 5, 6, 8, 3, 1, 0, 2, 4, 10, 12]) rfl (VWant.on (b := (!(decide (0 ≤ x1.Slot ∧ x1.Slot ≤ 99)))) rfl rfl hg25_3) rfl rfl rfl (ball_nil) (OC.callF (us := [(T.int .i64 x1.Kind), (T.int .i64 1), (T.int .i64 3)]) (r := (T.bool (decide (1 ≤ x1.Kind ∧ x1.Kind ≤ 3)))) (r' := (T.bool (decide (1 ≤ x1.Kind ∧ x1.Kind ≤ 3)))) (objs := []) rfl (VEvs.cons (VEv.tmp (t := (T.int .i64 x1.Kind)) rfl) (VEvs.cons (VEv.int .i64 1) (VEvs.cons (VEv.int .i64 3) VEvs.nil))) (LendL.cons (Lend.pl rfl) (LendL.cons (Lend.pl rfl) (LendL.cons (Lend.pl rfl) (LendL.nil)))) (W_impl_InRange (n + 1) x1.Kind 1 3 ) rfl) ?_
            refine VRunD.free rfl (VWant.on (b := (!(decide (0 ≤ x1.Slot ∧ x1.Slot ≤ 99)))) rfl rfl hg25_3) rfl (B.not (c := (!(decide (1 ≤ x1.Kind ∧ x1.Kind ≤ 3)))) (VEv.tmp (t := (T.bool (decide (1 ≤ x1.Kind ∧ x1.Kind ≤ 3)))) rfl) rfl) ?_
            refine VRunD.free rfl VWant.always rfl (OF.pickF (VEv.tmpB (b := (!(decide (0 ≤ x1.Slot ∧ x1.Slot ≤ 99)))) rfl hg25_3) (VEv.tmp (t := (T.bool (!(decide (1 ≤ x1.Kind ∧ x1.Kind ≤ 3))))) rfl)) ?_
            refine VRunD.free rfl VWant.always rfl (OF.move (VEv.tmp (t := (T.bool (!(decide (1 ≤ x1.Kind ∧ x1.Kind ≤ 3))))) rfl)) ?_
            refine bool_way (!(decide (1 ≤ x1.Kind ∧ x1.Kind ≤ 3))) (fun hg31_5 => ?_) (fun hg31_5 => ?_)
            · have fhg31_5 : ¬ (1 ≤ x1.Kind ∧ x1.Kind ≤ 3) := ndT hg31_5
              refine VRunD.off rfl (VWant.not (b := (!(decide (1 ≤ x1.Kind ∧ x1.Kind ≤ 3)))) rfl rfl hg31_5) ?_
              refine VRunD.off rfl (VWant.not (b := (!(decide (1 ≤ x1.Kind ∧ x1.Kind ≤ 3)))) rfl rfl hg31_5) ?_
              refine VRunD.off rfl (VWant.not (b := (!(decide (1 ≤ x1.Kind ∧ x1.Kind ≤ 3)))) rfl rfl hg31_5) ?_
              refine VRunD.off rfl (VWant.not (b := (!(decide (1 ≤ x1.Kind ∧ x1.Kind ≤ 3)))) rfl rfl hg31_5) ?_
              refine VRunD.off rfl (VWant.not (b := (!(decide (1 ≤ x1.Kind ∧ x1.Kind ≤ 3)))) rfl rfl hg31_5) ?_
              refine VRunD.free rfl VWant.always rfl (OF.pickT (VEv.tmpB (b := (!(decide (1 ≤ x1.Kind ∧ x1.Kind ≤ 3)))) rfl hg31_5) (VEv.bool true)) ?_
              refine VRunD.nil ?_
              refine vthn.n ?_
              refine VRun.cond (VEv.tmp (t := (T.bool true)) rfl) (fun hk6 => ?_) (fun hk6 => ?_)
              · skip
                refine VRun.seq ?_
                refine VRun.region ?_
                refine VRunO.free VWant.always (OF.assign (VEv.bool false)) ?_
                refine VRunO.nil ?_
                refine vthn.n ?_
                refine VRun.ret ?_
                refine vthn.r ?_
                refine vinB.r ?_
                refine vthn.r ?_
                refine vthn.r ?_
                refine vinB.r ?_
                refine vthn.r ?_
                refine vfin.eq (r' := (T.bool false)) ?_ (vfin.r (VRes.tmp (t := (T.bool false)) rfl VRes.nil) (Give.bool _))
                show (T.bool false) = (T.bool (decide (areReports a)))
                refine congrArg T.bool ?_
                first | (symm; rw [decide_eq_false_iff_not]; rintro ⟨h2, _⟩; omega) | (symm; rw [decide_eq_true_eq]; exact ⟨by omega, allEnd hI' fhc1⟩) | (symm; rw [decide_eq_false_iff_not]; rintro ⟨_, h2⟩; obtain ⟨y, hy, h3, h4, h5, h6, h7, h8⟩ := h2 i fhc1; obtain rfl := same_at hx1 hy; first | omega | (simp_all; done) | (obtain ⟨k, hk, hk2⟩ := mem_take_iff.1 fhc2; exact h8 k hk hk2))
              · exact absurd (rfl.symm.trans hk6) (by decide)
            · have fhg31_5 : 1 ≤ x1.Kind ∧ x1.Kind ≤ 3 := ndF hg31_5
              refine VRunD.free rfl (VWant.on (b := (!(decide (1 ≤ x1.Kind ∧ x1.Kind ≤ 3)))) rfl rfl hg31_5) rfl (OF.move (VEv.tmp (t := (T.sl false 4 (a.map (eReport false)))) rfl)) ?_
              refine VRunD.free rfl (VWant.on (b := (!(decide (1 ≤ x1.Kind ∧ x1.Kind ≤ 3)))) rfl rfl hg31_5) rfl (OF.move (VEv.tmp (t := (T.int .i64 ((i : Nat) : Int))) rfl)) ?_
              refine VRunD.look rfl (VWant.on (b := (!(decide (1 ≤ x1.Kind ∧ x1.Kind ≤ 3)))) rfl rfl hg31_5) rfl (show OL _ _ _ _ _ (T.sl false 4 ((a.take i).map (eReport false))) by rw [List.map_take]; exact (OL.sliceRHi (j := i) (VEv.tmp (t := (T.sl false 4 (a.map (eReport false)))) rfl) (VEv.tmp (t := (T.int .i64 ((i : Nat) : Int))) rfl) rfl (by first | exact hw _ (List.mem_of_getElem? hx1) | (rw [List.length_take]; omega) | omega | (simp only [List.length_map]; omega) | (simp only [List.length_map, List.length_append, List.length_cons, List.length_nil, List.length_replicate, List.length_set, List.length_drop, List.length_take, lim] at *; omega)) Try.underlying32 sz48 if48)) ?_
              refine VRunD.look rfl (VWant.on (b := (!(decide (1 ≤ x1.Kind ∧ x1.Kind ≤ 3)))) rfl rfl hg31_5) rfl (OL.loadOn (us := (eReport false x1)) (VEv.tmp (t := (T.op 0 0)) rfl) rfl st48 sz48 (Nat.le_of_ble_eq_true rfl) rfl) ?_
              refine VRunD.quiet (bi := [20, 17, 15, 13, 11, 12, 14, 9, 7, 5, 6, 8, 3, 1, 0, 2, 4, 10, 16, 18, 19]) rfl (VWant.on (b := (!(decide (1 ≤ x1.Kind ∧ x1.Kind ≤ 3)))) rfl rfl hg31_5) rfl rfl rfl (ball_nil) (OC.callF (us := [(T.sl false 4 ((a.take i).map (eReport false))), (T.agg (eReport false x1))]) (r := (T.bool (decide (x1 ∈ (a.take i))))) (r' := (T.bool (decide (x1 ∈ (a.take i))))) (objs := []) rfl (VEvs.cons (VEv.tmp (t := (T.sl false 4 ((a.take i).map (eReport false)))) rfl) (VEvs.cons (VEv.tmp (t := (T.agg (eReport false x1))) rfl) VEvs.nil)) (LendL.cons (Lend.pl rfl) (LendL.cons (Lend.agg (LendL.cons (Lend.pl rfl) (LendL.cons (Lend.pl rfl) (LendL.cons (Lend.pl rfl) (LendL.cons (Lend.pl rfl) (LendL.nil)))))) (LendL.nil))) (W_slices_Contains_impl_Report_impl_Report_ (n + 0) (a.take i) x1 (by first | exact hw _ (List.mem_of_getElem? hx1) | (rw [List.length_take]; omega) | assumption | omega | (simp only [List.length_map]; omega) | (simp only [List.length_map, List.length_append, List.length_cons, List.length_nil, List.length_replicate, List.length_set, List.length_drop, List.length_take, lim] at *; omega))) rfl) ?_
              refine VRunD.free rfl VWant.always rfl (OF.pickF (VEv.tmpB (b := (!(decide (1 ≤ x1.Kind ∧ x1.Kind ≤ 3)))) rfl hg31_5) (VEv.tmp (t := (T.bool (decide (x1 ∈ (a.take i))))) rfl)) ?_
              refine VRunD.nil ?_
              refine vthn.n ?_
              refine VRun.cond (VEv.tmp (t := (T.bool (decide (x1 ∈ (a.take i))))) rfl) (fun hc2 => ?_) (fun hc2 => ?_)
              · have fhc2 : x1 ∈ (a.take i) := of_decide_eq_true hc2
                refine VRun.seq ?_
                refine VRun.region ?_
                refine VRunO.free VWant.always (OF.assign (VEv.bool false)) ?_
                refine VRunO.nil ?_
                refine vthn.n ?_
                refine VRun.ret ?_
                refine vthn.r ?_
                refine vinB.r ?_
                refine vthn.r ?_
                refine vthn.r ?_
                refine vinB.r ?_
                refine vthn.r ?_
                refine vfin.eq (r' := (T.bool false)) ?_ (vfin.r (VRes.tmp (t := (T.bool false)) rfl VRes.nil) (Give.bool _))
                show (T.bool false) = (T.bool (decide (areReports a)))
                refine congrArg T.bool ?_
                first | (symm; rw [decide_eq_false_iff_not]; rintro ⟨h2, _⟩; omega) | (symm; rw [decide_eq_true_eq]; exact ⟨by omega, allEnd hI' fhc1⟩) | (symm; rw [decide_eq_false_iff_not]; rintro ⟨_, h2⟩; obtain ⟨y, hy, h3, h4, h5, h6, h7, h8⟩ := h2 i fhc1; obtain rfl := same_at hx1 hy; first | omega | (simp_all; done) | (obtain ⟨k, hk, hk2⟩ := mem_take_iff.1 fhc2; exact h8 k hk hk2))
              · have fhc2 : ¬ (x1 ∈ (a.take i)) := of_decide_eq_false hc2
                refine VRun.skip ?_
                refine vthn.n ?_
                refine VRun.seq ?_
                refine VRun.region ?_
                refine VRunO.free VWant.always (OF.fieldAddrO (VEv.tmp (t := (T.op 0 0)) rfl) fa48_2) ?_
                refine VRunO.look VWant.always (OL.loadO1 (t := (T.int .i64 x1.Kind)) (VEv.tmp (t := (T.op 0 2)) rfl) rfl rfl st3) ?_
                refine VRunO.free VWant.always (B.eql (c := (decide (x1.Kind = 3))) (VEv.tmp (t := (T.int .i64 x1.Kind)) rfl) (VEv.int .i64 3) rfl) ?_
                refine VRunO.free VWant.always (OF.move (VEv.tmp (t := (T.bool (decide (x1.Kind = 3)))) rfl)) ?_
                refine bool_way (decide (x1.Kind = 3)) (fun hg41_7 => ?_) (fun hg41_7 => ?_)
                · have fhg41_7 : x1.Kind = 3 := of_decide_eq_true hg41_7
                  refine VRunO.free (VWant.on (b := (decide (x1.Kind = 3))) rfl rfl hg41_7) (OF.fieldAddrO (VEv.tmp (t := (T.op 0 0)) rfl) fa48_3) ?_
                  refine VRunO.look (VWant.on (b := (decide (x1.Kind = 3))) rfl rfl hg41_7) (OL.loadO1 (t := (T.str x1.Word)) (VEv.tmp (t := (T.op 0 3)) rfl) rfl rfl st9) ?_
                  refine VRunO.free (VWant.on (b := (decide (x1.Kind = 3))) rfl rfl hg41_7) (B.sneq (c := (!(decide (x1.Word = (⟨#[]⟩ : ByteArray))))) (VEv.tmp (t := (T.str x1.Word)) rfl) (VEv.str (⟨#[]⟩ : ByteArray)) rfl) ?_
                  refine VRunO.free VWant.always (OF.pickT (VEv.tmpB (b := (decide (x1.Kind = 3))) rfl hg41_7) (VEv.tmp (t := (T.bool (!(decide (x1.Word = (⟨#[]⟩ : ByteArray)))))) rfl)) ?_
                  refine VRunO.free VWant.always (OF.move (VEv.tmp (t := (T.bool (!(decide (x1.Word = (⟨#[]⟩ : ByteArray)))))) rfl)) ?_
                  refine bool_way (!(decide (x1.Word = (⟨#[]⟩ : ByteArray)))) (fun hg46_8 => ?_) (fun hg46_8 => ?_)
                  · have fhg46_8 : ¬ (x1.Word = (⟨#[]⟩ : ByteArray)) := ndT hg46_8
                    refine VRunO.off (VWant.not (b := (!(decide (x1.Word = (⟨#[]⟩ : ByteArray))))) rfl rfl hg46_8) ?_
                    refine VRunO.off (VWant.not (b := (!(decide (x1.Word = (⟨#[]⟩ : ByteArray))))) rfl rfl hg46_8) ?_
                    refine VRunO.off (VWant.not (b := (!(decide (x1.Word = (⟨#[]⟩ : ByteArray))))) rfl rfl hg46_8) ?_
                    refine VRunO.off (VWant.not (b := (!(decide (x1.Word = (⟨#[]⟩ : ByteArray))))) rfl rfl hg46_8) ?_
                    refine VRunO.off (VWant.undef rfl rfl) ?_
                    refine VRunO.off (VWant.undef rfl rfl) ?_
                    refine VRunO.off (VWant.undef rfl rfl) ?_
                    refine VRunO.off (VWant.undef rfl rfl) ?_
                    refine VRunO.off (VWant.not (b := (!(decide (x1.Word = (⟨#[]⟩ : ByteArray))))) rfl rfl hg46_8) ?_
                    refine VRunO.free VWant.always (OF.pickT (VEv.tmpB (b := (!(decide (x1.Word = (⟨#[]⟩ : ByteArray))))) rfl hg46_8) (VEv.bool true)) ?_
                    refine VRunO.nil ?_
                    refine vthn.n ?_
                    refine VRun.cond (VEv.tmp (t := (T.bool true)) rfl) (fun hk9 => ?_) (fun hk9 => ?_)
                    · skip
                      refine VRun.seq ?_
                      refine VRun.region ?_
                      refine VRunO.free VWant.always (OF.assign (VEv.bool false)) ?_
                      refine VRunO.nil ?_
                      refine vthn.n ?_
                      refine VRun.ret ?_
                      refine vinB.r ?_
                      refine vthn.r ?_
                      refine vthn.r ?_
                      refine vinB.r ?_
                      refine vthn.r ?_
                      refine vfin.eq (r' := (T.bool false)) ?_ (vfin.r (VRes.tmp (t := (T.bool false)) rfl VRes.nil) (Give.bool _))
                      show (T.bool false) = (T.bool (decide (areReports a)))
                      refine congrArg T.bool ?_
                      first | (symm; rw [decide_eq_false_iff_not]; rintro ⟨h2, _⟩; omega) | (symm; rw [decide_eq_true_eq]; exact ⟨by omega, allEnd hI' fhc1⟩) | (symm; rw [decide_eq_false_iff_not]; rintro ⟨_, h2⟩; obtain ⟨y, hy, h3, h4, h5, h6, h7, h8⟩ := h2 i fhc1; obtain rfl := same_at hx1 hy; first | omega | (simp_all; done) | (obtain ⟨k, hk, hk2⟩ := mem_take_iff.1 fhc2; exact h8 k hk hk2))
                    · exact absurd (rfl.symm.trans hk9) (by decide)
                  · have fhg46_8 : x1.Word = (⟨#[]⟩ : ByteArray) := ndF hg46_8
                    refine VRunO.free (VWant.on (b := (!(decide (x1.Word = (⟨#[]⟩ : ByteArray))))) rfl rfl hg46_8) (OF.fieldAddrO (VEv.tmp (t := (T.op 0 0)) rfl) fa48_2) ?_
                    refine VRunO.look (VWant.on (b := (!(decide (x1.Word = (⟨#[]⟩ : ByteArray))))) rfl rfl hg46_8) (OL.loadO1 (t := (T.int .i64 x1.Kind)) (VEv.tmp (t := (T.op 0 2)) rfl) rfl rfl st3) ?_
                    refine VRunO.free (VWant.on (b := (!(decide (x1.Word = (⟨#[]⟩ : ByteArray))))) rfl rfl hg46_8) (B.neq (c := (!(decide (x1.Kind = 3)))) (VEv.tmp (t := (T.int .i64 x1.Kind)) rfl) (VEv.int .i64 3) rfl) ?_
                    refine VRunO.free (VWant.on (b := (!(decide (x1.Word = (⟨#[]⟩ : ByteArray))))) rfl rfl hg46_8) (OF.move (VEv.tmp (t := (T.bool (!(decide (x1.Kind = 3))))) rfl)) ?_
                    refine VRunO.off (VWant.not (b := (!(decide (x1.Kind = 3)))) rfl rfl (nkT hg41_7)) ?_
                    refine VRunO.off (VWant.not (b := (!(decide (x1.Kind = 3)))) rfl rfl (nkT hg41_7)) ?_
                    refine VRunO.off (VWant.not (b := (!(decide (x1.Kind = 3)))) rfl rfl (nkT hg41_7)) ?_
                    refine VRunO.off (VWant.not (b := (!(decide (x1.Kind = 3)))) rfl rfl (nkT hg41_7)) ?_
                    refine VRunO.free (VWant.on (b := (!(decide (x1.Word = (⟨#[]⟩ : ByteArray))))) rfl rfl hg46_8) (OF.pickF (VEv.tmpB (b := (!(decide (x1.Kind = 3)))) rfl (nkT hg41_7)) (VEv.bool false)) ?_
                    refine VRunO.free VWant.always (OF.pickF (VEv.tmpB (b := (!(decide (x1.Word = (⟨#[]⟩ : ByteArray))))) rfl hg46_8) (VEv.tmp (t := (T.bool false)) rfl)) ?_
                    refine VRunO.nil ?_
                    refine vthn.n ?_
                    refine VRun.cond (VEv.tmp (t := (T.bool false)) rfl) (fun hk10 => ?_) (fun hk10 => ?_)
                    · exact absurd (rfl.symm.trans hk10) (by decide)
                    · skip
                      refine VRun.skip ?_
                      refine vinB.n ?_
                      refine vthn.n ?_
                      refine VRun.region ?_
                      refine VRunO.free VWant.always (B.add (n := (((i + 1) : Nat) : Int)) (VEv.tmp (t := (T.int .i64 ((i : Nat) : Int))) rfl) (VEv.int .i64 1) (by first | exact hw _ (List.mem_of_getElem? hx1) | (rw [List.length_take]; omega) | rfl | (rw [wrap64 (by omega)]; done) | (rw [wrap64 (by omega)]; omega) | (rw [wrap64 (by omega)]; push_cast; omega) | omega)) ?_
                      refine VRunO.free VWant.always (OF.move (VEv.tmp (t := (T.int .i64 (((i + 1) : Nat) : Int))) rfl)) ?_
                      refine VRunO.nil ?_
                      refine vthn.n ?_
                      refine ⟨(i + 1 : Nat), ?_, ?_, Wk.mk (fun k => k) ?_ ?_ ?_⟩
                      · refine allNext hI0 fhc1 ⟨x1, hx1, by omega, by omega, by omega, ?_, ?_, fun q hq hh => fhc2 (mem_take_iff.2 ⟨q, hq, hh⟩)⟩
                        · intro h; first | assumption | omega
                        · intro h; first | assumption | omega
                      · first | omega | (simp only []; omega) | (show _ < _; omega) | (simp; omega)
                      · exact (ball_cons ⟨rfl, rfl⟩ (ball_cons ⟨rfl, rfl⟩ (ball_cons ⟨rfl, rfl⟩ (ball_cons ⟨rfl, rfl⟩ (ball_nil)))))
                      · exact (ball_nil)
                      · show List.Nodup ([] : List Nat)
                        decide
                · have fhg41_7 : ¬ (x1.Kind = 3) := of_decide_eq_false hg41_7
                  refine VRunO.off (VWant.not (b := (decide (x1.Kind = 3))) rfl rfl hg41_7) ?_
                  refine VRunO.off (VWant.not (b := (decide (x1.Kind = 3))) rfl rfl hg41_7) ?_
                  refine VRunO.off (VWant.not (b := (decide (x1.Kind = 3))) rfl rfl hg41_7) ?_
                  refine VRunO.free VWant.always (OF.pickF (VEv.tmpB (b := (decide (x1.Kind = 3))) rfl hg41_7) (VEv.bool false)) ?_
                  refine VRunO.free VWant.always (OF.move (VEv.tmp (t := (T.bool false)) rfl)) ?_
                  refine VRunO.free (VWant.on (b := false) rfl rfl rfl) (OF.fieldAddrO (VEv.tmp (t := (T.op 0 0)) rfl) fa48_2) ?_
                  refine VRunO.look (VWant.on (b := false) rfl rfl rfl) (OL.loadO1 (t := (T.int .i64 x1.Kind)) (VEv.tmp (t := (T.op 0 2)) rfl) rfl rfl st3) ?_
                  refine VRunO.free (VWant.on (b := false) rfl rfl rfl) (B.neq (c := (!(decide (x1.Kind = 3)))) (VEv.tmp (t := (T.int .i64 x1.Kind)) rfl) (VEv.int .i64 3) rfl) ?_
                  refine VRunO.free (VWant.on (b := false) rfl rfl rfl) (OF.move (VEv.tmp (t := (T.bool (!(decide (x1.Kind = 3))))) rfl)) ?_
                  refine VRunO.free (VWant.on (b := (!(decide (x1.Kind = 3)))) rfl rfl (nkF hg41_7)) (OF.fieldAddrO (VEv.tmp (t := (T.op 0 0)) rfl) fa48_3) ?_
                  refine VRunO.look (VWant.on (b := (!(decide (x1.Kind = 3)))) rfl rfl (nkF hg41_7)) (OL.loadO1 (t := (T.str x1.Word)) (VEv.tmp (t := (T.op 0 3)) rfl) rfl rfl st9) ?_
                  refine VRunO.chain (VWant.on (b := (!(decide (x1.Kind = 3)))) rfl rfl (nkF hg41_7)) (OC.callF (us := [(T.str x1.Word)]) (r := (T.bool (decide (isWord x1.Word)))) (r' := (T.bool (decide (isWord x1.Word)))) (objs := []) rfl (VEvs.cons (VEv.tmp (t := (T.str x1.Word)) rfl) VEvs.nil) (LendL.cons (Lend.pl rfl) (LendL.nil)) (W_impl_IsWord (n + 0) x1.Word (by first | exact hw _ (List.mem_of_getElem? hx1) | (rw [List.length_take]; omega) | assumption | omega | (simp only [List.length_map]; omega) | (simp only [List.length_map, List.length_append, List.length_cons, List.length_nil, List.length_replicate, List.length_set, List.length_drop, List.length_take, lim] at *; omega))) rfl) ?_
                  refine VRunO.free (VWant.on (b := (!(decide (x1.Kind = 3)))) rfl rfl (nkF hg41_7)) (B.not (c := (!(decide (isWord x1.Word)))) (VEv.tmp (t := (T.bool (decide (isWord x1.Word)))) rfl) rfl) ?_
                  refine VRunO.free (VWant.on (b := false) rfl rfl rfl) (OF.pickT (VEv.tmpB (b := (!(decide (x1.Kind = 3)))) rfl (nkF hg41_7)) (VEv.tmp (t := (T.bool (!(decide (isWord x1.Word))))) rfl)) ?_
                  refine VRunO.free VWant.always (OF.pickF (VEv.tmp (t := (T.bool false)) rfl) (VEv.tmp (t := (T.bool (!(decide (isWord x1.Word))))) rfl)) ?_
                  refine VRunO.nil ?_
                  refine vthn.n ?_
                  refine VRun.cond (VEv.tmp (t := (T.bool (!(decide (isWord x1.Word))))) rfl) (fun hc3 => ?_) (fun hc3 => ?_)
                  · have fhc3 : ¬ (isWord x1.Word) := ndT hc3
                    refine VRun.seq ?_
                    refine VRun.region ?_
                    refine VRunO.free VWant.always (OF.assign (VEv.bool false)) ?_
                    refine VRunO.nil ?_
                    refine vthn.n ?_
                    refine VRun.ret ?_
                    refine vinB.r ?_
                    refine vthn.r ?_
                    refine vthn.r ?_
                    refine vinB.r ?_
                    refine vthn.r ?_
                    refine vfin.eq (r' := (T.bool false)) ?_ (vfin.r (VRes.tmp (t := (T.bool false)) rfl VRes.nil) (Give.bool _))
                    show (T.bool false) = (T.bool (decide (areReports a)))
                    refine congrArg T.bool ?_
                    first | (symm; rw [decide_eq_false_iff_not]; rintro ⟨h2, _⟩; omega) | (symm; rw [decide_eq_true_eq]; exact ⟨by omega, allEnd hI' fhc1⟩) | (symm; rw [decide_eq_false_iff_not]; rintro ⟨_, h2⟩; obtain ⟨y, hy, h3, h4, h5, h6, h7, h8⟩ := h2 i fhc1; obtain rfl := same_at hx1 hy; first | omega | (simp_all; done) | (obtain ⟨k, hk, hk2⟩ := mem_take_iff.1 fhc2; exact h8 k hk hk2))
                  · have fhc3 : isWord x1.Word := ndF hc3
                    refine VRun.skip ?_
                    refine vinB.n ?_
                    refine vthn.n ?_
                    refine VRun.region ?_
                    refine VRunO.free VWant.always (B.add (n := (((i + 1) : Nat) : Int)) (VEv.tmp (t := (T.int .i64 ((i : Nat) : Int))) rfl) (VEv.int .i64 1) (by first | exact hw _ (List.mem_of_getElem? hx1) | (rw [List.length_take]; omega) | rfl | (rw [wrap64 (by omega)]; done) | (rw [wrap64 (by omega)]; omega) | (rw [wrap64 (by omega)]; push_cast; omega) | omega)) ?_
                    refine VRunO.free VWant.always (OF.move (VEv.tmp (t := (T.int .i64 (((i + 1) : Nat) : Int))) rfl)) ?_
                    refine VRunO.nil ?_
                    refine vthn.n ?_
                    refine ⟨(i + 1 : Nat), ?_, ?_, Wk.mk (fun k => k) ?_ ?_ ?_⟩
                    · refine allNext hI0 fhc1 ⟨x1, hx1, by omega, by omega, by omega, ?_, ?_, fun q hq hh => fhc2 (mem_take_iff.2 ⟨q, hq, hh⟩)⟩
                      · intro h; first | assumption | omega
                      · intro h; first | assumption | omega
                    · first | omega | (simp only []; omega) | (show _ < _; omega) | (simp; omega)
                    · exact (ball_cons ⟨rfl, rfl⟩ (ball_cons ⟨rfl, rfl⟩ (ball_cons ⟨rfl, rfl⟩ (ball_cons ⟨rfl, rfl⟩ (ball_nil)))))
                    · exact (ball_nil)
                    · show List.Nodup ([] : List Nat)
                      decide
      · have fhc1 : ¬ (i < a.length) := of_decide_eq_false hc1
        refine VRun.exit ?_
        refine vthn.e ?_
        refine vthn.e ?_
        refine vinB.e ?_
        refine vthn.n ?_
        refine VRun.seq ?_
        refine VRun.region ?_
        refine VRunO.free VWant.always (OF.assign (VEv.bool true)) ?_
        refine VRunO.nil ?_
        refine vthn.n ?_
        refine VRun.ret ?_
        refine vfin.eq (r' := (T.bool true)) ?_ (vfin.r (VRes.tmp (t := (T.bool true)) rfl VRes.nil) (Give.bool _))
        show (T.bool true) = (T.bool (decide (areReports a)))
        refine congrArg T.bool ?_
        first | (symm; rw [decide_eq_false_iff_not]; rintro ⟨h2, _⟩; omega) | (symm; rw [decide_eq_true_eq]; exact ⟨by omega, allEnd hI' fhc1⟩) | (symm; rw [decide_eq_false_iff_not]; rintro ⟨_, h2⟩; obtain ⟨y, hy, h3, h4, h5, h6, h7, h8⟩ := h2 i fhc1; obtain rfl := same_at hx1 hy; first | omega | (simp_all; done) | (obtain ⟨k, hk, hk2⟩ := mem_take_iff.1 fhc2; exact h8 k hk hk2))
end Go.Proofs.Ythdnjihmjdbdkaa.AE
