/- Walks of the program's functions over trees. Conditions: as each theorem states. -/
import Derived.Test.YthdnjihmjdbdkaaKFnExactAreCorrectionsVplay
namespace Go.Proofs.Ythdnjihmjdbdkaa.AE
open Go Go.RowKit
set_option linter.unusedVariables false
set_option linter.unusedSimpArgs false
set_option maxRecDepth 20000
set_option maxHeartbeats 2000000

theorem W_spec_IsClue (n : Nat) (a : D.Clue) (hz : zClue a ≤ mx) : Pure (acall Try.prog (n + 5)) 104 [(T.agg (eClue false a))] (T.bool (decide ((1 ≤ a.Sense ∧ a.Sense ≤ 99) ∧ isPlay a.Play))) := by
  refine Pure.intro (rs := [ResultVar.tmp 2]) Try.func104 rfl rfl rfl (E0 := [(0, (T.agg (eClue false a)))]) rfl ?_
  have hlim : lim = 1099511627776 := rfl
  have hmx : mx = 1048576 := rfl
  have hmax : maxLen = 9223372036854775807 := rfl
  simp only [zClue] at hz
  refine VRun.seq ?_
  refine VRun.region ?_
  refine VRunO.make VWant.always (B.box (ts := [(T.int .i64 a.Sense), (T.sl false 4 (a.Play.map (eStep false)))]) (VEv.tmp (t := (T.agg (eClue false a))) rfl) nofun rfl) ?_
  refine VRunO.free VWant.always (OF.assign (VEv.bool false)) ?_
  refine VRunO.nil ?_
  refine vthn.n ?_
  refine VRun.seq ?_
  refine VRun.region ?_
  refine VRunO.free VWant.always (OF.fieldAddrO (VEv.tmp (t := (T.op 0 0)) rfl) fa115_0) ?_
  refine VRunO.look VWant.always (OL.loadO1 (t := (T.int .i64 a.Sense)) (VEv.tmp (t := (T.op 0 0)) rfl) rfl rfl st3) ?_
  refine VRunO.chain VWant.always (OC.callF (us := [(T.int .i64 a.Sense), (T.int .i64 1), (T.int .i64 99)]) (r := (T.bool (decide (1 ≤ a.Sense ∧ a.Sense ≤ 99)))) (r' := (T.bool (decide (1 ≤ a.Sense ∧ a.Sense ≤ 99)))) (objs := []) rfl (VEvs.cons (VEv.tmp (t := (T.int .i64 a.Sense)) rfl) (VEvs.cons (VEv.int .i64 1) (VEvs.cons (VEv.int .i64 99) VEvs.nil))) (LendL.cons (Lend.pl rfl) (LendL.cons (Lend.pl rfl) (LendL.cons (Lend.pl rfl) (LendL.nil)))) (W_spec_l1In (n + 3) a.Sense 1 99 ) rfl) ?_
  refine VRunO.free VWant.always (OF.move (VEv.tmp (t := (T.bool (decide (1 ≤ a.Sense ∧ a.Sense ≤ 99)))) rfl)) ?_
  refine bool_way (decide (1 ≤ a.Sense ∧ a.Sense ≤ 99)) (fun hg6_1 => ?_) (fun hg6_1 => ?_)
  · have fhg6_1 : 1 ≤ a.Sense ∧ a.Sense ≤ 99 := of_decide_eq_true hg6_1
    refine VRunO.free (VWant.on (b := (decide (1 ≤ a.Sense ∧ a.Sense ≤ 99))) rfl rfl hg6_1) (OF.fieldAddrO (VEv.tmp (t := (T.op 0 0)) rfl) fa115_1) ?_
    refine VRunO.look (VWant.on (b := (decide (1 ≤ a.Sense ∧ a.Sense ≤ 99))) rfl rfl hg6_1) (OL.loadO1 (t := (T.sl false 4 (a.Play.map (eStep false)))) (VEv.tmp (t := (T.op 0 1)) rfl) rfl rfl st113) ?_
    refine VRunO.chain (VWant.on (b := (decide (1 ≤ a.Sense ∧ a.Sense ≤ 99))) rfl rfl hg6_1) (OC.callF (us := [(T.sl false 4 (a.Play.map (eStep false)))]) (r := (T.bool (decide (isPlay a.Play)))) (r' := (T.bool (decide (isPlay a.Play)))) (objs := []) rfl (VEvs.cons (VEv.tmp (t := (T.sl false 4 (a.Play.map (eStep false)))) rfl) VEvs.nil) (LendL.cons (Lend.pl rfl) (LendL.nil)) (W_spec_IsPlay (n + 0) a.Play (by first | assumption | omega | (simp only [List.length_map]; omega) | (simp only [List.length_map, List.length_append, List.length_cons, List.length_nil, List.length_replicate, List.length_set, List.length_drop, List.length_take, lim] at *; omega))) rfl) ?_
    refine VRunO.free VWant.always (OF.pickT (VEv.tmpB (b := (decide (1 ≤ a.Sense ∧ a.Sense ≤ 99))) rfl hg6_1) (VEv.tmp (t := (T.bool (decide (isPlay a.Play)))) rfl)) ?_
    refine VRunO.free VWant.always (OF.assign (VEv.tmp (t := (T.bool (decide (isPlay a.Play)))) rfl)) ?_
    refine VRunO.nil ?_
    refine vthn.n ?_
    refine VRun.ret ?_
    refine vfin.eq (r' := (T.bool (decide (isPlay a.Play)))) ?_ (vfin.r (VRes.tmp (t := (T.bool (decide (isPlay a.Play)))) rfl VRes.nil) (Give.bool _))
    show (T.bool (decide (isPlay a.Play))) = (T.bool (decide ((1 ≤ a.Sense ∧ a.Sense ≤ 99) ∧ isPlay a.Play)))
    refine congrArg T.bool ?_
    first | (symm; rw [decide_eq_false_iff_not]; rintro ⟨h1, h2⟩; contradiction) | (refine decN ⟨fun h => ⟨?_, h⟩, fun h => h.2⟩; assumption)
  · have fhg6_1 : ¬ (1 ≤ a.Sense ∧ a.Sense ≤ 99) := of_decide_eq_false hg6_1
    refine VRunO.off (VWant.not (b := (decide (1 ≤ a.Sense ∧ a.Sense ≤ 99))) rfl rfl hg6_1) ?_
    refine VRunO.off (VWant.not (b := (decide (1 ≤ a.Sense ∧ a.Sense ≤ 99))) rfl rfl hg6_1) ?_
    refine VRunO.off (VWant.not (b := (decide (1 ≤ a.Sense ∧ a.Sense ≤ 99))) rfl rfl hg6_1) ?_
    refine VRunO.free VWant.always (OF.pickF (VEv.tmpB (b := (decide (1 ≤ a.Sense ∧ a.Sense ≤ 99))) rfl hg6_1) (VEv.bool false)) ?_
    refine VRunO.free VWant.always (OF.assign (VEv.tmp (t := (T.bool false)) rfl)) ?_
    refine VRunO.nil ?_
    refine vthn.n ?_
    refine VRun.ret ?_
    refine vfin.eq (r' := (T.bool false)) ?_ (vfin.r (VRes.tmp (t := (T.bool false)) rfl VRes.nil) (Give.bool _))
    show (T.bool false) = (T.bool (decide ((1 ≤ a.Sense ∧ a.Sense ≤ 99) ∧ isPlay a.Play)))
    refine congrArg T.bool ?_
    first | (symm; rw [decide_eq_false_iff_not]; rintro ⟨h1, h2⟩; contradiction) | (refine decN ⟨fun h => ⟨?_, h⟩, fun h => h.2⟩; assumption)
theorem W_impl_IsClue (n : Nat) (a : D.Clue) (hz : zClue a ≤ mx) : Pure (acall Try.prog (n + 4)) 105 [(T.agg (eClue false a))] (T.bool (decide ((1 ≤ a.Sense ∧ a.Sense ≤ 99) ∧ isPlay a.Play))) := by
  refine Pure.intro (rs := [ResultVar.tmp 2]) Try.func105 rfl rfl rfl (E0 := [(0, (T.agg (eClue false a)))]) rfl ?_
  have hlim : lim = 1099511627776 := rfl
  have hmx : mx = 1048576 := rfl
  have hmax : maxLen = 9223372036854775807 := rfl
  simp only [zClue] at hz
  refine VRun.seq ?_
  refine VRun.region ?_
  refine VRunO.make VWant.always (B.box (ts := [(T.int .i64 a.Sense), (T.sl false 4 (a.Play.map (eStep false)))]) (VEv.tmp (t := (T.agg (eClue false a))) rfl) nofun rfl) ?_
  refine VRunO.free VWant.always (OF.assign (VEv.bool false)) ?_
  refine VRunO.nil ?_
  refine vthn.n ?_
  refine VRun.seq ?_
  refine VRun.region ?_
  refine VRunO.free VWant.always (OF.fieldAddrO (VEv.tmp (t := (T.op 0 0)) rfl) fa115_0) ?_
  refine VRunO.look VWant.always (OL.loadO1 (t := (T.int .i64 a.Sense)) (VEv.tmp (t := (T.op 0 0)) rfl) rfl rfl st3) ?_
  refine VRunO.chain VWant.always (OC.callF (us := [(T.int .i64 a.Sense), (T.int .i64 1), (T.int .i64 99)]) (r := (T.bool (decide (1 ≤ a.Sense ∧ a.Sense ≤ 99)))) (r' := (T.bool (decide (1 ≤ a.Sense ∧ a.Sense ≤ 99)))) (objs := []) rfl (VEvs.cons (VEv.tmp (t := (T.int .i64 a.Sense)) rfl) (VEvs.cons (VEv.int .i64 1) (VEvs.cons (VEv.int .i64 99) VEvs.nil))) (LendL.cons (Lend.pl rfl) (LendL.cons (Lend.pl rfl) (LendL.cons (Lend.pl rfl) (LendL.nil)))) (W_impl_InRange (n + 2) a.Sense 1 99 ) rfl) ?_
  refine VRunO.free VWant.always (OF.move (VEv.tmp (t := (T.bool (decide (1 ≤ a.Sense ∧ a.Sense ≤ 99)))) rfl)) ?_
  refine bool_way (decide (1 ≤ a.Sense ∧ a.Sense ≤ 99)) (fun hg6_1 => ?_) (fun hg6_1 => ?_)
  · have fhg6_1 : 1 ≤ a.Sense ∧ a.Sense ≤ 99 := of_decide_eq_true hg6_1
    refine VRunO.free (VWant.on (b := (decide (1 ≤ a.Sense ∧ a.Sense ≤ 99))) rfl rfl hg6_1) (OF.fieldAddrO (VEv.tmp (t := (T.op 0 0)) rfl) fa115_1) ?_
    refine VRunO.look (VWant.on (b := (decide (1 ≤ a.Sense ∧ a.Sense ≤ 99))) rfl rfl hg6_1) (OL.loadO1 (t := (T.sl false 4 (a.Play.map (eStep false)))) (VEv.tmp (t := (T.op 0 1)) rfl) rfl rfl st113) ?_
    refine VRunO.chain (VWant.on (b := (decide (1 ≤ a.Sense ∧ a.Sense ≤ 99))) rfl rfl hg6_1) (OC.callF (us := [(T.sl false 4 (a.Play.map (eStep false)))]) (r := (T.bool (decide (isPlay a.Play)))) (r' := (T.bool (decide (isPlay a.Play)))) (objs := []) rfl (VEvs.cons (VEv.tmp (t := (T.sl false 4 (a.Play.map (eStep false)))) rfl) VEvs.nil) (LendL.cons (Lend.pl rfl) (LendL.nil)) (W_impl_IsPlay (n + 0) a.Play (by first | assumption | omega | (simp only [List.length_map]; omega) | (simp only [List.length_map, List.length_append, List.length_cons, List.length_nil, List.length_replicate, List.length_set, List.length_drop, List.length_take, lim] at *; omega))) rfl) ?_
    refine VRunO.free VWant.always (OF.pickT (VEv.tmpB (b := (decide (1 ≤ a.Sense ∧ a.Sense ≤ 99))) rfl hg6_1) (VEv.tmp (t := (T.bool (decide (isPlay a.Play)))) rfl)) ?_
    refine VRunO.free VWant.always (OF.assign (VEv.tmp (t := (T.bool (decide (isPlay a.Play)))) rfl)) ?_
    refine VRunO.nil ?_
    refine vthn.n ?_
    refine VRun.ret ?_
    refine vfin.eq (r' := (T.bool (decide (isPlay a.Play)))) ?_ (vfin.r (VRes.tmp (t := (T.bool (decide (isPlay a.Play)))) rfl VRes.nil) (Give.bool _))
    show (T.bool (decide (isPlay a.Play))) = (T.bool (decide ((1 ≤ a.Sense ∧ a.Sense ≤ 99) ∧ isPlay a.Play)))
    refine congrArg T.bool ?_
    first | (symm; rw [decide_eq_false_iff_not]; rintro ⟨h1, h2⟩; contradiction) | (refine decN ⟨fun h => ⟨?_, h⟩, fun h => h.2⟩; assumption)
  · have fhg6_1 : ¬ (1 ≤ a.Sense ∧ a.Sense ≤ 99) := of_decide_eq_false hg6_1
    refine VRunO.off (VWant.not (b := (decide (1 ≤ a.Sense ∧ a.Sense ≤ 99))) rfl rfl hg6_1) ?_
    refine VRunO.off (VWant.not (b := (decide (1 ≤ a.Sense ∧ a.Sense ≤ 99))) rfl rfl hg6_1) ?_
    refine VRunO.off (VWant.not (b := (decide (1 ≤ a.Sense ∧ a.Sense ≤ 99))) rfl rfl hg6_1) ?_
    refine VRunO.free VWant.always (OF.pickF (VEv.tmpB (b := (decide (1 ≤ a.Sense ∧ a.Sense ≤ 99))) rfl hg6_1) (VEv.bool false)) ?_
    refine VRunO.free VWant.always (OF.assign (VEv.tmp (t := (T.bool false)) rfl)) ?_
    refine VRunO.nil ?_
    refine vthn.n ?_
    refine VRun.ret ?_
    refine vfin.eq (r' := (T.bool false)) ?_ (vfin.r (VRes.tmp (t := (T.bool false)) rfl VRes.nil) (Give.bool _))
    show (T.bool false) = (T.bool (decide ((1 ≤ a.Sense ∧ a.Sense ≤ 99) ∧ isPlay a.Play)))
    refine congrArg T.bool ?_
    first | (symm; rw [decide_eq_false_iff_not]; rintro ⟨h1, h2⟩; contradiction) | (refine decN ⟨fun h => ⟨?_, h⟩, fun h => h.2⟩; assumption)
noncomputable section
def clueOk (c : D.Clue) : Prop := (1 ≤ c.Sense ∧ c.Sense ≤ 99) ∧ isPlay c.Play
def corrOk (l : List D.Correction) (j : Nat) : Prop := ∃ x, l[j]? = some x ∧ (1 ≤ x.Issue ∧ x.Issue ≤ 999) ∧ (0 ≤ x.Slot ∧ x.Slot ≤ 99) ∧ ((1 ≤ x.Clue.Sense ∧ x.Clue.Sense ≤ 99) ∧ isPlay x.Clue.Play) ∧ (0 ≤ x.Tick ∧ x.Tick ≤ 1000) ∧ (0 < j → ∃ y, l[j - 1]? = some y ∧ ¬ x.Tick < y.Tick)
def areCorrections (l : List D.Correction) : Prop := l.length ≤ 12 ∧ ∀ j, j < l.length → corrOk l j
instance (l : List D.Correction) : Decidable (areCorrections l) := Classical.propDecidable _
end
theorem W_spec_AreCorrections (n : Nat) (a : List D.Correction) (hz : zL zCorrection a ≤ mx) : Pure (acall Try.prog (n + 6)) 45 [(T.sl false 5 (a.map (eCorrection false)))] (T.bool (decide (areCorrections a))) := by
  refine Pure.intro (rs := [ResultVar.tmp 2]) Try.func45 rfl rfl rfl (E0 := [(0, (T.sl false 5 (a.map (eCorrection false))))]) rfl ?_
  have hlim : lim = 1099511627776 := rfl
  have hmx : mx = 1048576 := rfl
  have hmax : maxLen = 9223372036854775807 := rfl
  have ha := zL_len (z := zCorrection) a
  have hw : ∀ x ∈ a, zClue x.Clue ≤ mx := fun x hx => by have h1 := zL_mem (z := zCorrection) hx; simp only [zCorrection] at h1; omega
  refine VRun.seq ?_
  refine VRun.region ?_
  refine VRunO.free VWant.always (OF.assign (VEv.bool false)) ?_
  refine VRunO.nil ?_
  refine vthn.n ?_
  refine VRun.seq ?_
  refine VRun.seq ?_
  refine VRun.region ?_
  refine VRunO.free VWant.always (OF.assign (VEv.int .i64 0)) ?_
  refine VRunO.nil ?_
  refine vthn.n ?_
  refine VRun.block ?_
  refine VRun.loop (A := Nat) (fun s_ => [(0, (T.sl false 5 (a.map (eCorrection false)))), (3, (T.int .i64 ((s_ : Nat) : Int)))]) (fun s_ => mkO []) 0 (fun s_ => s_ ≤ a.length ∧ ∀ j, j < s_ → corrOk a j) (fun s_ => a.length - s_) (0 : Nat) ?_ (Wk.mk (fun k => k) ?_ ?_ ?_) ?_
  · exact ⟨Nat.zero_le _, fun j hj => by omega⟩
  · exact (ball_cons ⟨rfl, rfl⟩ (ball_cons ⟨(congrArg (T.int .i64) (show 0 = ((0 : Nat) : Int) from (by first | rfl | omega | (simp; done) | (push_cast; omega)))), rfl⟩ (ball_nil)))
  · exact (ball_nil)
  · show List.Nodup ([] : List Nat)
    decide
  · rintro i hI
    have hI' : i ≤ a.length ∧ ∀ j, j < i → corrOk a j := hI
    clear hI
    show VRun _ _ _ [(0, (T.sl false 5 (a.map (eCorrection false)))), (3, (T.int .i64 ((i : Nat) : Int)))] (mkO []) 0 _
    have hI0 := hI'
    refine VRun.seq ?_
    refine VRun.seq ?_
    refine VRun.region ?_
    refine VRunO.free VWant.always (OF.move (VEv.tmp (t := (T.int .i64 ((i : Nat) : Int))) rfl)) ?_
    refine VRunO.free VWant.always (OF.move (VEv.tmp (t := (T.sl false 5 (a.map (eCorrection false)))) rfl)) ?_
    refine VRunO.look VWant.always (B.lenR (m := a.length) (VEv.tmp (t := (T.sl false 5 (a.map (eCorrection false)))) rfl) Try.underlying68 (List.length_map ..)) ?_
    refine VRunO.free VWant.always (B.lss (c := (decide (i < a.length))) (VEv.tmp (t := (T.int .i64 ((i : Nat) : Int))) rfl) (VEv.tmp (t := (T.int .i64 ((a.length : Nat) : Int))) rfl) (by first | exact hw _ (List.mem_of_getElem? hx1) | (exact decN (by omega)))) ?_
    refine VRunO.nil ?_
    refine vthn.n ?_
    refine VRun.cond (VEv.tmp (t := (T.bool (decide (i < a.length)))) rfl) (fun hc0 => ?_) (fun hc0 => ?_)
    · have fhc0 : i < a.length := of_decide_eq_true hc0
      refine VRun.skip ?_
      refine vthn.n ?_
      refine VRun.seq ?_
      refine VRun.block ?_
      refine VRun.seq ?_
      refine VRun.region ?_
      refine VRunO.free VWant.always (OF.move (VEv.tmp (t := (T.sl false 5 (a.map (eCorrection false)))) rfl)) ?_
      refine VRunO.free VWant.always (OF.move (VEv.tmp (t := (T.int .i64 ((i : Nat) : Int))) rfl)) ?_
      obtain ⟨x1, hx1⟩ : ∃ x, a[i]? = some x := ⟨_, List.getElem?_eq_getElem (by first | exact hw _ (List.mem_of_getElem? hx1) | omega | (simp only [List.length_map]; omega) | (simp only [List.length_map, List.length_append, List.length_cons, List.length_nil, List.length_replicate, List.length_set, List.length_drop, List.length_take, lim] at *; omega))⟩
      refine VRunO.free VWant.always (OF.indexAddrR (row := (eCorrection false x1)) (i := i) (VEv.tmp (t := (T.sl false 5 (a.map (eCorrection false)))) rfl) (VEv.tmp (t := (T.int .i64 ((i : Nat) : Int))) rfl) rfl (map_at _ hx1) Try.underlying68 sz117 if117) ?_
      refine VRunO.look VWant.always (OL.loadRn (us := (eCorrection false x1)) (VEv.tmp (t := (T.rp [(T.int .i64 x1.Issue), (T.int .i64 x1.Slot), (T.int .i64 x1.Clue.Sense), (T.sl false 4 (x1.Clue.Play.map (eStep false))), (T.int .i64 x1.Tick)])) rfl) st117 sz117 (Nat.le_of_ble_eq_true rfl) rfl) ?_
      refine VRunO.make VWant.always (B.alloc (t := (T.agg [(T.int .i64 0), (T.int .i64 0), (T.int .i64 0), T.nils, (T.int .i64 0)])) (ts := [(T.int .i64 0), (T.int .i64 0), (T.int .i64 0), T.nils, (T.int .i64 0)]) zo117 zc117 nofun (fun _ => .agg _ _ rfl (RLof (RL.cons (.int _ _) (RL.cons (.int _ _) (RL.cons (.int _ _) (RL.cons (.nils) (RL.cons (.int _ _) (RL.nil _)))))))) rfl) ?_
      refine VRunO.chain VWant.always (B.storeO (us := [(T.int .i64 x1.Issue), (T.int .i64 x1.Slot), (T.int .i64 x1.Clue.Sense), (T.sl false 4 (x1.Clue.Play.map (eStep false))), (T.int .i64 x1.Tick)]) (ws := [(T.int .i64 x1.Issue), (T.int .i64 x1.Slot), (T.int .i64 x1.Clue.Sense), (T.sl false 4 (x1.Clue.Play.map (eStep false))), (T.int .i64 x1.Tick)]) (VEv.tmp (t := (T.op 0 0)) rfl) (VEv.tmp (t := (T.agg (eCorrection false x1))) rfl) nofun rfl rfl (Nat.le_of_ble_eq_true rfl) if117 sz117 (ball_cons rfl (ball_cons rfl (ball_cons rfl (ball_cons rfl (ball_cons rfl (ball_nil)))))) rfl) ?_
      refine VRunO.nil ?_
      refine vthn.n ?_
      refine VRun.seq ?_
      refine VRun.draw (B := [[], [0], [0, 1], [1, 0, 2], [2, 0, 1, 3], [3, 1, 0, 2, 4], [4, 2, 0, 1, 3, 5], [5, 3, 1, 0, 2, 4, 6], [6, 4, 2, 0, 1, 3, 5, 7], [7, 5, 6, 8, 3, 1, 0, 2, 4], [4, 2, 0, 1, 3, 8, 6, 5, 7, 9], [9, 7, 5, 6, 8, 3, 1, 0, 2, 4, 10], [10, 4, 2, 0, 1, 3, 8, 6, 5, 7, 9, 11], [11, 9, 7, 5, 6, 8, 3, 1, 0, 2, 4, 10, 12], [12, 10, 4, 2, 0, 1, 3, 8, 6, 5, 7, 9, 11, 13], [13, 11, 12, 14, 9, 7, 5, 6, 8, 3, 1, 0, 2, 4, 10], [10, 4, 2, 0, 1, 3, 8, 6, 5, 7, 9, 14, 12, 11, 13, 15], [15, 13, 11, 12, 14, 9, 7, 5, 6, 8, 3, 1, 0, 2, 4, 10, 16], [16, 10, 4, 2, 0, 1, 3, 8, 6, 5, 7, 9, 14, 12, 11, 13, 15, 17], [17, 15, 13, 11, 12, 14, 9, 7, 5, 6, 8, 3, 1, 0, 2, 4, 10, 16, 18], [18, 16, 10, 4, 2, 0, 1, 3, 8, 6, 5, 7, 9, 14, 12, 11, 13, 15, 17, 19], [19, 17, 18, 20, 15, 13, 11, 12, 14, 9, 7, 5, 6, 8, 3, 1, 0, 2, 4, 10, 16], [16, 10, 4, 2, 0, 1, 3, 8, 6, 5, 7, 9, 14, 12, 11, 13, 15, 20, 18, 17, 19, 21], [21, 19, 17, 18, 20, 15, 13, 11, 12, 14, 9, 7, 5, 6, 8, 3, 1, 0, 2, 4, 10, 16, 22], [22, 16, 10, 4, 2, 0, 1, 3, 8, 6, 5, 7, 9, 14, 12, 11, 13, 15, 20, 18, 17, 19, 21, 23], [23, 21, 19, 17, 18, 20, 15, 13, 11, 12, 14, 9, 7, 5, 6, 8, 3, 1, 0, 2, 4, 10, 16, 22, 24], [24, 22, 16, 10, 4, 2, 0, 1, 3, 8, 6, 5, 7, 9, 14, 12, 11, 13, 15, 20, 18, 17, 19, 21, 23, 25], [24, 22, 16, 10, 4, 2, 0, 1, 3, 8, 6, 5, 7, 9, 14, 12, 11, 13, 15, 20, 18, 17, 19, 21, 23, 25], [25, 23, 21, 19, 17, 18, 20, 15, 13, 11, 12, 14, 9, 7, 5, 6, 8, 3, 1, 0, 2, 4, 10, 16, 22, 24, 27], [27, 28, 25, 23, 21, 19, 17, 18, 20, 15, 13, 11, 12, 14, 9, 7, 5, 6, 8, 3, 1, 0, 2, 4, 10, 16, 22, 24, 26], [26, 24, 22, 16, 10, 4, 2, 0, 1, 3, 8, 6, 5, 7, 9, 14, 12, 11, 13, 15, 20, 18, 17, 19, 21, 23, 25, 28, 27, 29], [29, 27, 28, 25, 23, 21, 19, 17, 18, 20, 15, 13, 11, 12, 14, 9, 7, 5, 6, 8, 3, 1, 0, 2, 4, 10, 16, 22, 24, 26, 30], [24, 22, 16, 10, 4, 2, 0, 1, 3, 8, 6, 5, 7, 9, 14, 12, 11, 13, 15, 20, 18, 17, 19, 21, 23, 25], [25, 23, 21, 19, 17, 18, 20, 15, 13, 11, 12, 14, 9, 7, 5, 6, 8, 3, 1, 0, 2, 4, 10, 16, 22, 24, 32], [32, 33, 30, 26, 24, 22, 16, 10, 4, 2, 0, 1, 3, 8, 6, 5, 7, 9, 14, 12, 11, 13, 15, 20, 18, 17, 19, 21, 23, 25, 28, 27, 29, 31], [31, 29, 27, 28, 26, 30, 33, 32, 34, 24, 22, 16, 10, 4, 2, 0, 1, 3, 8, 6, 5, 7, 9, 14, 12, 11, 13, 15, 20, 18, 17, 19, 21, 23, 25], [25, 23, 24, 34, 32, 33, 30, 26, 28, 27, 29, 31, 35, 21, 19, 17, 18, 20, 15, 13, 11, 12, 14, 9, 7, 5, 6, 8, 3, 1, 0, 2, 4, 10, 16, 22]]) (by kernel_rfl) (by kernel_rfl) ?_
      refine VRunD.free rfl VWant.always rfl (OF.fieldAddrO (VEv.tmp (t := (T.op 0 0)) rfl) fa117_0) ?_
      refine VRunD.look rfl VWant.always rfl (OL.loadO1 (t := (T.int .i64 x1.Issue)) (VEv.tmp (t := (T.op 0 0)) rfl) rfl rfl st3) ?_
      refine VRunD.quiet (bi := [0, 1]) rfl VWant.always rfl rfl rfl (ball_nil) (OC.callF (us := [(T.int .i64 x1.Issue), (T.int .i64 1), (T.int .i64 999)]) (r := (T.bool (decide (1 ≤ x1.Issue ∧ x1.Issue ≤ 999)))) (r' := (T.bool (decide (1 ≤ x1.Issue ∧ x1.Issue ≤ 999)))) (objs := []) rfl (VEvs.cons (VEv.tmp (t := (T.int .i64 x1.Issue)) rfl) (VEvs.cons (VEv.int .i64 1) (VEvs.cons (VEv.int .i64 999) VEvs.nil))) (LendL.cons (Lend.pl rfl) (LendL.cons (Lend.pl rfl) (LendL.cons (Lend.pl rfl) (LendL.nil)))) (W_spec_l1In (n + 4) x1.Issue 1 999 ) rfl) ?_
      refine VRunD.free rfl VWant.always rfl (B.not (c := (!(decide (1 ≤ x1.Issue ∧ x1.Issue ≤ 999)))) (VEv.tmp (t := (T.bool (decide (1 ≤ x1.Issue ∧ x1.Issue ≤ 999)))) rfl) rfl) ?_
      refine VRunD.free rfl VWant.always rfl (OF.move (VEv.tmp (t := (T.bool (!(decide (1 ≤ x1.Issue ∧ x1.Issue ≤ 999))))) rfl)) ?_
      refine bool_way (!(decide (1 ≤ x1.Issue ∧ x1.Issue ≤ 999))) (fun hg19_1 => ?_) (fun hg19_1 => ?_)
      · have fhg19_1 : ¬ (1 ≤ x1.Issue ∧ x1.Issue ≤ 999) := ndT hg19_1
        refine VRunD.off rfl (VWant.not (b := (!(decide (1 ≤ x1.Issue ∧ x1.Issue ≤ 999)))) rfl rfl hg19_1) ?_
        refine VRunD.off rfl (VWant.not (b := (!(decide (1 ≤ x1.Issue ∧ x1.Issue ≤ 999)))) rfl rfl hg19_1) ?_
        refine VRunD.off rfl (VWant.not (b := (!(decide (1 ≤ x1.Issue ∧ x1.Issue ≤ 999)))) rfl rfl hg19_1) ?_
        refine VRunD.off rfl (VWant.not (b := (!(decide (1 ≤ x1.Issue ∧ x1.Issue ≤ 999)))) rfl rfl hg19_1) ?_
        refine VRunD.free rfl VWant.always rfl (OF.pickT (VEv.tmpB (b := (!(decide (1 ≤ x1.Issue ∧ x1.Issue ≤ 999)))) rfl hg19_1) (VEv.bool true)) ?_
        refine VRunD.free rfl VWant.always rfl (OF.move (VEv.tmp (t := (T.bool true)) rfl)) ?_
        refine VRunD.off rfl (VWant.not (b := true) rfl rfl rfl) ?_
        refine VRunD.off rfl (VWant.not (b := true) rfl rfl rfl) ?_
        refine VRunD.off rfl (VWant.not (b := true) rfl rfl rfl) ?_
        refine VRunD.off rfl (VWant.not (b := true) rfl rfl rfl) ?_
        refine VRunD.free rfl VWant.always rfl (OF.pickT (VEv.tmp (t := (T.bool true)) rfl) (VEv.bool true)) ?_
        refine VRunD.free rfl VWant.always rfl (OF.move (VEv.tmp (t := (T.bool true)) rfl)) ?_
        refine VRunD.off rfl (VWant.not (b := true) rfl rfl rfl) ?_
        refine VRunD.off rfl (VWant.not (b := true) rfl rfl rfl) ?_
        refine VRunD.off rfl (VWant.not (b := true) rfl rfl rfl) ?_
        refine VRunD.off rfl (VWant.not (b := true) rfl rfl rfl) ?_
        refine VRunD.free rfl VWant.always rfl (OF.pickT (VEv.tmp (t := (T.bool true)) rfl) (VEv.bool true)) ?_
        refine VRunD.free rfl VWant.always rfl (OF.move (VEv.tmp (t := (T.bool true)) rfl)) ?_
        refine VRunD.off rfl (VWant.not (b := true) rfl rfl rfl) ?_
        refine VRunD.off rfl (VWant.not (b := true) rfl rfl rfl) ?_
        refine VRunD.off rfl (VWant.not (b := true) rfl rfl rfl) ?_
        refine VRunD.off rfl (VWant.undef rfl rfl) ?_
        refine VRunD.off rfl (VWant.undef rfl rfl) ?_
        refine VRunD.off rfl (VWant.undef rfl rfl) ?_
        refine VRunD.off rfl (VWant.undef rfl rfl) ?_
        refine VRunD.off rfl (VWant.undef rfl rfl) ?_
        refine VRunD.off rfl (VWant.undef rfl rfl) ?_
        refine VRunD.off rfl (VWant.undef rfl rfl) ?_
        refine VRunD.off rfl (VWant.undef rfl rfl) ?_
        refine VRunD.off rfl (VWant.undef rfl rfl) ?_
        refine VRunD.off rfl (VWant.not (b := true) rfl rfl rfl) ?_
        refine VRunD.free rfl VWant.always rfl (OF.pickT (VEv.tmp (t := (T.bool true)) rfl) (VEv.bool true)) ?_
        refine VRunD.nil ?_
        refine vthn.n ?_
        refine VRun.cond (VEv.tmp (t := (T.bool true)) rfl) (fun hk2 => ?_) (fun hk2 => ?_)
        · skip
          refine VRun.seq ?_
          refine VRun.region ?_
          refine VRunO.free VWant.always (OF.assign (VEv.bool false)) ?_
          refine VRunO.nil ?_
          refine vthn.n ?_
          refine VRun.ret ?_
          refine vinB.r ?_
          refine vthn.r ?_
          refine vthn.r ?_
          refine vinB.r ?_
          refine vthn.r ?_
          refine vfin.eq (r' := (T.bool false)) ?_ (vfin.r (VRes.tmp (t := (T.bool false)) rfl VRes.nil) (Give.bool _))
          show (T.bool false) = (T.bool (decide (areCorrections a)))
          refine congrArg T.bool ?_
          first | (refine decN ⟨fun h => ⟨by omega, allEnd hI' fhc0⟩, fun h => by have := h.1; omega⟩) | (symm; rw [decide_eq_false_iff_not]; rintro ⟨_, h2⟩; obtain ⟨y, hy, h3, h4, h5, h6, h7⟩ := h2 i fhc0; obtain rfl := same_at hx1 hy; first | omega | contradiction | (obtain ⟨z, hz, h9⟩ := h7 (by omega); obtain rfl := same_at hx2 hz; omega) | (simp_all; done))
        · exact absurd (rfl.symm.trans hk2) (by decide)
      · have fhg19_1 : 1 ≤ x1.Issue ∧ x1.Issue ≤ 999 := ndF hg19_1
        refine VRunD.free rfl (VWant.on (b := (!(decide (1 ≤ x1.Issue ∧ x1.Issue ≤ 999)))) rfl rfl hg19_1) rfl (OF.fieldAddrO (VEv.tmp (t := (T.op 0 0)) rfl) fa117_1) ?_
        refine VRunD.look rfl (VWant.on (b := (!(decide (1 ≤ x1.Issue ∧ x1.Issue ≤ 999)))) rfl rfl hg19_1) rfl (OL.loadO1 (t := (T.int .i64 x1.Slot)) (VEv.tmp (t := (T.op 0 1)) rfl) rfl rfl st3) ?_
        refine VRunD.quiet (bi := [5, 3, 1, 0, 2, 4, 6]) rfl (VWant.on (b := (!(decide (1 ≤ x1.Issue ∧ x1.Issue ≤ 999)))) rfl rfl hg19_1) rfl rfl rfl (ball_nil) (OC.callF (us := [(T.int .i64 x1.Slot), (T.int .i64 0), (T.int .i64 99)]) (r := (T.bool (decide (0 ≤ x1.Slot ∧ x1.Slot ≤ 99)))) (r' := (T.bool (decide (0 ≤ x1.Slot ∧ x1.Slot ≤ 99)))) (objs := []) rfl (VEvs.cons (VEv.tmp (t := (T.int .i64 x1.Slot)) rfl) (VEvs.cons (VEv.int .i64 0) (VEvs.cons (VEv.int .i64 99) VEvs.nil))) (LendL.cons (Lend.pl rfl) (LendL.cons (Lend.pl rfl) (LendL.cons (Lend.pl rfl) (LendL.nil)))) (W_spec_l1In (n + 4) x1.Slot 0 99 ) rfl) ?_
        refine VRunD.free rfl (VWant.on (b := (!(decide (1 ≤ x1.Issue ∧ x1.Issue ≤ 999)))) rfl rfl hg19_1) rfl (B.not (c := (!(decide (0 ≤ x1.Slot ∧ x1.Slot ≤ 99)))) (VEv.tmp (t := (T.bool (decide (0 ≤ x1.Slot ∧ x1.Slot ≤ 99)))) rfl) rfl) ?_
        refine VRunD.free rfl VWant.always rfl (OF.pickF (VEv.tmpB (b := (!(decide (1 ≤ x1.Issue ∧ x1.Issue ≤ 999)))) rfl hg19_1) (VEv.tmp (t := (T.bool (!(decide (0 ≤ x1.Slot ∧ x1.Slot ≤ 99))))) rfl)) ?_
        refine VRunD.free rfl VWant.always rfl (OF.move (VEv.tmp (t := (T.bool (!(decide (0 ≤ x1.Slot ∧ x1.Slot ≤ 99))))) rfl)) ?_
        refine bool_way (!(decide (0 ≤ x1.Slot ∧ x1.Slot ≤ 99))) (fun hg25_3 => ?_) (fun hg25_3 => ?_)
        · have fhg25_3 : ¬ (0 ≤ x1.Slot ∧ x1.Slot ≤ 99) := ndT hg25_3
          refine VRunD.off rfl (VWant.not (b := (!(decide (0 ≤ x1.Slot ∧ x1.Slot ≤ 99)))) rfl rfl hg25_3) ?_
          refine VRunD.off rfl (VWant.not (b := (!(decide (0 ≤ x1.Slot ∧ x1.Slot ≤ 99)))) rfl rfl hg25_3) ?_
          refine VRunD.off rfl (VWant.not (b := (!(decide (0 ≤ x1.Slot ∧ x1.Slot ≤ 99)))) rfl rfl hg25_3) ?_
          refine VRunD.off rfl (VWant.not (b := (!(decide (0 ≤ x1.Slot ∧ x1.Slot ≤ 99)))) rfl rfl hg25_3) ?_
          refine VRunD.free rfl VWant.always rfl (OF.pickT (VEv.tmpB (b := (!(decide (0 ≤ x1.Slot ∧ x1.Slot ≤ 99)))) rfl hg25_3) (VEv.bool true)) ?_
          refine VRunD.free rfl VWant.always rfl (OF.move (VEv.tmp (t := (T.bool true)) rfl)) ?_
          refine VRunD.off rfl (VWant.not (b := true) rfl rfl rfl) ?_
          refine VRunD.off rfl (VWant.not (b := true) rfl rfl rfl) ?_
          refine VRunD.off rfl (VWant.not (b := true) rfl rfl rfl) ?_
          refine VRunD.off rfl (VWant.not (b := true) rfl rfl rfl) ?_
          refine VRunD.free rfl VWant.always rfl (OF.pickT (VEv.tmp (t := (T.bool true)) rfl) (VEv.bool true)) ?_
          refine VRunD.free rfl VWant.always rfl (OF.move (VEv.tmp (t := (T.bool true)) rfl)) ?_
          refine VRunD.off rfl (VWant.not (b := true) rfl rfl rfl) ?_
          refine VRunD.off rfl (VWant.not (b := true) rfl rfl rfl) ?_
          refine VRunD.off rfl (VWant.not (b := true) rfl rfl rfl) ?_
          refine VRunD.off rfl (VWant.undef rfl rfl) ?_
          refine VRunD.off rfl (VWant.undef rfl rfl) ?_
          refine VRunD.off rfl (VWant.undef rfl rfl) ?_
          refine VRunD.off rfl (VWant.undef rfl rfl) ?_
          refine VRunD.off rfl (VWant.undef rfl rfl) ?_
          refine VRunD.off rfl (VWant.undef rfl rfl) ?_
          refine VRunD.off rfl (VWant.undef rfl rfl) ?_
          refine VRunD.off rfl (VWant.undef rfl rfl) ?_
          refine VRunD.off rfl (VWant.undef rfl rfl) ?_
          refine VRunD.off rfl (VWant.not (b := true) rfl rfl rfl) ?_
          refine VRunD.free rfl VWant.always rfl (OF.pickT (VEv.tmp (t := (T.bool true)) rfl) (VEv.bool true)) ?_
          refine VRunD.nil ?_
          refine vthn.n ?_
          refine VRun.cond (VEv.tmp (t := (T.bool true)) rfl) (fun hk4 => ?_) (fun hk4 => ?_)
          · skip
            refine VRun.seq ?_
            refine VRun.region ?_
            refine VRunO.free VWant.always (OF.assign (VEv.bool false)) ?_
            refine VRunO.nil ?_
            refine vthn.n ?_
            refine VRun.ret ?_
            refine vinB.r ?_
            refine vthn.r ?_
            refine vthn.r ?_
            refine vinB.r ?_
            refine vthn.r ?_
            refine vfin.eq (r' := (T.bool false)) ?_ (vfin.r (VRes.tmp (t := (T.bool false)) rfl VRes.nil) (Give.bool _))
            show (T.bool false) = (T.bool (decide (areCorrections a)))
            refine congrArg T.bool ?_
            first | (refine decN ⟨fun h => ⟨by omega, allEnd hI' fhc0⟩, fun h => by have := h.1; omega⟩) | (symm; rw [decide_eq_false_iff_not]; rintro ⟨_, h2⟩; obtain ⟨y, hy, h3, h4, h5, h6, h7⟩ := h2 i fhc0; obtain rfl := same_at hx1 hy; first | omega | contradiction | (obtain ⟨z, hz, h9⟩ := h7 (by omega); obtain rfl := same_at hx2 hz; omega) | (simp_all; done))
          · exact absurd (rfl.symm.trans hk4) (by decide)
        · have fhg25_3 : 0 ≤ x1.Slot ∧ x1.Slot ≤ 99 := ndF hg25_3
          refine VRunD.free rfl (VWant.on (b := (!(decide (0 ≤ x1.Slot ∧ x1.Slot ≤ 99)))) rfl rfl hg25_3) rfl (OF.fieldAddrO (VEv.tmp (t := (T.op 0 0)) rfl) fa117_2) ?_
          refine VRunD.look rfl (VWant.on (b := (!(decide (0 ≤ x1.Slot ∧ x1.Slot ≤ 99)))) rfl rfl hg25_3) rfl (OL.loadOn (us := (eClue false x1.Clue)) (VEv.tmp (t := (T.op 0 2)) rfl) rfl st115 sz115 (Nat.le_of_ble_eq_true rfl) rfl) ?_
          refine VRunD.quiet (bi := [11, 9, 7, 5, 6, 8, 3, 1, 0, 2, 4, 10, 12]) rfl (VWant.on (b := (!(decide (0 ≤ x1.Slot ∧ x1.Slot ≤ 99)))) rfl rfl hg25_3) rfl rfl rfl (ball_nil) (OC.callF (us := [(T.agg (eClue false x1.Clue))]) (r := (T.bool (decide ((1 ≤ x1.Clue.Sense ∧ x1.Clue.Sense ≤ 99) ∧ isPlay x1.Clue.Play)))) (r' := (T.bool (decide ((1 ≤ x1.Clue.Sense ∧ x1.Clue.Sense ≤ 99) ∧ isPlay x1.Clue.Play)))) (objs := []) rfl (VEvs.cons (VEv.tmp (t := (T.agg (eClue false x1.Clue))) rfl) VEvs.nil) (LendL.cons (Lend.agg (LendL.cons (Lend.pl rfl) (LendL.cons (Lend.pl rfl) (LendL.nil)))) (LendL.nil)) (W_spec_IsClue (n + 0) x1.Clue (by first | exact hw _ (List.mem_of_getElem? hx1) | assumption | omega | (simp only [List.length_map]; omega) | (simp only [List.length_map, List.length_append, List.length_cons, List.length_nil, List.length_replicate, List.length_set, List.length_drop, List.length_take, lim] at *; omega))) rfl) ?_
          refine VRunD.free rfl (VWant.on (b := (!(decide (0 ≤ x1.Slot ∧ x1.Slot ≤ 99)))) rfl rfl hg25_3) rfl (B.not (c := (!(decide ((1 ≤ x1.Clue.Sense ∧ x1.Clue.Sense ≤ 99) ∧ isPlay x1.Clue.Play)))) (VEv.tmp (t := (T.bool (decide ((1 ≤ x1.Clue.Sense ∧ x1.Clue.Sense ≤ 99) ∧ isPlay x1.Clue.Play)))) rfl) rfl) ?_
          refine VRunD.free rfl VWant.always rfl (OF.pickF (VEv.tmpB (b := (!(decide (0 ≤ x1.Slot ∧ x1.Slot ≤ 99)))) rfl hg25_3) (VEv.tmp (t := (T.bool (!(decide ((1 ≤ x1.Clue.Sense ∧ x1.Clue.Sense ≤ 99) ∧ isPlay x1.Clue.Play))))) rfl)) ?_
          refine VRunD.free rfl VWant.always rfl (OF.move (VEv.tmp (t := (T.bool (!(decide ((1 ≤ x1.Clue.Sense ∧ x1.Clue.Sense ≤ 99) ∧ isPlay x1.Clue.Play))))) rfl)) ?_
          refine bool_way (!(decide ((1 ≤ x1.Clue.Sense ∧ x1.Clue.Sense ≤ 99) ∧ isPlay x1.Clue.Play))) (fun hg31_5 => ?_) (fun hg31_5 => ?_)
          · have fhg31_5 : ¬ ((1 ≤ x1.Clue.Sense ∧ x1.Clue.Sense ≤ 99) ∧ isPlay x1.Clue.Play) := ndT hg31_5
            refine VRunD.off rfl (VWant.not (b := (!(decide ((1 ≤ x1.Clue.Sense ∧ x1.Clue.Sense ≤ 99) ∧ isPlay x1.Clue.Play)))) rfl rfl hg31_5) ?_
            refine VRunD.off rfl (VWant.not (b := (!(decide ((1 ≤ x1.Clue.Sense ∧ x1.Clue.Sense ≤ 99) ∧ isPlay x1.Clue.Play)))) rfl rfl hg31_5) ?_
            refine VRunD.off rfl (VWant.not (b := (!(decide ((1 ≤ x1.Clue.Sense ∧ x1.Clue.Sense ≤ 99) ∧ isPlay x1.Clue.Play)))) rfl rfl hg31_5) ?_
            refine VRunD.off rfl (VWant.not (b := (!(decide ((1 ≤ x1.Clue.Sense ∧ x1.Clue.Sense ≤ 99) ∧ isPlay x1.Clue.Play)))) rfl rfl hg31_5) ?_
            refine VRunD.free rfl VWant.always rfl (OF.pickT (VEv.tmpB (b := (!(decide ((1 ≤ x1.Clue.Sense ∧ x1.Clue.Sense ≤ 99) ∧ isPlay x1.Clue.Play)))) rfl hg31_5) (VEv.bool true)) ?_
            refine VRunD.free rfl VWant.always rfl (OF.move (VEv.tmp (t := (T.bool true)) rfl)) ?_
            refine VRunD.off rfl (VWant.not (b := true) rfl rfl rfl) ?_
            refine VRunD.off rfl (VWant.not (b := true) rfl rfl rfl) ?_
            refine VRunD.off rfl (VWant.not (b := true) rfl rfl rfl) ?_
            refine VRunD.off rfl (VWant.undef rfl rfl) ?_
            refine VRunD.off rfl (VWant.undef rfl rfl) ?_
            refine VRunD.off rfl (VWant.undef rfl rfl) ?_
            refine VRunD.off rfl (VWant.undef rfl rfl) ?_
            refine VRunD.off rfl (VWant.undef rfl rfl) ?_
            refine VRunD.off rfl (VWant.undef rfl rfl) ?_
            refine VRunD.off rfl (VWant.undef rfl rfl) ?_
            refine VRunD.off rfl (VWant.undef rfl rfl) ?_
            refine VRunD.off rfl (VWant.undef rfl rfl) ?_
            refine VRunD.off rfl (VWant.not (b := true) rfl rfl rfl) ?_
            refine VRunD.free rfl VWant.always rfl (OF.pickT (VEv.tmp (t := (T.bool true)) rfl) (VEv.bool true)) ?_
            refine VRunD.nil ?_
            refine vthn.n ?_
            refine VRun.cond (VEv.tmp (t := (T.bool true)) rfl) (fun hk6 => ?_) (fun hk6 => ?_)
            · skip
              refine VRun.seq ?_
              refine VRun.region ?_
              refine VRunO.free VWant.always (OF.assign (VEv.bool false)) ?_
              refine VRunO.nil ?_
              refine vthn.n ?_
              refine VRun.ret ?_
              refine vinB.r ?_
              refine vthn.r ?_
              refine vthn.r ?_
              refine vinB.r ?_
              refine vthn.r ?_
              refine vfin.eq (r' := (T.bool false)) ?_ (vfin.r (VRes.tmp (t := (T.bool false)) rfl VRes.nil) (Give.bool _))
              show (T.bool false) = (T.bool (decide (areCorrections a)))
              refine congrArg T.bool ?_
              first | (refine decN ⟨fun h => ⟨by omega, allEnd hI' fhc0⟩, fun h => by have := h.1; omega⟩) | (symm; rw [decide_eq_false_iff_not]; rintro ⟨_, h2⟩; obtain ⟨y, hy, h3, h4, h5, h6, h7⟩ := h2 i fhc0; obtain rfl := same_at hx1 hy; first | omega | contradiction | (obtain ⟨z, hz, h9⟩ := h7 (by omega); obtain rfl := same_at hx2 hz; omega) | (simp_all; done))
            · exact absurd (rfl.symm.trans hk6) (by decide)
          · have fhg31_5 : (1 ≤ x1.Clue.Sense ∧ x1.Clue.Sense ≤ 99) ∧ isPlay x1.Clue.Play := ndF hg31_5
            refine VRunD.free rfl (VWant.on (b := (!(decide ((1 ≤ x1.Clue.Sense ∧ x1.Clue.Sense ≤ 99) ∧ isPlay x1.Clue.Play)))) rfl rfl hg31_5) rfl (OF.fieldAddrO (VEv.tmp (t := (T.op 0 0)) rfl) fa117_3) ?_
            refine VRunD.look rfl (VWant.on (b := (!(decide ((1 ≤ x1.Clue.Sense ∧ x1.Clue.Sense ≤ 99) ∧ isPlay x1.Clue.Play)))) rfl rfl hg31_5) rfl (OL.loadO1 (t := (T.int .i64 x1.Tick)) (VEv.tmp (t := (T.op 0 4)) rfl) rfl rfl st3) ?_
            refine VRunD.quiet (bi := [17, 15, 13, 11, 12, 14, 9, 7, 5, 6, 8, 3, 1, 0, 2, 4, 10, 16, 18]) rfl (VWant.on (b := (!(decide ((1 ≤ x1.Clue.Sense ∧ x1.Clue.Sense ≤ 99) ∧ isPlay x1.Clue.Play)))) rfl rfl hg31_5) rfl rfl rfl (ball_nil) (OC.callF (us := [(T.int .i64 x1.Tick), (T.int .i64 0), (T.int .i64 1000)]) (r := (T.bool (decide (0 ≤ x1.Tick ∧ x1.Tick ≤ 1000)))) (r' := (T.bool (decide (0 ≤ x1.Tick ∧ x1.Tick ≤ 1000)))) (objs := []) rfl (VEvs.cons (VEv.tmp (t := (T.int .i64 x1.Tick)) rfl) (VEvs.cons (VEv.int .i64 0) (VEvs.cons (VEv.int .i64 1000) VEvs.nil))) (LendL.cons (Lend.pl rfl) (LendL.cons (Lend.pl rfl) (LendL.cons (Lend.pl rfl) (LendL.nil)))) (W_spec_l1In (n + 4) x1.Tick 0 1000 ) rfl) ?_
            refine VRunD.free rfl (VWant.on (b := (!(decide ((1 ≤ x1.Clue.Sense ∧ x1.Clue.Sense ≤ 99) ∧ isPlay x1.Clue.Play)))) rfl rfl hg31_5) rfl (B.not (c := (!(decide (0 ≤ x1.Tick ∧ x1.Tick ≤ 1000)))) (VEv.tmp (t := (T.bool (decide (0 ≤ x1.Tick ∧ x1.Tick ≤ 1000)))) rfl) rfl) ?_
            refine VRunD.free rfl VWant.always rfl (OF.pickF (VEv.tmpB (b := (!(decide ((1 ≤ x1.Clue.Sense ∧ x1.Clue.Sense ≤ 99) ∧ isPlay x1.Clue.Play)))) rfl hg31_5) (VEv.tmp (t := (T.bool (!(decide (0 ≤ x1.Tick ∧ x1.Tick ≤ 1000))))) rfl)) ?_
            refine VRunD.free rfl VWant.always rfl (OF.move (VEv.tmp (t := (T.bool (!(decide (0 ≤ x1.Tick ∧ x1.Tick ≤ 1000))))) rfl)) ?_
            refine bool_way (!(decide (0 ≤ x1.Tick ∧ x1.Tick ≤ 1000))) (fun hg37_7 => ?_) (fun hg37_7 => ?_)
            · have fhg37_7 : ¬ (0 ≤ x1.Tick ∧ x1.Tick ≤ 1000) := ndT hg37_7
              refine VRunD.off rfl (VWant.not (b := (!(decide (0 ≤ x1.Tick ∧ x1.Tick ≤ 1000)))) rfl rfl hg37_7) ?_
              refine VRunD.off rfl (VWant.not (b := (!(decide (0 ≤ x1.Tick ∧ x1.Tick ≤ 1000)))) rfl rfl hg37_7) ?_
              refine VRunD.off rfl (VWant.not (b := (!(decide (0 ≤ x1.Tick ∧ x1.Tick ≤ 1000)))) rfl rfl hg37_7) ?_
              refine VRunD.off rfl (VWant.undef rfl rfl) ?_
              refine VRunD.off rfl (VWant.undef rfl rfl) ?_
              refine VRunD.off rfl (VWant.undef rfl rfl) ?_
              refine VRunD.off rfl (VWant.undef rfl rfl) ?_
              refine VRunD.off rfl (VWant.undef rfl rfl) ?_
              refine VRunD.off rfl (VWant.undef rfl rfl) ?_
              refine VRunD.off rfl (VWant.undef rfl rfl) ?_
              refine VRunD.off rfl (VWant.undef rfl rfl) ?_
              refine VRunD.off rfl (VWant.undef rfl rfl) ?_
              refine VRunD.off rfl (VWant.not (b := (!(decide (0 ≤ x1.Tick ∧ x1.Tick ≤ 1000)))) rfl rfl hg37_7) ?_
              refine VRunD.free rfl VWant.always rfl (OF.pickT (VEv.tmpB (b := (!(decide (0 ≤ x1.Tick ∧ x1.Tick ≤ 1000)))) rfl hg37_7) (VEv.bool true)) ?_
              refine VRunD.nil ?_
              refine vthn.n ?_
              refine VRun.cond (VEv.tmp (t := (T.bool true)) rfl) (fun hk8 => ?_) (fun hk8 => ?_)
              · skip
                refine VRun.seq ?_
                refine VRun.region ?_
                refine VRunO.free VWant.always (OF.assign (VEv.bool false)) ?_
                refine VRunO.nil ?_
                refine vthn.n ?_
                refine VRun.ret ?_
                refine vinB.r ?_
                refine vthn.r ?_
                refine vthn.r ?_
                refine vinB.r ?_
                refine vthn.r ?_
                refine vfin.eq (r' := (T.bool false)) ?_ (vfin.r (VRes.tmp (t := (T.bool false)) rfl VRes.nil) (Give.bool _))
                show (T.bool false) = (T.bool (decide (areCorrections a)))
                refine congrArg T.bool ?_
                first | (refine decN ⟨fun h => ⟨by omega, allEnd hI' fhc0⟩, fun h => by have := h.1; omega⟩) | (symm; rw [decide_eq_false_iff_not]; rintro ⟨_, h2⟩; obtain ⟨y, hy, h3, h4, h5, h6, h7⟩ := h2 i fhc0; obtain rfl := same_at hx1 hy; first | omega | contradiction | (obtain ⟨z, hz, h9⟩ := h7 (by omega); obtain rfl := same_at hx2 hz; omega) | (simp_all; done))
              · exact absurd (rfl.symm.trans hk8) (by decide)
            · have fhg37_7 : 0 ≤ x1.Tick ∧ x1.Tick ≤ 1000 := ndF hg37_7
              refine VRunD.free rfl (VWant.on (b := (!(decide (0 ≤ x1.Tick ∧ x1.Tick ≤ 1000)))) rfl rfl hg37_7) rfl (OF.move (VEv.tmp (t := (T.int .i64 ((i : Nat) : Int))) rfl)) ?_
              refine VRunD.free rfl (VWant.on (b := (!(decide (0 ≤ x1.Tick ∧ x1.Tick ≤ 1000)))) rfl rfl hg37_7) rfl (B.gtr (c := (decide (0 < i))) (VEv.tmp (t := (T.int .i64 ((i : Nat) : Int))) rfl) (VEv.int .i64 0) (by first | exact hw _ (List.mem_of_getElem? hx1) | (exact decN (by omega)))) ?_
              refine VRunD.free rfl (VWant.on (b := (!(decide (0 ≤ x1.Tick ∧ x1.Tick ≤ 1000)))) rfl rfl hg37_7) rfl (OF.move (VEv.tmp (t := (T.bool (decide (0 < i)))) rfl)) ?_
              refine bool_way (decide (0 < i)) (fun hg40_9 => ?_) (fun hg40_9 => ?_)
              · have fhg40_9 : 0 < i := of_decide_eq_true hg40_9
                refine VRunD.free rfl (VWant.on (b := (decide (0 < i))) rfl rfl hg40_9) rfl (OF.move (VEv.tmp (t := (T.sl false 5 (a.map (eCorrection false)))) rfl)) ?_
                refine VRunD.free rfl (VWant.on (b := (decide (0 < i))) rfl rfl hg40_9) rfl (OF.move (VEv.tmp (t := (T.int .i64 ((i : Nat) : Int))) rfl)) ?_
                refine VRunD.free rfl (VWant.on (b := (decide (0 < i))) rfl rfl hg40_9) rfl (B.sub (n := ((i - 1 : Nat) : Int)) (VEv.tmp (t := (T.int .i64 ((i : Nat) : Int))) rfl) (VEv.int .i64 1) (by first | exact hw _ (List.mem_of_getElem? hx1) | rfl | (rw [wrap64 (by omega)]; done) | (rw [wrap64 (by omega)]; omega) | (rw [wrap64 (by omega)]; push_cast; omega) | omega)) ?_
                obtain ⟨x2, hx2⟩ : ∃ x, a[i - 1]? = some x := ⟨_, List.getElem?_eq_getElem (by first | exact hw _ (List.mem_of_getElem? hx1) | omega | (simp only [List.length_map]; omega) | (simp only [List.length_map, List.length_append, List.length_cons, List.length_nil, List.length_replicate, List.length_set, List.length_drop, List.length_take, lim] at *; omega))⟩
                refine VRunD.free rfl (VWant.on (b := (decide (0 < i))) rfl rfl hg40_9) rfl (OF.indexAddrR (row := (eCorrection false x2)) (i := i - 1) (VEv.tmp (t := (T.sl false 5 (a.map (eCorrection false)))) rfl) (VEv.tmp (t := (T.int .i64 ((i - 1 : Nat) : Int))) rfl) rfl (map_at _ hx2) Try.underlying68 sz117 if117) ?_
                refine VRunD.free rfl (VWant.on (b := (decide (0 < i))) rfl rfl hg40_9) rfl (B.fieldAddrR (us := [(T.int .i64 x2.Tick)]) (VEv.tmp (t := (T.rp [(T.int .i64 x2.Issue), (T.int .i64 x2.Slot), (T.int .i64 x2.Clue.Sense), (T.sl false 4 (x2.Clue.Play.map (eStep false))), (T.int .i64 x2.Tick)])) rfl) (Nat.le_of_ble_eq_true rfl) fa117_3 rfl) ?_
                refine VRunD.look rfl (VWant.on (b := (decide (0 < i))) rfl rfl hg40_9) rfl (OL.loadR1 (t := (T.int .i64 x2.Tick)) (VEv.tmp (t := (T.rp [(T.int .i64 x2.Tick)])) rfl) rfl st3) ?_
                refine VRunD.free rfl (VWant.on (b := (decide (0 < i))) rfl rfl hg40_9) rfl (OF.fieldAddrO (VEv.tmp (t := (T.op 0 0)) rfl) fa117_3) ?_
                refine VRunD.look rfl (VWant.on (b := (decide (0 < i))) rfl rfl hg40_9) rfl (OL.loadO1 (t := (T.int .i64 x1.Tick)) (VEv.tmp (t := (T.op 0 4)) rfl) rfl rfl st3) ?_
                refine VRunD.free rfl (VWant.on (b := (decide (0 < i))) rfl rfl hg40_9) rfl (B.gtr (c := (decide (x1.Tick < x2.Tick))) (VEv.tmp (t := (T.int .i64 x2.Tick)) rfl) (VEv.tmp (t := (T.int .i64 x1.Tick)) rfl) rfl) ?_
                refine VRunD.free rfl (VWant.on (b := (!(decide (0 ≤ x1.Tick ∧ x1.Tick ≤ 1000)))) rfl rfl hg37_7) rfl (OF.pickT (VEv.tmpB (b := (decide (0 < i))) rfl hg40_9) (VEv.tmp (t := (T.bool (decide (x1.Tick < x2.Tick)))) rfl)) ?_
                refine VRunD.free rfl VWant.always rfl (OF.pickF (VEv.tmpB (b := (!(decide (0 ≤ x1.Tick ∧ x1.Tick ≤ 1000)))) rfl hg37_7) (VEv.tmp (t := (T.bool (decide (x1.Tick < x2.Tick)))) rfl)) ?_
                refine VRunD.nil ?_
                refine vthn.n ?_
                refine VRun.cond (VEv.tmp (t := (T.bool (decide (x1.Tick < x2.Tick)))) rfl) (fun hc1 => ?_) (fun hc1 => ?_)
                · have fhc1 : x1.Tick < x2.Tick := of_decide_eq_true hc1
                  refine VRun.seq ?_
                  refine VRun.region ?_
                  refine VRunO.free VWant.always (OF.assign (VEv.bool false)) ?_
                  refine VRunO.nil ?_
                  refine vthn.n ?_
                  refine VRun.ret ?_
                  refine vinB.r ?_
                  refine vthn.r ?_
                  refine vthn.r ?_
                  refine vinB.r ?_
                  refine vthn.r ?_
                  refine vfin.eq (r' := (T.bool false)) ?_ (vfin.r (VRes.tmp (t := (T.bool false)) rfl VRes.nil) (Give.bool _))
                  show (T.bool false) = (T.bool (decide (areCorrections a)))
                  refine congrArg T.bool ?_
                  first | (refine decN ⟨fun h => ⟨by omega, allEnd hI' fhc0⟩, fun h => by have := h.1; omega⟩) | (symm; rw [decide_eq_false_iff_not]; rintro ⟨_, h2⟩; obtain ⟨y, hy, h3, h4, h5, h6, h7⟩ := h2 i fhc0; obtain rfl := same_at hx1 hy; first | omega | contradiction | (obtain ⟨z, hz, h9⟩ := h7 (by omega); obtain rfl := same_at hx2 hz; omega) | (simp_all; done))
                · have fhc1 : ¬ (x1.Tick < x2.Tick) := of_decide_eq_false hc1
                  refine VRun.skip ?_
                  refine vinB.n ?_
                  refine vthn.n ?_
                  refine VRun.region ?_
                  refine VRunO.free VWant.always (OF.move (VEv.tmp (t := (T.int .i64 ((i : Nat) : Int))) rfl)) ?_
                  refine VRunO.free VWant.always (B.add (n := (((i + 1) : Nat) : Int)) (VEv.tmp (t := (T.int .i64 ((i : Nat) : Int))) rfl) (VEv.int .i64 1) (by first | exact hw _ (List.mem_of_getElem? hx1) | rfl | (rw [wrap64 (by omega)]; done) | (rw [wrap64 (by omega)]; omega) | (rw [wrap64 (by omega)]; push_cast; omega) | omega)) ?_
                  refine VRunO.free VWant.always (OF.assign (VEv.tmp (t := (T.int .i64 (((i + 1) : Nat) : Int))) rfl)) ?_
                  refine VRunO.nil ?_
                  refine vthn.n ?_
                  refine ⟨(i + 1 : Nat), ?_, ?_, Wk.mk (fun k => k) ?_ ?_ ?_⟩
                  · refine allNext hI0 fhc0 ⟨x1, hx1, by omega, by omega, by assumption, by omega, fun h0 => ?_⟩
                    first | (exact absurd h0 (by omega)) | (refine ⟨x2, hx2, ?_⟩; omega)
                  · first | omega | (simp only []; omega) | (show _ < _; omega) | (simp; omega)
                  · exact (ball_cons ⟨rfl, rfl⟩ (ball_cons ⟨rfl, rfl⟩ (ball_nil)))
                  · exact (ball_nil)
                  · show List.Nodup ([] : List Nat)
                    decide
              · have fhg40_9 : ¬ (0 < i) := of_decide_eq_false hg40_9
                refine VRunD.off rfl (VWant.not (b := (decide (0 < i))) rfl rfl hg40_9) ?_
                refine VRunD.off rfl (VWant.not (b := (decide (0 < i))) rfl rfl hg40_9) ?_
                refine VRunD.off rfl (VWant.not (b := (decide (0 < i))) rfl rfl hg40_9) ?_
                refine VRunD.off rfl (VWant.not (b := (decide (0 < i))) rfl rfl hg40_9) ?_
                refine VRunD.off rfl (VWant.not (b := (decide (0 < i))) rfl rfl hg40_9) ?_
                refine VRunD.off rfl (VWant.not (b := (decide (0 < i))) rfl rfl hg40_9) ?_
                refine VRunD.off rfl (VWant.not (b := (decide (0 < i))) rfl rfl hg40_9) ?_
                refine VRunD.off rfl (VWant.not (b := (decide (0 < i))) rfl rfl hg40_9) ?_
                refine VRunD.off rfl (VWant.not (b := (decide (0 < i))) rfl rfl hg40_9) ?_
                refine VRunD.free rfl (VWant.on (b := (!(decide (0 ≤ x1.Tick ∧ x1.Tick ≤ 1000)))) rfl rfl hg37_7) rfl (OF.pickF (VEv.tmpB (b := (decide (0 < i))) rfl hg40_9) (VEv.bool false)) ?_
                refine VRunD.free rfl VWant.always rfl (OF.pickF (VEv.tmpB (b := (!(decide (0 ≤ x1.Tick ∧ x1.Tick ≤ 1000)))) rfl hg37_7) (VEv.tmp (t := (T.bool false)) rfl)) ?_
                refine VRunD.nil ?_
                refine vthn.n ?_
                refine VRun.cond (VEv.tmp (t := (T.bool false)) rfl) (fun hk10 => ?_) (fun hk10 => ?_)
                · exact absurd (rfl.symm.trans hk10) (by decide)
                · skip
                  refine VRun.skip ?_
                  refine vinB.n ?_
                  refine vthn.n ?_
                  refine VRun.region ?_
                  refine VRunO.free VWant.always (OF.move (VEv.tmp (t := (T.int .i64 ((i : Nat) : Int))) rfl)) ?_
                  refine VRunO.free VWant.always (B.add (n := (((i + 1) : Nat) : Int)) (VEv.tmp (t := (T.int .i64 ((i : Nat) : Int))) rfl) (VEv.int .i64 1) (by first | exact hw _ (List.mem_of_getElem? hx1) | rfl | (rw [wrap64 (by omega)]; done) | (rw [wrap64 (by omega)]; omega) | (rw [wrap64 (by omega)]; push_cast; omega) | omega)) ?_
                  refine VRunO.free VWant.always (OF.assign (VEv.tmp (t := (T.int .i64 (((i + 1) : Nat) : Int))) rfl)) ?_
                  refine VRunO.nil ?_
                  refine vthn.n ?_
                  refine ⟨(i + 1 : Nat), ?_, ?_, Wk.mk (fun k => k) ?_ ?_ ?_⟩
                  · refine allNext hI0 fhc0 ⟨x1, hx1, by omega, by omega, by assumption, by omega, fun h0 => ?_⟩
                    first | (exact absurd h0 (by omega)) | (refine ⟨x2, hx2, ?_⟩; omega)
                  · first | omega | (simp only []; omega) | (show _ < _; omega) | (simp; omega)
                  · exact (ball_cons ⟨rfl, rfl⟩ (ball_cons ⟨rfl, rfl⟩ (ball_nil)))
                  · exact (ball_nil)
                  · show List.Nodup ([] : List Nat)
                    decide
    · have fhc0 : ¬ (i < a.length) := of_decide_eq_false hc0
      refine VRun.exit ?_
      refine vthn.e ?_
      refine vthn.e ?_
      refine vinB.e ?_
      refine vthn.n ?_
      refine VRun.seq ?_
      refine VRun.region ?_
      refine VRunO.free VWant.always (OF.move (VEv.tmp (t := (T.sl false 5 (a.map (eCorrection false)))) rfl)) ?_
      refine VRunO.look VWant.always (B.lenR (m := a.length) (VEv.tmp (t := (T.sl false 5 (a.map (eCorrection false)))) rfl) Try.underlying68 (List.length_map ..)) ?_
      refine VRunO.free VWant.always (B.leq (c := (decide (a.length ≤ 12))) (VEv.tmp (t := (T.int .i64 ((a.length : Nat) : Int))) rfl) (VEv.int .i64 12) (by first | exact hw _ (List.mem_of_getElem? hx1) | (exact decN (by omega)))) ?_
      refine VRunO.free VWant.always (OF.assign (VEv.tmp (t := (T.bool (decide (a.length ≤ 12)))) rfl)) ?_
      refine VRunO.nil ?_
      refine vthn.n ?_
      refine VRun.ret ?_
      refine vfin.eq (r' := (T.bool (decide (a.length ≤ 12)))) ?_ (vfin.r (VRes.tmp (t := (T.bool (decide (a.length ≤ 12)))) rfl VRes.nil) (Give.bool _))
      show (T.bool (decide (a.length ≤ 12))) = (T.bool (decide (areCorrections a)))
      refine congrArg T.bool ?_
      first | (refine decN ⟨fun h => ⟨by omega, allEnd hI' fhc0⟩, fun h => by have := h.1; omega⟩) | (symm; rw [decide_eq_false_iff_not]; rintro ⟨_, h2⟩; obtain ⟨y, hy, h3, h4, h5, h6, h7⟩ := h2 i fhc0; obtain rfl := same_at hx1 hy; first | omega | contradiction | (obtain ⟨z, hz, h9⟩ := h7 (by omega); obtain rfl := same_at hx2 hz; omega) | (simp_all; done))
theorem W_impl_AreCorrections (n : Nat) (a : List D.Correction) (hz : zL zCorrection a ≤ mx) : Pure (acall Try.prog (n + 5)) 47 [(T.sl false 5 (a.map (eCorrection false)))] (T.bool (decide (areCorrections a))) := by
  refine Pure.intro (rs := [ResultVar.tmp 2]) Try.func47 rfl rfl rfl (E0 := [(0, (T.sl false 5 (a.map (eCorrection false))))]) rfl ?_
  have hlim : lim = 1099511627776 := rfl
  have hmx : mx = 1048576 := rfl
  have hmax : maxLen = 9223372036854775807 := rfl
  have ha := zL_len (z := zCorrection) a
  have hw : ∀ x ∈ a, zClue x.Clue ≤ mx := fun x hx => by have h1 := zL_mem (z := zCorrection) hx; simp only [zCorrection] at h1; omega
  refine VRun.seq ?_
  refine VRun.region ?_
  refine VRunO.free VWant.always (OF.assign (VEv.bool false)) ?_
  refine VRunO.nil ?_
  refine vthn.n ?_
  refine VRun.seq ?_
  refine VRun.seq ?_
  refine VRun.region ?_
  refine VRunO.free VWant.always (OF.move (VEv.tmp (t := (T.sl false 5 (a.map (eCorrection false)))) rfl)) ?_
  refine VRunO.look VWant.always (B.lenR (m := a.length) (VEv.tmp (t := (T.sl false 5 (a.map (eCorrection false)))) rfl) Try.underlying68 (List.length_map ..)) ?_
  refine VRunO.free VWant.always (B.gtr (c := (decide (12 < a.length))) (VEv.tmp (t := (T.int .i64 ((a.length : Nat) : Int))) rfl) (VEv.int .i64 12) (by first | exact hw _ (List.mem_of_getElem? hx1) | (exact decN (by omega)))) ?_
  refine VRunO.nil ?_
  refine vthn.n ?_
  refine VRun.cond (VEv.tmp (t := (T.bool (decide (12 < a.length)))) rfl) (fun hc0 => ?_) (fun hc0 => ?_)
  · have fhc0 : 12 < a.length := of_decide_eq_true hc0
    refine VRun.seq ?_
    refine VRun.region ?_
    refine VRunO.free VWant.always (OF.assign (VEv.bool false)) ?_
    refine VRunO.nil ?_
    refine vthn.n ?_
    refine VRun.ret ?_
    refine vthn.r ?_
    refine vfin.eq (r' := (T.bool false)) ?_ (vfin.r (VRes.tmp (t := (T.bool false)) rfl VRes.nil) (Give.bool _))
    show (T.bool false) = (T.bool (decide (areCorrections a)))
    refine congrArg T.bool ?_
    first | (symm; rw [decide_eq_false_iff_not]; rintro ⟨h2, _⟩; omega) | (symm; rw [decide_eq_true_eq]; exact ⟨by omega, allEnd hI' fhc1⟩) | (symm; rw [decide_eq_false_iff_not]; rintro ⟨_, h2⟩; obtain ⟨y, hy, h3, h4, h5, h6, h7⟩ := h2 i fhc1; obtain rfl := same_at hx1 hy; first | omega | contradiction | (obtain ⟨z, hz, h9⟩ := h7 (by omega); obtain rfl := same_at hx2 hz; omega) | (simp_all; done))
  · have fhc0 : ¬ (12 < a.length) := of_decide_eq_false hc0
    refine VRun.skip ?_
    refine vthn.n ?_
    refine VRun.seq ?_
    refine VRun.seq ?_
    refine VRun.region ?_
    refine VRunO.free VWant.always (OF.move (VEv.tmp (t := (T.sl false 5 (a.map (eCorrection false)))) rfl)) ?_
    refine VRunO.look VWant.always (B.lenR (m := a.length) (VEv.tmp (t := (T.sl false 5 (a.map (eCorrection false)))) rfl) Try.underlying68 (List.length_map ..)) ?_
    refine VRunO.free VWant.always (OF.move (VEv.int .i64 0)) ?_
    refine VRunO.nil ?_
    refine vthn.n ?_
    refine VRun.block ?_
    refine VRun.loop (A := Nat) (fun s_ => [(0, (T.sl false 5 (a.map (eCorrection false)))), (8, (T.sl false 5 (a.map (eCorrection false)))), (9, (T.int .i64 ((a.length : Nat) : Int))), (10, (T.int .i64 ((s_ : Nat) : Int)))]) (fun s_ => mkO []) 0 (fun s_ => s_ ≤ a.length ∧ ∀ j, j < s_ → corrOk a j) (fun s_ => a.length - s_) (0 : Nat) ?_ (Wk.mk (fun k => k) ?_ ?_ ?_) ?_
    · exact ⟨Nat.zero_le _, fun j hj => by omega⟩
    · exact (ball_cons ⟨rfl, rfl⟩ (ball_cons ⟨rfl, rfl⟩ (ball_cons ⟨rfl, rfl⟩ (ball_cons ⟨(congrArg (T.int .i64) (show 0 = ((0 : Nat) : Int) from (by first | rfl | omega | (simp; done) | (push_cast; omega)))), rfl⟩ (ball_nil)))))
    · exact (ball_nil)
    · show List.Nodup ([] : List Nat)
      decide
    · rintro i hI
      have hI' : i ≤ a.length ∧ ∀ j, j < i → corrOk a j := hI
      clear hI
      show VRun _ _ _ [(0, (T.sl false 5 (a.map (eCorrection false)))), (8, (T.sl false 5 (a.map (eCorrection false)))), (9, (T.int .i64 ((a.length : Nat) : Int))), (10, (T.int .i64 ((i : Nat) : Int)))] (mkO []) 0 _
      have hI0 := hI'
      refine VRun.seq ?_
      refine VRun.region ?_
      refine VRunO.free VWant.always (B.lss (c := (decide (i < a.length))) (VEv.tmp (t := (T.int .i64 ((i : Nat) : Int))) rfl) (VEv.tmp (t := (T.int .i64 ((a.length : Nat) : Int))) rfl) (by first | exact hw _ (List.mem_of_getElem? hx1) | (exact decN (by omega)))) ?_
      refine VRunO.nil ?_
      refine vthn.n ?_
      refine VRun.seq ?_
      refine VRun.cond (VEv.tmp (t := (T.bool (decide (i < a.length)))) rfl) (fun hc1 => ?_) (fun hc1 => ?_)
      · have fhc1 : i < a.length := of_decide_eq_true hc1
        refine VRun.skip ?_
        refine vthn.n ?_
        refine VRun.seq ?_
        refine VRun.block ?_
        refine VRun.seq ?_
        refine VRun.region ?_
        refine VRunO.free VWant.always (OF.move (VEv.tmp (t := (T.int .i64 ((i : Nat) : Int))) rfl)) ?_
        obtain ⟨x1, hx1⟩ : ∃ x, a[i]? = some x := ⟨_, List.getElem?_eq_getElem (by first | exact hw _ (List.mem_of_getElem? hx1) | omega | (simp only [List.length_map]; omega) | (simp only [List.length_map, List.length_append, List.length_cons, List.length_nil, List.length_replicate, List.length_set, List.length_drop, List.length_take, lim] at *; omega))⟩
        refine VRunO.free VWant.always (OF.indexAddrR (row := (eCorrection false x1)) (i := i) (VEv.tmp (t := (T.sl false 5 (a.map (eCorrection false)))) rfl) (VEv.tmp (t := (T.int .i64 ((i : Nat) : Int))) rfl) rfl (map_at _ hx1) Try.underlying68 sz117 if117) ?_
        refine VRunO.look VWant.always (OL.loadRn (us := (eCorrection false x1)) (VEv.tmp (t := (T.rp [(T.int .i64 x1.Issue), (T.int .i64 x1.Slot), (T.int .i64 x1.Clue.Sense), (T.sl false 4 (x1.Clue.Play.map (eStep false))), (T.int .i64 x1.Tick)])) rfl) st117 sz117 (Nat.le_of_ble_eq_true rfl) rfl) ?_
        refine VRunO.make VWant.always (B.alloc (t := (T.agg [(T.int .i64 0), (T.int .i64 0), (T.int .i64 0), T.nils, (T.int .i64 0)])) (ts := [(T.int .i64 0), (T.int .i64 0), (T.int .i64 0), T.nils, (T.int .i64 0)]) zo117 zc117 nofun (fun _ => .agg _ _ rfl (RLof (RL.cons (.int _ _) (RL.cons (.int _ _) (RL.cons (.int _ _) (RL.cons (.nils) (RL.cons (.int _ _) (RL.nil _)))))))) rfl) ?_
        refine VRunO.free VWant.always (OF.assign (VEv.tmp (t := (T.int .i64 ((i : Nat) : Int))) rfl)) ?_
        refine VRunO.chain VWant.always (B.storeO (us := [(T.int .i64 x1.Issue), (T.int .i64 x1.Slot), (T.int .i64 x1.Clue.Sense), (T.sl false 4 (x1.Clue.Play.map (eStep false))), (T.int .i64 x1.Tick)]) (ws := [(T.int .i64 x1.Issue), (T.int .i64 x1.Slot), (T.int .i64 x1.Clue.Sense), (T.sl false 4 (x1.Clue.Play.map (eStep false))), (T.int .i64 x1.Tick)]) (VEv.tmp (t := (T.op 0 0)) rfl) (VEv.tmp (t := (T.agg (eCorrection false x1))) rfl) nofun rfl rfl (Nat.le_of_ble_eq_true rfl) if117 sz117 (ball_cons rfl (ball_cons rfl (ball_cons rfl (ball_cons rfl (ball_cons rfl (ball_nil)))))) rfl) ?_
        refine VRunO.nil ?_
        refine vthn.n ?_
        refine VRun.seq ?_
        refine VRun.draw (B := [[], [0], [0, 1], [1, 0, 2], [2, 0, 1, 3], [3, 1, 0, 2, 4], [4, 2, 0, 1, 3, 5], [5, 3, 1, 0, 2, 4, 6], [6, 4, 2, 0, 1, 3, 5, 7], [7, 5, 6, 8, 3, 1, 0, 2, 4], [4, 2, 0, 1, 3, 8, 6, 5, 7, 9], [9, 7, 5, 6, 8, 3, 1, 0, 2, 4, 10], [10, 4, 2, 0, 1, 3, 8, 6, 5, 7, 9, 11], [11, 9, 7, 5, 6, 8, 3, 1, 0, 2, 4, 10, 12], [12, 10, 4, 2, 0, 1, 3, 8, 6, 5, 7, 9, 11, 13], [13, 11, 12, 14, 9, 7, 5, 6, 8, 3, 1, 0, 2, 4, 10], [10, 4, 2, 0, 1, 3, 8, 6, 5, 7, 9, 14, 12, 11, 13, 15], [15, 13, 11, 12, 14, 9, 7, 5, 6, 8, 3, 1, 0, 2, 4, 10, 16], [16, 10, 4, 2, 0, 1, 3, 8, 6, 5, 7, 9, 14, 12, 11, 13, 15, 17], [17, 15, 13, 11, 12, 14, 9, 7, 5, 6, 8, 3, 1, 0, 2, 4, 10, 16, 18], [18, 16, 10, 4, 2, 0, 1, 3, 8, 6, 5, 7, 9, 14, 12, 11, 13, 15, 17, 19], [19, 17, 18, 20, 15, 13, 11, 12, 14, 9, 7, 5, 6, 8, 3, 1, 0, 2, 4, 10, 16], [16, 10, 4, 2, 0, 1, 3, 8, 6, 5, 7, 9, 14, 12, 11, 13, 15, 20, 18, 17, 19, 21], [21, 19, 17, 18, 20, 15, 13, 11, 12, 14, 9, 7, 5, 6, 8, 3, 1, 0, 2, 4, 10, 16, 22], [22, 16, 10, 4, 2, 0, 1, 3, 8, 6, 5, 7, 9, 14, 12, 11, 13, 15, 20, 18, 17, 19, 21, 23], [23, 21, 19, 17, 18, 20, 15, 13, 11, 12, 14, 9, 7, 5, 6, 8, 3, 1, 0, 2, 4, 10, 16, 22, 24], [24, 22, 16, 10, 4, 2, 0, 1, 3, 8, 6, 5, 7, 9, 14, 12, 11, 13, 15, 20, 18, 17, 19, 21, 23, 25], [25, 23, 21, 19, 17, 18, 20, 15, 13, 11, 12, 14, 9, 7, 5, 6, 8, 3, 1, 0, 2, 4, 10, 16, 22, 24, 26], [24, 22, 16, 10, 4, 2, 0, 1, 3, 8, 6, 5, 7, 9, 14, 12, 11, 13, 15, 20, 18, 17, 19, 21, 23, 25], [24, 22, 16, 10, 4, 2, 0, 1, 3, 8, 6, 5, 7, 9, 14, 12, 11, 13, 15, 20, 18, 17, 19, 21, 23, 25], [25, 23, 21, 19, 17, 18, 20, 15, 13, 11, 12, 14, 9, 7, 5, 6, 8, 3, 1, 0, 2, 4, 10, 16, 22, 24, 29], [29, 30, 25, 23, 21, 19, 17, 18, 20, 15, 13, 11, 12, 14, 9, 7, 5, 6, 8, 3, 1, 0, 2, 4, 10, 16, 22, 24, 28], [28, 24, 22, 16, 10, 4, 2, 0, 1, 3, 8, 6, 5, 7, 9, 14, 12, 11, 13, 15, 20, 18, 17, 19, 21, 23, 25, 30, 29, 31], [31, 29, 30, 25, 23, 21, 19, 17, 18, 20, 15, 13, 11, 12, 14, 9, 7, 5, 6, 8, 3, 1, 0, 2, 4, 10, 16, 22, 24, 28, 32], [32, 28, 30, 29, 31, 33, 26, 24, 22, 16, 10, 4, 2, 0, 1, 3, 8, 6, 5, 7, 9, 14, 12, 11, 13, 15, 20, 18, 17, 19, 21, 23, 25, 27], [27, 26, 33, 31, 29, 30, 28, 32, 34, 24, 22, 16, 10, 4, 2, 0, 1, 3, 8, 6, 5, 7, 9, 14, 12, 11, 13, 15, 20, 18, 17, 19, 21, 23, 25], [25, 23, 24, 34, 32, 28, 30, 29, 31, 33, 26, 27, 35, 21, 19, 17, 18, 20, 15, 13, 11, 12, 14, 9, 7, 5, 6, 8, 3, 1, 0, 2, 4, 10, 16, 22]]) (by kernel_rfl) (by kernel_rfl) ?_
        refine VRunD.free rfl VWant.always rfl (OF.fieldAddrO (VEv.tmp (t := (T.op 0 0)) rfl) fa117_0) ?_
        refine VRunD.look rfl VWant.always rfl (OL.loadO1 (t := (T.int .i64 x1.Issue)) (VEv.tmp (t := (T.op 0 0)) rfl) rfl rfl st3) ?_
        refine VRunD.quiet (bi := [0, 1]) rfl VWant.always rfl rfl rfl (ball_nil) (OC.callF (us := [(T.int .i64 x1.Issue), (T.int .i64 1), (T.int .i64 999)]) (r := (T.bool (decide (1 ≤ x1.Issue ∧ x1.Issue ≤ 999)))) (r' := (T.bool (decide (1 ≤ x1.Issue ∧ x1.Issue ≤ 999)))) (objs := []) rfl (VEvs.cons (VEv.tmp (t := (T.int .i64 x1.Issue)) rfl) (VEvs.cons (VEv.int .i64 1) (VEvs.cons (VEv.int .i64 999) VEvs.nil))) (LendL.cons (Lend.pl rfl) (LendL.cons (Lend.pl rfl) (LendL.cons (Lend.pl rfl) (LendL.nil)))) (W_impl_InRange (n + 3) x1.Issue 1 999 ) rfl) ?_
        refine VRunD.free rfl VWant.always rfl (B.not (c := (!(decide (1 ≤ x1.Issue ∧ x1.Issue ≤ 999)))) (VEv.tmp (t := (T.bool (decide (1 ≤ x1.Issue ∧ x1.Issue ≤ 999)))) rfl) rfl) ?_
        refine VRunD.free rfl VWant.always rfl (OF.move (VEv.tmp (t := (T.bool (!(decide (1 ≤ x1.Issue ∧ x1.Issue ≤ 999))))) rfl)) ?_
        refine bool_way (!(decide (1 ≤ x1.Issue ∧ x1.Issue ≤ 999))) (fun hg19_1 => ?_) (fun hg19_1 => ?_)
        · have fhg19_1 : ¬ (1 ≤ x1.Issue ∧ x1.Issue ≤ 999) := ndT hg19_1
          refine VRunD.off rfl (VWant.not (b := (!(decide (1 ≤ x1.Issue ∧ x1.Issue ≤ 999)))) rfl rfl hg19_1) ?_
          refine VRunD.off rfl (VWant.not (b := (!(decide (1 ≤ x1.Issue ∧ x1.Issue ≤ 999)))) rfl rfl hg19_1) ?_
          refine VRunD.off rfl (VWant.not (b := (!(decide (1 ≤ x1.Issue ∧ x1.Issue ≤ 999)))) rfl rfl hg19_1) ?_
          refine VRunD.off rfl (VWant.not (b := (!(decide (1 ≤ x1.Issue ∧ x1.Issue ≤ 999)))) rfl rfl hg19_1) ?_
          refine VRunD.free rfl VWant.always rfl (OF.pickT (VEv.tmpB (b := (!(decide (1 ≤ x1.Issue ∧ x1.Issue ≤ 999)))) rfl hg19_1) (VEv.bool true)) ?_
          refine VRunD.free rfl VWant.always rfl (OF.move (VEv.tmp (t := (T.bool true)) rfl)) ?_
          refine VRunD.off rfl (VWant.not (b := true) rfl rfl rfl) ?_
          refine VRunD.off rfl (VWant.not (b := true) rfl rfl rfl) ?_
          refine VRunD.off rfl (VWant.not (b := true) rfl rfl rfl) ?_
          refine VRunD.off rfl (VWant.not (b := true) rfl rfl rfl) ?_
          refine VRunD.free rfl VWant.always rfl (OF.pickT (VEv.tmp (t := (T.bool true)) rfl) (VEv.bool true)) ?_
          refine VRunD.free rfl VWant.always rfl (OF.move (VEv.tmp (t := (T.bool true)) rfl)) ?_
          refine VRunD.off rfl (VWant.not (b := true) rfl rfl rfl) ?_
          refine VRunD.off rfl (VWant.not (b := true) rfl rfl rfl) ?_
          refine VRunD.off rfl (VWant.not (b := true) rfl rfl rfl) ?_
          refine VRunD.off rfl (VWant.not (b := true) rfl rfl rfl) ?_
          refine VRunD.free rfl VWant.always rfl (OF.pickT (VEv.tmp (t := (T.bool true)) rfl) (VEv.bool true)) ?_
          refine VRunD.free rfl VWant.always rfl (OF.move (VEv.tmp (t := (T.bool true)) rfl)) ?_
          refine VRunD.off rfl (VWant.not (b := true) rfl rfl rfl) ?_
          refine VRunD.off rfl (VWant.not (b := true) rfl rfl rfl) ?_
          refine VRunD.off rfl (VWant.not (b := true) rfl rfl rfl) ?_
          refine VRunD.off rfl (VWant.undef rfl rfl) ?_
          refine VRunD.off rfl (VWant.undef rfl rfl) ?_
          refine VRunD.off rfl (VWant.undef rfl rfl) ?_
          refine VRunD.off rfl (VWant.undef rfl rfl) ?_
          refine VRunD.off rfl (VWant.undef rfl rfl) ?_
          refine VRunD.off rfl (VWant.undef rfl rfl) ?_
          refine VRunD.off rfl (VWant.undef rfl rfl) ?_
          refine VRunD.off rfl (VWant.undef rfl rfl) ?_
          refine VRunD.off rfl (VWant.undef rfl rfl) ?_
          refine VRunD.off rfl (VWant.not (b := true) rfl rfl rfl) ?_
          refine VRunD.free rfl VWant.always rfl (OF.pickT (VEv.tmp (t := (T.bool true)) rfl) (VEv.bool true)) ?_
          refine VRunD.nil ?_
          refine vthn.n ?_
          refine VRun.cond (VEv.tmp (t := (T.bool true)) rfl) (fun hk2 => ?_) (fun hk2 => ?_)
          · skip
            refine VRun.seq ?_
            refine VRun.region ?_
            refine VRunO.free VWant.always (OF.assign (VEv.bool false)) ?_
            refine VRunO.nil ?_
            refine vthn.n ?_
            refine VRun.ret ?_
            refine vinB.r ?_
            refine vthn.r ?_
            refine vthn.r ?_
            refine vinB.r ?_
            refine vthn.r ?_
            refine vfin.eq (r' := (T.bool false)) ?_ (vfin.r (VRes.tmp (t := (T.bool false)) rfl VRes.nil) (Give.bool _))
            show (T.bool false) = (T.bool (decide (areCorrections a)))
            refine congrArg T.bool ?_
            first | (symm; rw [decide_eq_false_iff_not]; rintro ⟨h2, _⟩; omega) | (symm; rw [decide_eq_true_eq]; exact ⟨by omega, allEnd hI' fhc1⟩) | (symm; rw [decide_eq_false_iff_not]; rintro ⟨_, h2⟩; obtain ⟨y, hy, h3, h4, h5, h6, h7⟩ := h2 i fhc1; obtain rfl := same_at hx1 hy; first | omega | contradiction | (obtain ⟨z, hz, h9⟩ := h7 (by omega); obtain rfl := same_at hx2 hz; omega) | (simp_all; done))
          · exact absurd (rfl.symm.trans hk2) (by decide)
        · have fhg19_1 : 1 ≤ x1.Issue ∧ x1.Issue ≤ 999 := ndF hg19_1
          refine VRunD.free rfl (VWant.on (b := (!(decide (1 ≤ x1.Issue ∧ x1.Issue ≤ 999)))) rfl rfl hg19_1) rfl (OF.fieldAddrO (VEv.tmp (t := (T.op 0 0)) rfl) fa117_1) ?_
          refine VRunD.look rfl (VWant.on (b := (!(decide (1 ≤ x1.Issue ∧ x1.Issue ≤ 999)))) rfl rfl hg19_1) rfl (OL.loadO1 (t := (T.int .i64 x1.Slot)) (VEv.tmp (t := (T.op 0 1)) rfl) rfl rfl st3) ?_
          refine VRunD.quiet (bi := [5, 3, 1, 0, 2, 4, 6]) rfl (VWant.on (b := (!(decide (1 ≤ x1.Issue ∧ x1.Issue ≤ 999)))) rfl rfl hg19_1) rfl rfl rfl (ball_nil) (OC.callF (us := [(T.int .i64 x1.Slot), (T.int .i64 0), (T.int .i64 99)]) (r := (T.bool (decide (0 ≤ x1.Slot ∧ x1.Slot ≤ 99)))) (r' := (T.bool (decide (0 ≤ x1.Slot ∧ x1.Slot ≤ 99)))) (objs := []) rfl (VEvs.cons (VEv.tmp (t := (T.int .i64 x1.Slot)) rfl) (VEvs.cons (VEv.int .i64 0) (VEvs.cons (VEv.int .i64 99) VEvs.nil))) (LendL.cons (Lend.pl rfl) (LendL.cons (Lend.pl rfl) (LendL.cons (Lend.pl rfl) (LendL.nil)))) (W_impl_InRange (n + 3) x1.Slot 0 99 ) rfl) ?_
          refine VRunD.free rfl (VWant.on (b := (!(decide (1 ≤ x1.Issue ∧ x1.Issue ≤ 999)))) rfl rfl hg19_1) rfl (B.not (c := (!(decide (0 ≤ x1.Slot ∧ x1.Slot ≤ 99)))) (VEv.tmp (t := (T.bool (decide (0 ≤ x1.Slot ∧ x1.Slot ≤ 99)))) rfl) rfl) ?_
          refine VRunD.free rfl VWant.always rfl (OF.pickF (VEv.tmpB (b := (!(decide (1 ≤ x1.Issue ∧ x1.Issue ≤ 999)))) rfl hg19_1) (VEv.tmp (t := (T.bool (!(decide (0 ≤ x1.Slot ∧ x1.Slot ≤ 99))))) rfl)) ?_
          refine VRunD.free rfl VWant.always rfl (OF.move (VEv.tmp (t := (T.bool (!(decide (0 ≤ x1.Slot ∧ x1.Slot ≤ 99))))) rfl)) ?_
          refine bool_way (!(decide (0 ≤ x1.Slot ∧ x1.Slot ≤ 99))) (fun hg25_3 => ?_) (fun hg25_3 => ?_)
          · have fhg25_3 : ¬ (0 ≤ x1.Slot ∧ x1.Slot ≤ 99) := ndT hg25_3
            refine VRunD.off rfl (VWant.not (b := (!(decide (0 ≤ x1.Slot ∧ x1.Slot ≤ 99)))) rfl rfl hg25_3) ?_
            refine VRunD.off rfl (VWant.not (b := (!(decide (0 ≤ x1.Slot ∧ x1.Slot ≤ 99)))) rfl rfl hg25_3) ?_
            refine VRunD.off rfl (VWant.not (b := (!(decide (0 ≤ x1.Slot ∧ x1.Slot ≤ 99)))) rfl rfl hg25_3) ?_
            refine VRunD.off rfl (VWant.not (b := (!(decide (0 ≤ x1.Slot ∧ x1.Slot ≤ 99)))) rfl rfl hg25_3) ?_
            refine VRunD.free rfl VWant.always rfl (OF.pickT (VEv.tmpB (b := (!(decide (0 ≤ x1.Slot ∧ x1.Slot ≤ 99)))) rfl hg25_3) (VEv.bool true)) ?_
            refine VRunD.free rfl VWant.always rfl (OF.move (VEv.tmp (t := (T.bool true)) rfl)) ?_
            refine VRunD.off rfl (VWant.not (b := true) rfl rfl rfl) ?_
            refine VRunD.off rfl (VWant.not (b := true) rfl rfl rfl) ?_
            refine VRunD.off rfl (VWant.not (b := true) rfl rfl rfl) ?_
            refine VRunD.off rfl (VWant.not (b := true) rfl rfl rfl) ?_
            refine VRunD.free rfl VWant.always rfl (OF.pickT (VEv.tmp (t := (T.bool true)) rfl) (VEv.bool true)) ?_
            refine VRunD.free rfl VWant.always rfl (OF.move (VEv.tmp (t := (T.bool true)) rfl)) ?_
            refine VRunD.off rfl (VWant.not (b := true) rfl rfl rfl) ?_
            refine VRunD.off rfl (VWant.not (b := true) rfl rfl rfl) ?_
            refine VRunD.off rfl (VWant.not (b := true) rfl rfl rfl) ?_
            refine VRunD.off rfl (VWant.undef rfl rfl) ?_
            refine VRunD.off rfl (VWant.undef rfl rfl) ?_
            refine VRunD.off rfl (VWant.undef rfl rfl) ?_
            refine VRunD.off rfl (VWant.undef rfl rfl) ?_
            refine VRunD.off rfl (VWant.undef rfl rfl) ?_
            refine VRunD.off rfl (VWant.undef rfl rfl) ?_
            refine VRunD.off rfl (VWant.undef rfl rfl) ?_
            refine VRunD.off rfl (VWant.undef rfl rfl) ?_
            refine VRunD.off rfl (VWant.undef rfl rfl) ?_
            refine VRunD.off rfl (VWant.not (b := true) rfl rfl rfl) ?_
            refine VRunD.free rfl VWant.always rfl (OF.pickT (VEv.tmp (t := (T.bool true)) rfl) (VEv.bool true)) ?_
            refine VRunD.nil ?_
            refine vthn.n ?_
            refine VRun.cond (VEv.tmp (t := (T.bool true)) rfl) (fun hk4 => ?_) (fun hk4 => ?_)
            · skip
              refine VRun.seq ?_
              refine VRun.region ?_
              refine VRunO.free VWant.always (OF.assign (VEv.bool false)) ?_
              refine VRunO.nil ?_
              refine vthn.n ?_
              refine VRun.ret ?_
              refine vinB.r ?_
              refine vthn.r ?_
              refine vthn.r ?_
              refine vinB.r ?_
              refine vthn.r ?_
              refine vfin.eq (r' := (T.bool false)) ?_ (vfin.r (VRes.tmp (t := (T.bool false)) rfl VRes.nil) (Give.bool _))
              show (T.bool false) = (T.bool (decide (areCorrections a)))
              refine congrArg T.bool ?_
              first | (symm; rw [decide_eq_false_iff_not]; rintro ⟨h2, _⟩; omega) | (symm; rw [decide_eq_true_eq]; exact ⟨by omega, allEnd hI' fhc1⟩) | (symm; rw [decide_eq_false_iff_not]; rintro ⟨_, h2⟩; obtain ⟨y, hy, h3, h4, h5, h6, h7⟩ := h2 i fhc1; obtain rfl := same_at hx1 hy; first | omega | contradiction | (obtain ⟨z, hz, h9⟩ := h7 (by omega); obtain rfl := same_at hx2 hz; omega) | (simp_all; done))
            · exact absurd (rfl.symm.trans hk4) (by decide)
          · have fhg25_3 : 0 ≤ x1.Slot ∧ x1.Slot ≤ 99 := ndF hg25_3
            refine VRunD.free rfl (VWant.on (b := (!(decide (0 ≤ x1.Slot ∧ x1.Slot ≤ 99)))) rfl rfl hg25_3) rfl (OF.fieldAddrO (VEv.tmp (t := (T.op 0 0)) rfl) fa117_2) ?_
            refine VRunD.look rfl (VWant.on (b := (!(decide (0 ≤ x1.Slot ∧ x1.Slot ≤ 99)))) rfl rfl hg25_3) rfl (OL.loadOn (us := (eClue false x1.Clue)) (VEv.tmp (t := (T.op 0 2)) rfl) rfl st115 sz115 (Nat.le_of_ble_eq_true rfl) rfl) ?_
            refine VRunD.quiet (bi := [11, 9, 7, 5, 6, 8, 3, 1, 0, 2, 4, 10, 12]) rfl (VWant.on (b := (!(decide (0 ≤ x1.Slot ∧ x1.Slot ≤ 99)))) rfl rfl hg25_3) rfl rfl rfl (ball_nil) (OC.callF (us := [(T.agg (eClue false x1.Clue))]) (r := (T.bool (decide ((1 ≤ x1.Clue.Sense ∧ x1.Clue.Sense ≤ 99) ∧ isPlay x1.Clue.Play)))) (r' := (T.bool (decide ((1 ≤ x1.Clue.Sense ∧ x1.Clue.Sense ≤ 99) ∧ isPlay x1.Clue.Play)))) (objs := []) rfl (VEvs.cons (VEv.tmp (t := (T.agg (eClue false x1.Clue))) rfl) VEvs.nil) (LendL.cons (Lend.agg (LendL.cons (Lend.pl rfl) (LendL.cons (Lend.pl rfl) (LendL.nil)))) (LendL.nil)) (W_impl_IsClue (n + 0) x1.Clue (by first | exact hw _ (List.mem_of_getElem? hx1) | assumption | omega | (simp only [List.length_map]; omega) | (simp only [List.length_map, List.length_append, List.length_cons, List.length_nil, List.length_replicate, List.length_set, List.length_drop, List.length_take, lim] at *; omega))) rfl) ?_
            refine VRunD.free rfl (VWant.on (b := (!(decide (0 ≤ x1.Slot ∧ x1.Slot ≤ 99)))) rfl rfl hg25_3) rfl (B.not (c := (!(decide ((1 ≤ x1.Clue.Sense ∧ x1.Clue.Sense ≤ 99) ∧ isPlay x1.Clue.Play)))) (VEv.tmp (t := (T.bool (decide ((1 ≤ x1.Clue.Sense ∧ x1.Clue.Sense ≤ 99) ∧ isPlay x1.Clue.Play)))) rfl) rfl) ?_
            refine VRunD.free rfl VWant.always rfl (OF.pickF (VEv.tmpB (b := (!(decide (0 ≤ x1.Slot ∧ x1.Slot ≤ 99)))) rfl hg25_3) (VEv.tmp (t := (T.bool (!(decide ((1 ≤ x1.Clue.Sense ∧ x1.Clue.Sense ≤ 99) ∧ isPlay x1.Clue.Play))))) rfl)) ?_
            refine VRunD.free rfl VWant.always rfl (OF.move (VEv.tmp (t := (T.bool (!(decide ((1 ≤ x1.Clue.Sense ∧ x1.Clue.Sense ≤ 99) ∧ isPlay x1.Clue.Play))))) rfl)) ?_
            refine bool_way (!(decide ((1 ≤ x1.Clue.Sense ∧ x1.Clue.Sense ≤ 99) ∧ isPlay x1.Clue.Play))) (fun hg31_5 => ?_) (fun hg31_5 => ?_)
            · have fhg31_5 : ¬ ((1 ≤ x1.Clue.Sense ∧ x1.Clue.Sense ≤ 99) ∧ isPlay x1.Clue.Play) := ndT hg31_5
              refine VRunD.off rfl (VWant.not (b := (!(decide ((1 ≤ x1.Clue.Sense ∧ x1.Clue.Sense ≤ 99) ∧ isPlay x1.Clue.Play)))) rfl rfl hg31_5) ?_
              refine VRunD.off rfl (VWant.not (b := (!(decide ((1 ≤ x1.Clue.Sense ∧ x1.Clue.Sense ≤ 99) ∧ isPlay x1.Clue.Play)))) rfl rfl hg31_5) ?_
              refine VRunD.off rfl (VWant.not (b := (!(decide ((1 ≤ x1.Clue.Sense ∧ x1.Clue.Sense ≤ 99) ∧ isPlay x1.Clue.Play)))) rfl rfl hg31_5) ?_
              refine VRunD.off rfl (VWant.not (b := (!(decide ((1 ≤ x1.Clue.Sense ∧ x1.Clue.Sense ≤ 99) ∧ isPlay x1.Clue.Play)))) rfl rfl hg31_5) ?_
              refine VRunD.free rfl VWant.always rfl (OF.pickT (VEv.tmpB (b := (!(decide ((1 ≤ x1.Clue.Sense ∧ x1.Clue.Sense ≤ 99) ∧ isPlay x1.Clue.Play)))) rfl hg31_5) (VEv.bool true)) ?_
              refine VRunD.free rfl VWant.always rfl (OF.move (VEv.tmp (t := (T.bool true)) rfl)) ?_
              refine VRunD.off rfl (VWant.not (b := true) rfl rfl rfl) ?_
              refine VRunD.off rfl (VWant.not (b := true) rfl rfl rfl) ?_
              refine VRunD.off rfl (VWant.not (b := true) rfl rfl rfl) ?_
              refine VRunD.off rfl (VWant.undef rfl rfl) ?_
              refine VRunD.off rfl (VWant.undef rfl rfl) ?_
              refine VRunD.off rfl (VWant.undef rfl rfl) ?_
              refine VRunD.off rfl (VWant.undef rfl rfl) ?_
              refine VRunD.off rfl (VWant.undef rfl rfl) ?_
              refine VRunD.off rfl (VWant.undef rfl rfl) ?_
              refine VRunD.off rfl (VWant.undef rfl rfl) ?_
              refine VRunD.off rfl (VWant.undef rfl rfl) ?_
              refine VRunD.off rfl (VWant.undef rfl rfl) ?_
              refine VRunD.off rfl (VWant.not (b := true) rfl rfl rfl) ?_
              refine VRunD.free rfl VWant.always rfl (OF.pickT (VEv.tmp (t := (T.bool true)) rfl) (VEv.bool true)) ?_
              refine VRunD.nil ?_
              refine vthn.n ?_
              refine VRun.cond (VEv.tmp (t := (T.bool true)) rfl) (fun hk6 => ?_) (fun hk6 => ?_)
              · skip
                refine VRun.seq ?_
                refine VRun.region ?_
                refine VRunO.free VWant.always (OF.assign (VEv.bool false)) ?_
                refine VRunO.nil ?_
                refine vthn.n ?_
                refine VRun.ret ?_
                refine vinB.r ?_
                refine vthn.r ?_
                refine vthn.r ?_
                refine vinB.r ?_
                refine vthn.r ?_
                refine vfin.eq (r' := (T.bool false)) ?_ (vfin.r (VRes.tmp (t := (T.bool false)) rfl VRes.nil) (Give.bool _))
                show (T.bool false) = (T.bool (decide (areCorrections a)))
                refine congrArg T.bool ?_
                first | (symm; rw [decide_eq_false_iff_not]; rintro ⟨h2, _⟩; omega) | (symm; rw [decide_eq_true_eq]; exact ⟨by omega, allEnd hI' fhc1⟩) | (symm; rw [decide_eq_false_iff_not]; rintro ⟨_, h2⟩; obtain ⟨y, hy, h3, h4, h5, h6, h7⟩ := h2 i fhc1; obtain rfl := same_at hx1 hy; first | omega | contradiction | (obtain ⟨z, hz, h9⟩ := h7 (by omega); obtain rfl := same_at hx2 hz; omega) | (simp_all; done))
              · exact absurd (rfl.symm.trans hk6) (by decide)
            · have fhg31_5 : (1 ≤ x1.Clue.Sense ∧ x1.Clue.Sense ≤ 99) ∧ isPlay x1.Clue.Play := ndF hg31_5
              refine VRunD.free rfl (VWant.on (b := (!(decide ((1 ≤ x1.Clue.Sense ∧ x1.Clue.Sense ≤ 99) ∧ isPlay x1.Clue.Play)))) rfl rfl hg31_5) rfl (OF.fieldAddrO (VEv.tmp (t := (T.op 0 0)) rfl) fa117_3) ?_
              refine VRunD.look rfl (VWant.on (b := (!(decide ((1 ≤ x1.Clue.Sense ∧ x1.Clue.Sense ≤ 99) ∧ isPlay x1.Clue.Play)))) rfl rfl hg31_5) rfl (OL.loadO1 (t := (T.int .i64 x1.Tick)) (VEv.tmp (t := (T.op 0 4)) rfl) rfl rfl st3) ?_
              refine VRunD.quiet (bi := [17, 15, 13, 11, 12, 14, 9, 7, 5, 6, 8, 3, 1, 0, 2, 4, 10, 16, 18]) rfl (VWant.on (b := (!(decide ((1 ≤ x1.Clue.Sense ∧ x1.Clue.Sense ≤ 99) ∧ isPlay x1.Clue.Play)))) rfl rfl hg31_5) rfl rfl rfl (ball_nil) (OC.callF (us := [(T.int .i64 x1.Tick), (T.int .i64 0), (T.int .i64 1000)]) (r := (T.bool (decide (0 ≤ x1.Tick ∧ x1.Tick ≤ 1000)))) (r' := (T.bool (decide (0 ≤ x1.Tick ∧ x1.Tick ≤ 1000)))) (objs := []) rfl (VEvs.cons (VEv.tmp (t := (T.int .i64 x1.Tick)) rfl) (VEvs.cons (VEv.int .i64 0) (VEvs.cons (VEv.int .i64 1000) VEvs.nil))) (LendL.cons (Lend.pl rfl) (LendL.cons (Lend.pl rfl) (LendL.cons (Lend.pl rfl) (LendL.nil)))) (W_impl_InRange (n + 3) x1.Tick 0 1000 ) rfl) ?_
              refine VRunD.free rfl (VWant.on (b := (!(decide ((1 ≤ x1.Clue.Sense ∧ x1.Clue.Sense ≤ 99) ∧ isPlay x1.Clue.Play)))) rfl rfl hg31_5) rfl (B.not (c := (!(decide (0 ≤ x1.Tick ∧ x1.Tick ≤ 1000)))) (VEv.tmp (t := (T.bool (decide (0 ≤ x1.Tick ∧ x1.Tick ≤ 1000)))) rfl) rfl) ?_
              refine VRunD.free rfl VWant.always rfl (OF.pickF (VEv.tmpB (b := (!(decide ((1 ≤ x1.Clue.Sense ∧ x1.Clue.Sense ≤ 99) ∧ isPlay x1.Clue.Play)))) rfl hg31_5) (VEv.tmp (t := (T.bool (!(decide (0 ≤ x1.Tick ∧ x1.Tick ≤ 1000))))) rfl)) ?_
              refine VRunD.free rfl VWant.always rfl (OF.move (VEv.tmp (t := (T.bool (!(decide (0 ≤ x1.Tick ∧ x1.Tick ≤ 1000))))) rfl)) ?_
              refine bool_way (!(decide (0 ≤ x1.Tick ∧ x1.Tick ≤ 1000))) (fun hg37_7 => ?_) (fun hg37_7 => ?_)
              · have fhg37_7 : ¬ (0 ≤ x1.Tick ∧ x1.Tick ≤ 1000) := ndT hg37_7
                refine VRunD.off rfl (VWant.not (b := (!(decide (0 ≤ x1.Tick ∧ x1.Tick ≤ 1000)))) rfl rfl hg37_7) ?_
                refine VRunD.off rfl (VWant.not (b := (!(decide (0 ≤ x1.Tick ∧ x1.Tick ≤ 1000)))) rfl rfl hg37_7) ?_
                refine VRunD.off rfl (VWant.not (b := (!(decide (0 ≤ x1.Tick ∧ x1.Tick ≤ 1000)))) rfl rfl hg37_7) ?_
                refine VRunD.off rfl (VWant.undef rfl rfl) ?_
                refine VRunD.off rfl (VWant.undef rfl rfl) ?_
                refine VRunD.off rfl (VWant.undef rfl rfl) ?_
                refine VRunD.off rfl (VWant.undef rfl rfl) ?_
                refine VRunD.off rfl (VWant.undef rfl rfl) ?_
                refine VRunD.off rfl (VWant.undef rfl rfl) ?_
                refine VRunD.off rfl (VWant.undef rfl rfl) ?_
                refine VRunD.off rfl (VWant.undef rfl rfl) ?_
                refine VRunD.off rfl (VWant.undef rfl rfl) ?_
                refine VRunD.off rfl (VWant.not (b := (!(decide (0 ≤ x1.Tick ∧ x1.Tick ≤ 1000)))) rfl rfl hg37_7) ?_
                refine VRunD.free rfl VWant.always rfl (OF.pickT (VEv.tmpB (b := (!(decide (0 ≤ x1.Tick ∧ x1.Tick ≤ 1000)))) rfl hg37_7) (VEv.bool true)) ?_
                refine VRunD.nil ?_
                refine vthn.n ?_
                refine VRun.cond (VEv.tmp (t := (T.bool true)) rfl) (fun hk8 => ?_) (fun hk8 => ?_)
                · skip
                  refine VRun.seq ?_
                  refine VRun.region ?_
                  refine VRunO.free VWant.always (OF.assign (VEv.bool false)) ?_
                  refine VRunO.nil ?_
                  refine vthn.n ?_
                  refine VRun.ret ?_
                  refine vinB.r ?_
                  refine vthn.r ?_
                  refine vthn.r ?_
                  refine vinB.r ?_
                  refine vthn.r ?_
                  refine vfin.eq (r' := (T.bool false)) ?_ (vfin.r (VRes.tmp (t := (T.bool false)) rfl VRes.nil) (Give.bool _))
                  show (T.bool false) = (T.bool (decide (areCorrections a)))
                  refine congrArg T.bool ?_
                  first | (symm; rw [decide_eq_false_iff_not]; rintro ⟨h2, _⟩; omega) | (symm; rw [decide_eq_true_eq]; exact ⟨by omega, allEnd hI' fhc1⟩) | (symm; rw [decide_eq_false_iff_not]; rintro ⟨_, h2⟩; obtain ⟨y, hy, h3, h4, h5, h6, h7⟩ := h2 i fhc1; obtain rfl := same_at hx1 hy; first | omega | contradiction | (obtain ⟨z, hz, h9⟩ := h7 (by omega); obtain rfl := same_at hx2 hz; omega) | (simp_all; done))
                · exact absurd (rfl.symm.trans hk8) (by decide)
              · have fhg37_7 : 0 ≤ x1.Tick ∧ x1.Tick ≤ 1000 := ndF hg37_7
                refine VRunD.free rfl (VWant.on (b := (!(decide (0 ≤ x1.Tick ∧ x1.Tick ≤ 1000)))) rfl rfl hg37_7) rfl (OF.move (VEv.tmp (t := (T.int .i64 ((i : Nat) : Int))) rfl)) ?_
                refine VRunD.free rfl (VWant.on (b := (!(decide (0 ≤ x1.Tick ∧ x1.Tick ≤ 1000)))) rfl rfl hg37_7) rfl (B.gtr (c := (decide (0 < i))) (VEv.tmp (t := (T.int .i64 ((i : Nat) : Int))) rfl) (VEv.int .i64 0) (by first | exact hw _ (List.mem_of_getElem? hx1) | (exact decN (by omega)))) ?_
                refine VRunD.free rfl (VWant.on (b := (!(decide (0 ≤ x1.Tick ∧ x1.Tick ≤ 1000)))) rfl rfl hg37_7) rfl (OF.move (VEv.tmp (t := (T.bool (decide (0 < i)))) rfl)) ?_
                refine bool_way (decide (0 < i)) (fun hg40_9 => ?_) (fun hg40_9 => ?_)
                · have fhg40_9 : 0 < i := of_decide_eq_true hg40_9
                  refine VRunD.free rfl (VWant.on (b := (decide (0 < i))) rfl rfl hg40_9) rfl (OF.fieldAddrO (VEv.tmp (t := (T.op 0 0)) rfl) fa117_3) ?_
                  refine VRunD.look rfl (VWant.on (b := (decide (0 < i))) rfl rfl hg40_9) rfl (OL.loadO1 (t := (T.int .i64 x1.Tick)) (VEv.tmp (t := (T.op 0 4)) rfl) rfl rfl st3) ?_
                  refine VRunD.free rfl (VWant.on (b := (decide (0 < i))) rfl rfl hg40_9) rfl (OF.move (VEv.tmp (t := (T.sl false 5 (a.map (eCorrection false)))) rfl)) ?_
                  refine VRunD.free rfl (VWant.on (b := (decide (0 < i))) rfl rfl hg40_9) rfl (OF.move (VEv.tmp (t := (T.int .i64 ((i : Nat) : Int))) rfl)) ?_
                  refine VRunD.free rfl (VWant.on (b := (decide (0 < i))) rfl rfl hg40_9) rfl (B.sub (n := ((i - 1 : Nat) : Int)) (VEv.tmp (t := (T.int .i64 ((i : Nat) : Int))) rfl) (VEv.int .i64 1) (by first | exact hw _ (List.mem_of_getElem? hx1) | rfl | (rw [wrap64 (by omega)]; done) | (rw [wrap64 (by omega)]; omega) | (rw [wrap64 (by omega)]; push_cast; omega) | omega)) ?_
                  obtain ⟨x2, hx2⟩ : ∃ x, a[i - 1]? = some x := ⟨_, List.getElem?_eq_getElem (by first | exact hw _ (List.mem_of_getElem? hx1) | omega | (simp only [List.length_map]; omega) | (simp only [List.length_map, List.length_append, List.length_cons, List.length_nil, List.length_replicate, List.length_set, List.length_drop, List.length_take, lim] at *; omega))⟩
                  refine VRunD.free rfl (VWant.on (b := (decide (0 < i))) rfl rfl hg40_9) rfl (OF.indexAddrR (row := (eCorrection false x2)) (i := i - 1) (VEv.tmp (t := (T.sl false 5 (a.map (eCorrection false)))) rfl) (VEv.tmp (t := (T.int .i64 ((i - 1 : Nat) : Int))) rfl) rfl (map_at _ hx2) Try.underlying68 sz117 if117) ?_
                  refine VRunD.free rfl (VWant.on (b := (decide (0 < i))) rfl rfl hg40_9) rfl (B.fieldAddrR (us := [(T.int .i64 x2.Tick)]) (VEv.tmp (t := (T.rp [(T.int .i64 x2.Issue), (T.int .i64 x2.Slot), (T.int .i64 x2.Clue.Sense), (T.sl false 4 (x2.Clue.Play.map (eStep false))), (T.int .i64 x2.Tick)])) rfl) (Nat.le_of_ble_eq_true rfl) fa117_3 rfl) ?_
                  refine VRunD.look rfl (VWant.on (b := (decide (0 < i))) rfl rfl hg40_9) rfl (OL.loadR1 (t := (T.int .i64 x2.Tick)) (VEv.tmp (t := (T.rp [(T.int .i64 x2.Tick)])) rfl) rfl st3) ?_
                  refine VRunD.free rfl (VWant.on (b := (decide (0 < i))) rfl rfl hg40_9) rfl (B.lss (c := (decide (x1.Tick < x2.Tick))) (VEv.tmp (t := (T.int .i64 x1.Tick)) rfl) (VEv.tmp (t := (T.int .i64 x2.Tick)) rfl) rfl) ?_
                  refine VRunD.free rfl (VWant.on (b := (!(decide (0 ≤ x1.Tick ∧ x1.Tick ≤ 1000)))) rfl rfl hg37_7) rfl (OF.pickT (VEv.tmpB (b := (decide (0 < i))) rfl hg40_9) (VEv.tmp (t := (T.bool (decide (x1.Tick < x2.Tick)))) rfl)) ?_
                  refine VRunD.free rfl VWant.always rfl (OF.pickF (VEv.tmpB (b := (!(decide (0 ≤ x1.Tick ∧ x1.Tick ≤ 1000)))) rfl hg37_7) (VEv.tmp (t := (T.bool (decide (x1.Tick < x2.Tick)))) rfl)) ?_
                  refine VRunD.nil ?_
                  refine vthn.n ?_
                  refine VRun.cond (VEv.tmp (t := (T.bool (decide (x1.Tick < x2.Tick)))) rfl) (fun hc2 => ?_) (fun hc2 => ?_)
                  · have fhc2 : x1.Tick < x2.Tick := of_decide_eq_true hc2
                    refine VRun.seq ?_
                    refine VRun.region ?_
                    refine VRunO.free VWant.always (OF.assign (VEv.bool false)) ?_
                    refine VRunO.nil ?_
                    refine vthn.n ?_
                    refine VRun.ret ?_
                    refine vinB.r ?_
                    refine vthn.r ?_
                    refine vthn.r ?_
                    refine vinB.r ?_
                    refine vthn.r ?_
                    refine vfin.eq (r' := (T.bool false)) ?_ (vfin.r (VRes.tmp (t := (T.bool false)) rfl VRes.nil) (Give.bool _))
                    show (T.bool false) = (T.bool (decide (areCorrections a)))
                    refine congrArg T.bool ?_
                    first | (symm; rw [decide_eq_false_iff_not]; rintro ⟨h2, _⟩; omega) | (symm; rw [decide_eq_true_eq]; exact ⟨by omega, allEnd hI' fhc1⟩) | (symm; rw [decide_eq_false_iff_not]; rintro ⟨_, h2⟩; obtain ⟨y, hy, h3, h4, h5, h6, h7⟩ := h2 i fhc1; obtain rfl := same_at hx1 hy; first | omega | contradiction | (obtain ⟨z, hz, h9⟩ := h7 (by omega); obtain rfl := same_at hx2 hz; omega) | (simp_all; done))
                  · have fhc2 : ¬ (x1.Tick < x2.Tick) := of_decide_eq_false hc2
                    refine VRun.skip ?_
                    refine vinB.n ?_
                    refine vthn.n ?_
                    refine VRun.region ?_
                    refine VRunO.free VWant.always (B.add (n := (((i + 1) : Nat) : Int)) (VEv.tmp (t := (T.int .i64 ((i : Nat) : Int))) rfl) (VEv.int .i64 1) (by first | exact hw _ (List.mem_of_getElem? hx1) | rfl | (rw [wrap64 (by omega)]; done) | (rw [wrap64 (by omega)]; omega) | (rw [wrap64 (by omega)]; push_cast; omega) | omega)) ?_
                    refine VRunO.free VWant.always (OF.move (VEv.tmp (t := (T.int .i64 (((i + 1) : Nat) : Int))) rfl)) ?_
                    refine VRunO.nil ?_
                    refine vthn.n ?_
                    refine ⟨(i + 1 : Nat), ?_, ?_, Wk.mk (fun k => k) ?_ ?_ ?_⟩
                    · refine allNext hI0 fhc1 ⟨x1, hx1, by omega, by omega, by assumption, by omega, fun h0 => ?_⟩
                      first | (exact absurd h0 (by omega)) | (refine ⟨x2, hx2, ?_⟩; omega)
                    · first | omega | (simp only []; omega) | (show _ < _; omega) | (simp; omega)
                    · exact (ball_cons ⟨rfl, rfl⟩ (ball_cons ⟨rfl, rfl⟩ (ball_cons ⟨rfl, rfl⟩ (ball_cons ⟨rfl, rfl⟩ (ball_nil)))))
                    · exact (ball_nil)
                    · show List.Nodup ([] : List Nat)
                      decide
                · have fhg40_9 : ¬ (0 < i) := of_decide_eq_false hg40_9
                  refine VRunD.off rfl (VWant.not (b := (decide (0 < i))) rfl rfl hg40_9) ?_
                  refine VRunD.off rfl (VWant.not (b := (decide (0 < i))) rfl rfl hg40_9) ?_
                  refine VRunD.off rfl (VWant.not (b := (decide (0 < i))) rfl rfl hg40_9) ?_
                  refine VRunD.off rfl (VWant.not (b := (decide (0 < i))) rfl rfl hg40_9) ?_
                  refine VRunD.off rfl (VWant.not (b := (decide (0 < i))) rfl rfl hg40_9) ?_
                  refine VRunD.off rfl (VWant.not (b := (decide (0 < i))) rfl rfl hg40_9) ?_
                  refine VRunD.off rfl (VWant.not (b := (decide (0 < i))) rfl rfl hg40_9) ?_
                  refine VRunD.off rfl (VWant.not (b := (decide (0 < i))) rfl rfl hg40_9) ?_
                  refine VRunD.off rfl (VWant.not (b := (decide (0 < i))) rfl rfl hg40_9) ?_
                  refine VRunD.free rfl (VWant.on (b := (!(decide (0 ≤ x1.Tick ∧ x1.Tick ≤ 1000)))) rfl rfl hg37_7) rfl (OF.pickF (VEv.tmpB (b := (decide (0 < i))) rfl hg40_9) (VEv.bool false)) ?_
                  refine VRunD.free rfl VWant.always rfl (OF.pickF (VEv.tmpB (b := (!(decide (0 ≤ x1.Tick ∧ x1.Tick ≤ 1000)))) rfl hg37_7) (VEv.tmp (t := (T.bool false)) rfl)) ?_
                  refine VRunD.nil ?_
                  refine vthn.n ?_
                  refine VRun.cond (VEv.tmp (t := (T.bool false)) rfl) (fun hk10 => ?_) (fun hk10 => ?_)
                  · exact absurd (rfl.symm.trans hk10) (by decide)
                  · skip
                    refine VRun.skip ?_
                    refine vinB.n ?_
                    refine vthn.n ?_
                    refine VRun.region ?_
                    refine VRunO.free VWant.always (B.add (n := (((i + 1) : Nat) : Int)) (VEv.tmp (t := (T.int .i64 ((i : Nat) : Int))) rfl) (VEv.int .i64 1) (by first | exact hw _ (List.mem_of_getElem? hx1) | rfl | (rw [wrap64 (by omega)]; done) | (rw [wrap64 (by omega)]; omega) | (rw [wrap64 (by omega)]; push_cast; omega) | omega)) ?_
                    refine VRunO.free VWant.always (OF.move (VEv.tmp (t := (T.int .i64 (((i + 1) : Nat) : Int))) rfl)) ?_
                    refine VRunO.nil ?_
                    refine vthn.n ?_
                    refine ⟨(i + 1 : Nat), ?_, ?_, Wk.mk (fun k => k) ?_ ?_ ?_⟩
                    · refine allNext hI0 fhc1 ⟨x1, hx1, by omega, by omega, by assumption, by omega, fun h0 => ?_⟩
                      first | (exact absurd h0 (by omega)) | (refine ⟨x2, hx2, ?_⟩; omega)
                    · first | omega | (simp only []; omega) | (show _ < _; omega) | (simp; omega)
                    · exact (ball_cons ⟨rfl, rfl⟩ (ball_cons ⟨rfl, rfl⟩ (ball_cons ⟨rfl, rfl⟩ (ball_cons ⟨rfl, rfl⟩ (ball_nil)))))
                    · exact (ball_nil)
                    · show List.Nodup ([] : List Nat)
                      decide
      · have fhc1 : ¬ (i < a.length) := of_decide_eq_false hc1
        refine VRun.exit ?_
        refine vthn.e ?_
        refine vthn.e ?_
        refine vinB.e ?_
        refine vthn.n ?_
        refine VRun.seq ?_
        refine VRun.region ?_
        refine VRunO.free VWant.always (OF.assign (VEv.bool true)) ?_
        refine VRunO.nil ?_
        refine vthn.n ?_
        refine VRun.ret ?_
        refine vfin.eq (r' := (T.bool true)) ?_ (vfin.r (VRes.tmp (t := (T.bool true)) rfl VRes.nil) (Give.bool _))
        show (T.bool true) = (T.bool (decide (areCorrections a)))
        refine congrArg T.bool ?_
        first | (symm; rw [decide_eq_false_iff_not]; rintro ⟨h2, _⟩; omega) | (symm; rw [decide_eq_true_eq]; exact ⟨by omega, allEnd hI' fhc1⟩) | (symm; rw [decide_eq_false_iff_not]; rintro ⟨_, h2⟩; obtain ⟨y, hy, h3, h4, h5, h6, h7⟩ := h2 i fhc1; obtain rfl := same_at hx1 hy; first | omega | contradiction | (obtain ⟨z, hz, h9⟩ := h7 (by omega); obtain rfl := same_at hx2 hz; omega) | (simp_all; done))
end Go.Proofs.Ythdnjihmjdbdkaa.AE
