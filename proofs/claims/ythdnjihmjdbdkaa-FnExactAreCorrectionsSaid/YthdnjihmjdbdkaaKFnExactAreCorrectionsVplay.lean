/- Walks of the program's functions over trees. Conditions: as each theorem states. -/
import Derived.Test.YthdnjihmjdbdkaaKFnExactAreCorrectionsVa
namespace Go.Proofs.Ythdnjihmjdbdkaa.AE
open Go Go.RowKit
set_option linter.unusedVariables false
set_option linter.unusedSimpArgs false
set_option maxRecDepth 20000
set_option maxHeartbeats 2000000

noncomputable section
def two (k : Int) : Prop := k = 4 ∨ k = 5
instance (k : Int) : Decidable (two k) := inferInstanceAs (Decidable (_ ∨ _))
def stepOk (l : List D.Step) (j : Nat) : Prop := ∃ x, l[j]? = some x ∧ (1 ≤ x.Kind ∧ x.Kind ≤ 9) ∧ (x.Kind = 1 → isWord x.Word ∧ x.A = 0 ∧ x.B = 0) ∧
  (¬ x.Kind = 1 → x.Word = (⟨#[]⟩ : ByteArray) ∧ (0 ≤ x.A ∧ x.A < (j : Int)) ∧ (two x.Kind → 0 ≤ x.B ∧ x.B < (j : Int)) ∧ (¬ two x.Kind → x.B = 0) ∧ (¬ two x.Kind → ¬ x.Kind = 2 → ∃ y, l[x.A.toNat]? = some y ∧ y.Kind = 1))
instance (l : List D.Step) (j : Nat) : Decidable (stepOk l j) := Classical.propDecidable _
def isPlay (l : List D.Step) : Prop := (1 ≤ l.length ∧ l.length ≤ 9) ∧ ∀ j, j < l.length → stepOk l j
instance (l : List D.Step) : Decidable (isPlay l) := Classical.propDecidable _
def stepP (l : List D.Step) (j : Nat) (x : D.Step) : Prop := (1 ≤ x.Kind ∧ x.Kind ≤ 9) ∧ (x.Kind = 1 → isWord x.Word ∧ x.A = 0 ∧ x.B = 0) ∧
  (¬ x.Kind = 1 → x.Word = (⟨#[]⟩ : ByteArray) ∧ (0 ≤ x.A ∧ x.A < (j : Int)) ∧ (two x.Kind → 0 ≤ x.B ∧ x.B < (j : Int)) ∧ (¬ two x.Kind → x.B = 0) ∧ (¬ two x.Kind → ¬ x.Kind = 2 → ∃ y, l[x.A.toNat]? = some y ∧ y.Kind = 1))
theorem stepOk_iff {l : List D.Step} {j : Nat} {x : D.Step} (hx : l[j]? = some x) : stepOk l j ↔ stepP l j x := by
  constructor
  · rintro ⟨y, hy, h⟩
    obtain rfl := same_at hx hy
    exact h
  · intro h
    exact ⟨x, hx, h⟩
theorem exAt {l : List D.Step} {k : Nat} {y : D.Step} (hy : l[k]? = some y) : (∃ z, l[k]? = some z ∧ z.Kind = 1) ↔ y.Kind = 1 := by
  constructor
  · rintro ⟨z, hz, h⟩
    obtain rfl := same_at hy hz
    exact h
  · intro h
    exact ⟨y, hy, h⟩
theorem l15_a {l : List D.Step} {j : Nat} {x y : D.Step} (hx : l[j]? = some x) (hy : l[x.A.toNat]? = some y) (h1 : 1 ≤ x.Kind ∧ x.Kind ≤ 9) (h2 : ¬ x.Kind = 1) (h3 : x.Word = (⟨#[]⟩ : ByteArray)) (h4 : 0 ≤ x.A ∧ x.A < (j : Int)) (h5 : x.B = 0) (h6 : ¬ two x.Kind) (h7 : ¬ x.Kind = 2) : decide (y.Kind = 1) = decide (stepOk l j) := by
  refine decN ?_
  rw [stepOk_iff hx]
  simp only [stepP, exAt hy]
  exact ⟨fun h => ⟨h1, fun hk => absurd hk h2, fun _ => ⟨h3, h4, fun h => absurd h h6, fun _ => h5, fun _ _ => h⟩⟩, fun h => (h.2.2 h2).2.2.2.2 h6 h7⟩
theorem l15_b {l : List D.Step} {j : Nat} {x : D.Step} (hx : l[j]? = some x) (h1 : 1 ≤ x.Kind ∧ x.Kind ≤ 9) (h2 : x.Kind = 1) (h3 : isWord x.Word) (h4 : x.A = 0) : decide (x.B = 0) = decide (stepOk l j) := by
  refine decN ?_
  rw [stepOk_iff hx]
  simp only [stepP]
  exact ⟨fun h => ⟨h1, fun _ => ⟨h3, h4, h⟩, fun hk => absurd h2 hk⟩, fun h => (h.2.1 h2).2.2⟩
theorem not_isWord0 : ¬ isWord (⟨#[]⟩ : ByteArray) := fun h => absurd h.1.1 (by decide)
end
theorem W_impl_needsWord (n : Nat) (a : Int)  : Pure (acall Try.prog (n + 1)) 156 [(T.int .i64 a)] (T.bool (decide (a = 3 ∨ 6 ≤ a))) := by
  refine Pure.intro (rs := [ResultVar.tmp 2]) Try.func156 rfl rfl rfl (E0 := [(0, (T.int .i64 a))]) rfl ?_
  have hlim : lim = 1099511627776 := rfl
  have hmx : mx = 1048576 := rfl
  have hmax : maxLen = 9223372036854775807 := rfl
  refine VRun.seq ?_
  refine VRun.region ?_
  refine VRunO.free VWant.always (OF.assign (VEv.bool false)) ?_
  refine VRunO.nil ?_
  refine vthn.n ?_
  refine VRun.seq ?_
  refine VRun.region ?_
  refine VRunO.free VWant.always (OF.move (VEv.tmp (t := (T.int .i64 a)) rfl)) ?_
  refine VRunO.free VWant.always (B.eql (c := (decide (a = 3))) (VEv.tmp (t := (T.int .i64 a)) rfl) (VEv.int .i64 3) rfl) ?_
  refine VRunO.free VWant.always (OF.move (VEv.tmp (t := (T.bool (decide (a = 3)))) rfl)) ?_
  refine bool_way (decide (a = 3)) (fun hg5_1 => ?_) (fun hg5_1 => ?_)
  · have fhg5_1 : a = 3 := of_decide_eq_true hg5_1
    refine VRunO.off (VWant.not (b := (decide (a = 3))) rfl rfl hg5_1) ?_
    refine VRunO.off (VWant.not (b := (decide (a = 3))) rfl rfl hg5_1) ?_
    refine VRunO.free VWant.always (OF.pickT (VEv.tmpB (b := (decide (a = 3))) rfl hg5_1) (VEv.bool true)) ?_
    refine VRunO.free VWant.always (OF.assign (VEv.tmp (t := (T.bool true)) rfl)) ?_
    refine VRunO.nil ?_
    refine vthn.n ?_
    refine VRun.ret ?_
    refine vfin.eq (r' := (T.bool true)) ?_ (vfin.r (VRes.tmp (t := (T.bool true)) rfl VRes.nil) (Give.bool _))
    show (T.bool true) = (T.bool (decide (a = 3 ∨ 6 ≤ a)))
    refine congrArg T.bool ?_
    first | rfl | (exact decN (by omega)) | (symm; rw [decide_eq_false_iff_not]; omega) | (symm; rw [decide_eq_true_eq]; omega) | (simp_all; done)
  · have fhg5_1 : ¬ (a = 3) := of_decide_eq_false hg5_1
    refine VRunO.free (VWant.on (b := (decide (a = 3))) rfl rfl hg5_1) (OF.move (VEv.tmp (t := (T.int .i64 a)) rfl)) ?_
    refine VRunO.free (VWant.on (b := (decide (a = 3))) rfl rfl hg5_1) (B.geq (c := (decide (6 ≤ a))) (VEv.tmp (t := (T.int .i64 a)) rfl) (VEv.int .i64 6) rfl) ?_
    refine VRunO.free VWant.always (OF.pickF (VEv.tmpB (b := (decide (a = 3))) rfl hg5_1) (VEv.tmp (t := (T.bool (decide (6 ≤ a)))) rfl)) ?_
    refine VRunO.free VWant.always (OF.assign (VEv.tmp (t := (T.bool (decide (6 ≤ a)))) rfl)) ?_
    refine VRunO.nil ?_
    refine vthn.n ?_
    refine VRun.ret ?_
    refine vfin.eq (r' := (T.bool (decide (6 ≤ a)))) ?_ (vfin.r (VRes.tmp (t := (T.bool (decide (6 ≤ a)))) rfl VRes.nil) (Give.bool _))
    show (T.bool (decide (6 ≤ a))) = (T.bool (decide (a = 3 ∨ 6 ≤ a)))
    refine congrArg T.bool ?_
    first | rfl | (exact decN (by omega)) | (symm; rw [decide_eq_false_iff_not]; omega) | (symm; rw [decide_eq_true_eq]; omega) | (simp_all; done)
theorem W_impl_isPair (n : Nat) (a : Int)  : Pure (acall Try.prog (n + 1)) 157 [(T.int .i64 a)] (T.bool (decide (a = 4 ∨ a = 5))) := by
  refine Pure.intro (rs := [ResultVar.tmp 2]) Try.func157 rfl rfl rfl (E0 := [(0, (T.int .i64 a))]) rfl ?_
  have hlim : lim = 1099511627776 := rfl
  have hmx : mx = 1048576 := rfl
  have hmax : maxLen = 9223372036854775807 := rfl
  refine VRun.seq ?_
  refine VRun.region ?_
  refine VRunO.free VWant.always (OF.assign (VEv.bool false)) ?_
  refine VRunO.nil ?_
  refine vthn.n ?_
  refine VRun.seq ?_
  refine VRun.region ?_
  refine VRunO.free VWant.always (OF.move (VEv.tmp (t := (T.int .i64 a)) rfl)) ?_
  refine VRunO.free VWant.always (B.eql (c := (decide (a = 4))) (VEv.tmp (t := (T.int .i64 a)) rfl) (VEv.int .i64 4) rfl) ?_
  refine VRunO.free VWant.always (OF.move (VEv.tmp (t := (T.bool (decide (a = 4)))) rfl)) ?_
  refine bool_way (decide (a = 4)) (fun hg5_1 => ?_) (fun hg5_1 => ?_)
  · have fhg5_1 : a = 4 := of_decide_eq_true hg5_1
    refine VRunO.off (VWant.not (b := (decide (a = 4))) rfl rfl hg5_1) ?_
    refine VRunO.off (VWant.not (b := (decide (a = 4))) rfl rfl hg5_1) ?_
    refine VRunO.free VWant.always (OF.pickT (VEv.tmpB (b := (decide (a = 4))) rfl hg5_1) (VEv.bool true)) ?_
    refine VRunO.free VWant.always (OF.assign (VEv.tmp (t := (T.bool true)) rfl)) ?_
    refine VRunO.nil ?_
    refine vthn.n ?_
    refine VRun.ret ?_
    refine vfin.eq (r' := (T.bool true)) ?_ (vfin.r (VRes.tmp (t := (T.bool true)) rfl VRes.nil) (Give.bool _))
    show (T.bool true) = (T.bool (decide (a = 4 ∨ a = 5)))
    refine congrArg T.bool ?_
    first | rfl | (exact decN (by omega)) | (symm; rw [decide_eq_false_iff_not]; omega) | (symm; rw [decide_eq_true_eq]; omega) | (simp_all; done)
  · have fhg5_1 : ¬ (a = 4) := of_decide_eq_false hg5_1
    refine VRunO.free (VWant.on (b := (decide (a = 4))) rfl rfl hg5_1) (OF.move (VEv.tmp (t := (T.int .i64 a)) rfl)) ?_
    refine VRunO.free (VWant.on (b := (decide (a = 4))) rfl rfl hg5_1) (B.eql (c := (decide (a = 5))) (VEv.tmp (t := (T.int .i64 a)) rfl) (VEv.int .i64 5) rfl) ?_
    refine VRunO.free VWant.always (OF.pickF (VEv.tmpB (b := (decide (a = 4))) rfl hg5_1) (VEv.tmp (t := (T.bool (decide (a = 5)))) rfl)) ?_
    refine VRunO.free VWant.always (OF.assign (VEv.tmp (t := (T.bool (decide (a = 5)))) rfl)) ?_
    refine VRunO.nil ?_
    refine vthn.n ?_
    refine VRun.ret ?_
    refine vfin.eq (r' := (T.bool (decide (a = 5)))) ?_ (vfin.r (VRes.tmp (t := (T.bool (decide (a = 5)))) rfl VRes.nil) (Give.bool _))
    show (T.bool (decide (a = 5))) = (T.bool (decide (a = 4 ∨ a = 5)))
    refine congrArg T.bool ?_
    first | rfl | (exact decN (by omega)) | (symm; rw [decide_eq_false_iff_not]; omega) | (symm; rw [decide_eq_true_eq]; omega) | (simp_all; done)
theorem W_spec_l15Ok (n : Nat) (a : List D.Step) (i : Nat) (hz : zL zStep a ≤ mx) (hi : i < a.length) : Pure (acall Try.prog (n + 3)) 154 [(T.sl false 4 (a.map (eStep false))), (T.int .i64 ((i : Nat) : Int))] (T.bool (decide (stepOk a i))) := by
  refine Pure.intro (rs := [ResultVar.tmp 4]) Try.func154 rfl rfl rfl (E0 := [(0, (T.sl false 4 (a.map (eStep false)))), (1, (T.int .i64 ((i : Nat) : Int)))]) rfl ?_
  have hlim : lim = 1099511627776 := rfl
  have hmx : mx = 1048576 := rfl
  have hmax : maxLen = 9223372036854775807 := rfl
  have ha := zL_len (z := zStep) a
  have hw : ∀ x ∈ a, x.Word.size ≤ maxLen := fun x hx => by have h1 := zL_mem (z := zStep) hx; simp only [zStep] at h1; omega
  refine VRun.seq ?_
  refine VRun.region ?_
  refine VRunO.free VWant.always (OF.assign (VEv.bool false)) ?_
  refine VRunO.nil ?_
  refine vthn.n ?_
  refine VRun.seq ?_
  refine VRun.region ?_
  refine VRunO.free VWant.always (OF.move (VEv.tmp (t := (T.sl false 4 (a.map (eStep false)))) rfl)) ?_
  refine VRunO.free VWant.always (OF.move (VEv.tmp (t := (T.int .i64 ((i : Nat) : Int))) rfl)) ?_
  obtain ⟨x1, hx1⟩ : ∃ x, a[i]? = some x := ⟨_, List.getElem?_eq_getElem (by first | exact hw _ (List.mem_of_getElem? hx1) | omega | (simp only [List.length_map]; omega) | (simp only [List.length_map, List.length_append, List.length_cons, List.length_nil, List.length_replicate, List.length_set, List.length_drop, List.length_take, lim] at *; omega))⟩
  refine VRunO.free VWant.always (OF.indexAddrR (row := (eStep false x1)) (i := i) (VEv.tmp (t := (T.sl false 4 (a.map (eStep false)))) rfl) (VEv.tmp (t := (T.int .i64 ((i : Nat) : Int))) rfl) rfl (map_at _ hx1) Try.underlying113 sz166 if166) ?_
  refine VRunO.look VWant.always (OL.loadRn (us := (eStep false x1)) (VEv.tmp (t := (T.rp [(T.int .i64 x1.Kind), (T.str x1.Word), (T.int .i64 x1.A), (T.int .i64 x1.B)])) rfl) st166 sz166 (Nat.le_of_ble_eq_true rfl) rfl) ?_
  refine VRunO.make VWant.always (B.alloc (t := (T.agg [(T.int .i64 0), (T.str ByteArray.empty), (T.int .i64 0), (T.int .i64 0)])) (ts := [(T.int .i64 0), (T.str ByteArray.empty), (T.int .i64 0), (T.int .i64 0)]) zo166 zc166 nofun (fun _ => .agg _ _ rfl (RLof (RL.cons (.int _ _) (RL.cons (.str _) (RL.cons (.int _ _) (RL.cons (.int _ _) (RL.nil _))))))) rfl) ?_
  refine VRunO.chain VWant.always (B.storeO (us := [(T.int .i64 x1.Kind), (T.str x1.Word), (T.int .i64 x1.A), (T.int .i64 x1.B)]) (ws := [(T.int .i64 x1.Kind), (T.str x1.Word), (T.int .i64 x1.A), (T.int .i64 x1.B)]) (VEv.tmp (t := (T.op 0 0)) rfl) (VEv.tmp (t := (T.agg (eStep false x1))) rfl) nofun rfl rfl (Nat.le_of_ble_eq_true rfl) if166 sz166 (ball_cons rfl (ball_cons rfl (ball_cons rfl (ball_cons rfl (ball_nil))))) rfl) ?_
  refine VRunO.nil ?_
  refine vthn.n ?_
  refine VRun.seq ?_
  refine VRun.seq ?_
  refine VRun.draw (B := [[], [0], [0, 1], [1, 0, 2], [2, 0, 1, 3], [3, 1, 0, 2, 4], [4, 2, 0, 1, 3, 5], [5, 3, 1, 0, 2, 4, 6], [3, 1, 0, 2, 4], [4, 2, 0, 1, 3, 8], [8, 3, 1, 0, 2, 4, 9], [9, 8, 10, 6, 4, 2, 0, 1, 3, 5, 7], [7, 5, 6, 10, 8, 9, 11, 3, 1, 0, 2, 4], [4, 2, 0, 1, 3, 11, 9, 8, 10, 6, 5, 7, 12], [12, 7, 5, 6, 10, 8, 9, 11, 3, 1, 0, 2, 4, 13], [13, 4, 2, 0, 1, 3, 11, 9, 8, 10, 6, 5, 7, 12, 14], [14, 12, 7, 5, 6, 10, 8, 9, 11, 3, 1, 0, 2, 4, 13, 15], [15, 13, 4, 2, 0, 1, 3, 11, 9, 8, 10, 6, 5, 7, 12, 14, 16], [16, 14, 12, 7, 5, 6, 10, 8, 9, 11, 3, 1, 0, 2, 4, 13, 15, 17], [17, 15, 13, 4, 2, 0, 1, 3, 11, 9, 8, 10, 6, 5, 7, 12, 14, 16, 18], [18, 16, 14, 12, 7, 5, 6, 10, 8, 9, 11, 3, 1, 0, 2, 4, 13, 15, 17, 19], [19, 18, 20, 16, 14, 12, 7, 5, 6, 10, 8, 9, 11, 3, 1, 0, 2, 4, 13, 15, 17], [17, 15, 14, 16, 20, 18, 19, 21, 12, 7, 5, 6, 10, 8, 9, 11, 3, 1, 0, 2, 4, 13]]) (by kernel_rfl) (by kernel_rfl) ?_
  refine VRunD.free rfl VWant.always rfl (OF.fieldAddrO (VEv.tmp (t := (T.op 0 0)) rfl) fa166_0) ?_
  refine VRunD.look rfl VWant.always rfl (OL.loadO1 (t := (T.int .i64 x1.Kind)) (VEv.tmp (t := (T.op 0 0)) rfl) rfl rfl st3) ?_
  refine VRunD.quiet (bi := [0, 1]) rfl VWant.always rfl rfl rfl (ball_nil) (OC.callF (us := [(T.int .i64 x1.Kind), (T.int .i64 1), (T.int .i64 9)]) (r := (T.bool (decide (1 ≤ x1.Kind ∧ x1.Kind ≤ 9)))) (r' := (T.bool (decide (1 ≤ x1.Kind ∧ x1.Kind ≤ 9)))) (objs := []) rfl (VEvs.cons (VEv.tmp (t := (T.int .i64 x1.Kind)) rfl) (VEvs.cons (VEv.int .i64 1) (VEvs.cons (VEv.int .i64 9) VEvs.nil))) (LendL.cons (Lend.pl rfl) (LendL.cons (Lend.pl rfl) (LendL.cons (Lend.pl rfl) (LendL.nil)))) (W_spec_l1In (n + 1) x1.Kind 1 9 ) rfl) ?_
  refine VRunD.free rfl VWant.always rfl (B.not (c := (!(decide (1 ≤ x1.Kind ∧ x1.Kind ≤ 9)))) (VEv.tmp (t := (T.bool (decide (1 ≤ x1.Kind ∧ x1.Kind ≤ 9)))) rfl) rfl) ?_
  refine VRunD.free rfl VWant.always rfl (OF.move (VEv.tmp (t := (T.bool (!(decide (1 ≤ x1.Kind ∧ x1.Kind ≤ 9))))) rfl)) ?_
  refine bool_way (!(decide (1 ≤ x1.Kind ∧ x1.Kind ≤ 9))) (fun hg15_1 => ?_) (fun hg15_1 => ?_)
  · have fhg15_1 : ¬ (1 ≤ x1.Kind ∧ x1.Kind ≤ 9) := ndT hg15_1
    refine VRunD.off rfl (VWant.not (b := (!(decide (1 ≤ x1.Kind ∧ x1.Kind ≤ 9)))) rfl rfl hg15_1) ?_
    refine VRunD.off rfl (VWant.not (b := (!(decide (1 ≤ x1.Kind ∧ x1.Kind ≤ 9)))) rfl rfl hg15_1) ?_
    refine VRunD.off rfl (VWant.not (b := (!(decide (1 ≤ x1.Kind ∧ x1.Kind ≤ 9)))) rfl rfl hg15_1) ?_
    refine VRunD.off rfl (VWant.not (b := (!(decide (1 ≤ x1.Kind ∧ x1.Kind ≤ 9)))) rfl rfl hg15_1) ?_
    refine VRunD.off rfl (VWant.not (b := (!(decide (1 ≤ x1.Kind ∧ x1.Kind ≤ 9)))) rfl rfl hg15_1) ?_
    refine VRunD.off rfl (VWant.not (b := (!(decide (1 ≤ x1.Kind ∧ x1.Kind ≤ 9)))) rfl rfl hg15_1) ?_
    refine VRunD.off rfl (VWant.not (b := (!(decide (1 ≤ x1.Kind ∧ x1.Kind ≤ 9)))) rfl rfl hg15_1) ?_
    refine VRunD.free rfl VWant.always rfl (OF.pickT (VEv.tmpB (b := (!(decide (1 ≤ x1.Kind ∧ x1.Kind ≤ 9)))) rfl hg15_1) (VEv.bool true)) ?_
    refine VRunD.free rfl VWant.always rfl (OF.move (VEv.tmp (t := (T.bool true)) rfl)) ?_
    refine VRunD.off rfl (VWant.not (b := true) rfl rfl rfl) ?_
    refine VRunD.off rfl (VWant.not (b := true) rfl rfl rfl) ?_
    refine VRunD.off rfl (VWant.not (b := true) rfl rfl rfl) ?_
    refine VRunD.off rfl (VWant.not (b := true) rfl rfl rfl) ?_
    refine VRunD.off rfl (VWant.undef rfl rfl) ?_
    refine VRunD.off rfl (VWant.undef rfl rfl) ?_
    refine VRunD.off rfl (VWant.undef rfl rfl) ?_
    refine VRunD.off rfl (VWant.not (b := true) rfl rfl rfl) ?_
    refine VRunD.free rfl VWant.always rfl (OF.pickT (VEv.tmp (t := (T.bool true)) rfl) (VEv.bool true)) ?_
    refine VRunD.nil ?_
    refine vthn.n ?_
    refine VRun.cond (VEv.tmp (t := (T.bool true)) rfl) (fun hk2 => ?_) (fun hk2 => ?_)
    · skip
      refine VRun.seq ?_
      refine VRun.region ?_
      refine VRunO.free VWant.always (OF.assign (VEv.bool false)) ?_
      refine VRunO.nil ?_
      refine vthn.n ?_
      refine VRun.ret ?_
      refine vthn.r ?_
      refine vfin.eq (r' := (T.bool false)) ?_ (vfin.r (VRes.tmp (t := (T.bool false)) rfl VRes.nil) (Give.bool _))
      show (T.bool false) = (T.bool (decide (stepOk a i)))
      refine congrArg T.bool ?_
      first | (exfalso; omega) | (refine l15_a hx1 hx2 ?_ ?_ ?_ ?_ ?_ ?_ ?_ <;> first | assumption | omega | (simp only [two]; omega)) | (refine l15_b hx1 ?_ ?_ ?_ ?_ <;> first | assumption | omega | (simp_all; done)) | (symm; rw [decide_eq_false_iff_not, stepOk_iff hx1]; rintro ⟨h1, h2, h3⟩; by_cases hk : x1.Kind = 1 <;> simp only [hk, two] at * <;> first | omega | (simp_all [not_isWord0]; done) | (simp_all [not_isWord0]; omega)) | (symm; rw [decide_eq_true_eq, stepOk_iff hx1]; refine ⟨by omega, fun hk => ?_, fun hk => ?_⟩ <;> first | (exfalso; omega) | (simp_all [two, not_isWord0]; done) | (simp_all [two, not_isWord0]; omega))
    · exact absurd (rfl.symm.trans hk2) (by decide)
  · have fhg15_1 : 1 ≤ x1.Kind ∧ x1.Kind ≤ 9 := ndF hg15_1
    refine VRunD.free rfl (VWant.on (b := (!(decide (1 ≤ x1.Kind ∧ x1.Kind ≤ 9)))) rfl rfl hg15_1) rfl (OF.fieldAddrO (VEv.tmp (t := (T.op 0 0)) rfl) fa166_0) ?_
    refine VRunD.look rfl (VWant.on (b := (!(decide (1 ≤ x1.Kind ∧ x1.Kind ≤ 9)))) rfl rfl hg15_1) rfl (OL.loadO1 (t := (T.int .i64 x1.Kind)) (VEv.tmp (t := (T.op 0 0)) rfl) rfl rfl st3) ?_
    refine VRunD.free rfl (VWant.on (b := (!(decide (1 ≤ x1.Kind ∧ x1.Kind ≤ 9)))) rfl rfl hg15_1) rfl (B.eql (c := (decide (x1.Kind = 1))) (VEv.tmp (t := (T.int .i64 x1.Kind)) rfl) (VEv.int .i64 1) rfl) ?_
    refine VRunD.free rfl (VWant.on (b := (!(decide (1 ≤ x1.Kind ∧ x1.Kind ≤ 9)))) rfl rfl hg15_1) rfl (OF.fieldAddrO (VEv.tmp (t := (T.op 0 0)) rfl) fa166_1) ?_
    refine VRunD.look rfl (VWant.on (b := (!(decide (1 ≤ x1.Kind ∧ x1.Kind ≤ 9)))) rfl rfl hg15_1) rfl (OL.loadO1 (t := (T.str x1.Word)) (VEv.tmp (t := (T.op 0 1)) rfl) rfl rfl st9) ?_
    refine VRunD.quiet (bi := [8, 3, 1, 0, 2, 4, 9]) rfl (VWant.on (b := (!(decide (1 ≤ x1.Kind ∧ x1.Kind ≤ 9)))) rfl rfl hg15_1) rfl rfl rfl (ball_nil) (OC.callF (us := [(T.str x1.Word)]) (r := (T.bool (decide (isWord x1.Word)))) (r' := (T.bool (decide (isWord x1.Word)))) (objs := []) rfl (VEvs.cons (VEv.tmp (t := (T.str x1.Word)) rfl) VEvs.nil) (LendL.cons (Lend.pl rfl) (LendL.nil)) (W_spec_IsWord (n + 0) x1.Word (by first | exact hw _ (List.mem_of_getElem? hx1) | assumption | omega | (simp only [List.length_map]; omega) | (simp only [List.length_map, List.length_append, List.length_cons, List.length_nil, List.length_replicate, List.length_set, List.length_drop, List.length_take, lim] at *; omega))) rfl) ?_
    refine VRunD.free rfl (VWant.on (b := (!(decide (1 ≤ x1.Kind ∧ x1.Kind ≤ 9)))) rfl rfl hg15_1) rfl (B.bneq Try.underlying4 (c := (!((decide (x1.Kind = 1)) == (decide (isWord x1.Word))))) (VEv.tmp (t := (T.bool (decide (x1.Kind = 1)))) rfl) (VEv.tmp (t := (T.bool (decide (isWord x1.Word)))) rfl) rfl) ?_
    refine VRunD.free rfl VWant.always rfl (OF.pickF (VEv.tmpB (b := (!(decide (1 ≤ x1.Kind ∧ x1.Kind ≤ 9)))) rfl hg15_1) (VEv.tmp (t := (T.bool (!((decide (x1.Kind = 1)) == (decide (isWord x1.Word)))))) rfl)) ?_
    refine VRunD.free rfl VWant.always rfl (OF.move (VEv.tmp (t := (T.bool (!((decide (x1.Kind = 1)) == (decide (isWord x1.Word)))))) rfl)) ?_
    refine bool_way (!((decide (x1.Kind = 1)) == (decide (isWord x1.Word)))) (fun hg24_3 => ?_) (fun hg24_3 => ?_)
    · have fhg24_3 : (!((decide (x1.Kind = 1)) == (decide (isWord x1.Word)))) = true := hg24_3
      refine VRunD.off rfl (VWant.not (b := (!((decide (x1.Kind = 1)) == (decide (isWord x1.Word))))) rfl rfl hg24_3) ?_
      refine VRunD.off rfl (VWant.not (b := (!((decide (x1.Kind = 1)) == (decide (isWord x1.Word))))) rfl rfl hg24_3) ?_
      refine VRunD.off rfl (VWant.not (b := (!((decide (x1.Kind = 1)) == (decide (isWord x1.Word))))) rfl rfl hg24_3) ?_
      refine VRunD.off rfl (VWant.not (b := (!((decide (x1.Kind = 1)) == (decide (isWord x1.Word))))) rfl rfl hg24_3) ?_
      refine VRunD.off rfl (VWant.undef rfl rfl) ?_
      refine VRunD.off rfl (VWant.undef rfl rfl) ?_
      refine VRunD.off rfl (VWant.undef rfl rfl) ?_
      refine VRunD.off rfl (VWant.not (b := (!((decide (x1.Kind = 1)) == (decide (isWord x1.Word))))) rfl rfl hg24_3) ?_
      refine VRunD.free rfl VWant.always rfl (OF.pickT (VEv.tmpB (b := (!((decide (x1.Kind = 1)) == (decide (isWord x1.Word))))) rfl hg24_3) (VEv.bool true)) ?_
      refine VRunD.nil ?_
      refine vthn.n ?_
      refine VRun.cond (VEv.tmp (t := (T.bool true)) rfl) (fun hk4 => ?_) (fun hk4 => ?_)
      · skip
        refine VRun.seq ?_
        refine VRun.region ?_
        refine VRunO.free VWant.always (OF.assign (VEv.bool false)) ?_
        refine VRunO.nil ?_
        refine vthn.n ?_
        refine VRun.ret ?_
        refine vthn.r ?_
        refine vfin.eq (r' := (T.bool false)) ?_ (vfin.r (VRes.tmp (t := (T.bool false)) rfl VRes.nil) (Give.bool _))
        show (T.bool false) = (T.bool (decide (stepOk a i)))
        refine congrArg T.bool ?_
        first | (exfalso; omega) | (refine l15_a hx1 hx2 ?_ ?_ ?_ ?_ ?_ ?_ ?_ <;> first | assumption | omega | (simp only [two]; omega)) | (refine l15_b hx1 ?_ ?_ ?_ ?_ <;> first | assumption | omega | (simp_all; done)) | (symm; rw [decide_eq_false_iff_not, stepOk_iff hx1]; rintro ⟨h1, h2, h3⟩; by_cases hk : x1.Kind = 1 <;> simp only [hk, two] at * <;> first | omega | (simp_all [not_isWord0]; done) | (simp_all [not_isWord0]; omega)) | (symm; rw [decide_eq_true_eq, stepOk_iff hx1]; refine ⟨by omega, fun hk => ?_, fun hk => ?_⟩ <;> first | (exfalso; omega) | (simp_all [two, not_isWord0]; done) | (simp_all [two, not_isWord0]; omega))
      · exact absurd (rfl.symm.trans hk4) (by decide)
    · have fhg24_3 : (!((decide (x1.Kind = 1)) == (decide (isWord x1.Word)))) = false := hg24_3
      refine VRunD.free rfl (VWant.on (b := (!((decide (x1.Kind = 1)) == (decide (isWord x1.Word))))) rfl rfl hg24_3) rfl (OF.fieldAddrO (VEv.tmp (t := (T.op 0 0)) rfl) fa166_0) ?_
      refine VRunD.look rfl (VWant.on (b := (!((decide (x1.Kind = 1)) == (decide (isWord x1.Word))))) rfl rfl hg24_3) rfl (OL.loadO1 (t := (T.int .i64 x1.Kind)) (VEv.tmp (t := (T.op 0 0)) rfl) rfl rfl st3) ?_
      refine VRunD.free rfl (VWant.on (b := (!((decide (x1.Kind = 1)) == (decide (isWord x1.Word))))) rfl rfl hg24_3) rfl (B.neq (c := (!(decide (x1.Kind = 1)))) (VEv.tmp (t := (T.int .i64 x1.Kind)) rfl) (VEv.int .i64 1) rfl) ?_
      refine VRunD.free rfl (VWant.on (b := (!((decide (x1.Kind = 1)) == (decide (isWord x1.Word))))) rfl rfl hg24_3) rfl (OF.move (VEv.tmp (t := (T.bool (!(decide (x1.Kind = 1))))) rfl)) ?_
      refine bool_way (!(decide (x1.Kind = 1))) (fun hg28_5 => ?_) (fun hg28_5 => ?_)
      · have fhg28_5 : ¬ (x1.Kind = 1) := ndT hg28_5
        refine VRunD.free rfl (VWant.on (b := (!(decide (x1.Kind = 1)))) rfl rfl hg28_5) rfl (OF.fieldAddrO (VEv.tmp (t := (T.op 0 0)) rfl) fa166_1) ?_
        refine VRunD.look rfl (VWant.on (b := (!(decide (x1.Kind = 1)))) rfl rfl hg28_5) rfl (OL.loadO1 (t := (T.str x1.Word)) (VEv.tmp (t := (T.op 0 1)) rfl) rfl rfl st9) ?_
        refine VRunD.free rfl (VWant.on (b := (!(decide (x1.Kind = 1)))) rfl rfl hg28_5) rfl (B.sneq (c := (!(decide (x1.Word = (⟨#[]⟩ : ByteArray))))) (VEv.tmp (t := (T.str x1.Word)) rfl) (VEv.str (⟨#[]⟩ : ByteArray)) rfl) ?_
        refine VRunD.free rfl (VWant.on (b := (!((decide (x1.Kind = 1)) == (decide (isWord x1.Word))))) rfl rfl hg24_3) rfl (OF.pickT (VEv.tmpB (b := (!(decide (x1.Kind = 1)))) rfl hg28_5) (VEv.tmp (t := (T.bool (!(decide (x1.Word = (⟨#[]⟩ : ByteArray)))))) rfl)) ?_
        refine VRunD.free rfl VWant.always rfl (OF.pickF (VEv.tmpB (b := (!((decide (x1.Kind = 1)) == (decide (isWord x1.Word))))) rfl hg24_3) (VEv.tmp (t := (T.bool (!(decide (x1.Word = (⟨#[]⟩ : ByteArray)))))) rfl)) ?_
        refine VRunD.nil ?_
        refine vthn.n ?_
        refine VRun.cond (VEv.tmp (t := (T.bool (!(decide (x1.Word = (⟨#[]⟩ : ByteArray)))))) rfl) (fun hc0 => ?_) (fun hc0 => ?_)
        · have fhc0 : ¬ (x1.Word = (⟨#[]⟩ : ByteArray)) := ndT hc0
          refine VRun.seq ?_
          refine VRun.region ?_
          refine VRunO.free VWant.always (OF.assign (VEv.bool false)) ?_
          refine VRunO.nil ?_
          refine vthn.n ?_
          refine VRun.ret ?_
          refine vthn.r ?_
          refine vfin.eq (r' := (T.bool false)) ?_ (vfin.r (VRes.tmp (t := (T.bool false)) rfl VRes.nil) (Give.bool _))
          show (T.bool false) = (T.bool (decide (stepOk a i)))
          refine congrArg T.bool ?_
          first | (exfalso; omega) | (refine l15_a hx1 hx2 ?_ ?_ ?_ ?_ ?_ ?_ ?_ <;> first | assumption | omega | (simp only [two]; omega)) | (refine l15_b hx1 ?_ ?_ ?_ ?_ <;> first | assumption | omega | (simp_all; done)) | (symm; rw [decide_eq_false_iff_not, stepOk_iff hx1]; rintro ⟨h1, h2, h3⟩; by_cases hk : x1.Kind = 1 <;> simp only [hk, two] at * <;> first | omega | (simp_all [not_isWord0]; done) | (simp_all [not_isWord0]; omega)) | (symm; rw [decide_eq_true_eq, stepOk_iff hx1]; refine ⟨by omega, fun hk => ?_, fun hk => ?_⟩ <;> first | (exfalso; omega) | (simp_all [two, not_isWord0]; done) | (simp_all [two, not_isWord0]; omega))
        · have fhc0 : x1.Word = (⟨#[]⟩ : ByteArray) := ndF hc0
          refine VRun.skip ?_
          refine vthn.n ?_
          refine VRun.seq ?_
          refine VRun.region ?_
          refine VRunO.free VWant.always (OF.fieldAddrO (VEv.tmp (t := (T.op 0 0)) rfl) fa166_0) ?_
          refine VRunO.look VWant.always (OL.loadO1 (t := (T.int .i64 x1.Kind)) (VEv.tmp (t := (T.op 0 0)) rfl) rfl rfl st3) ?_
          refine VRunO.free VWant.always (B.eql (c := (decide (x1.Kind = 4))) (VEv.tmp (t := (T.int .i64 x1.Kind)) rfl) (VEv.int .i64 4) rfl) ?_
          refine VRunO.free VWant.always (OF.move (VEv.tmp (t := (T.bool (decide (x1.Kind = 4)))) rfl)) ?_
          refine bool_way (decide (x1.Kind = 4)) (fun hg37_6 => ?_) (fun hg37_6 => ?_)
          · have fhg37_6 : x1.Kind = 4 := of_decide_eq_true hg37_6
            refine VRunO.off (VWant.not (b := (decide (x1.Kind = 4))) rfl rfl hg37_6) ?_
            refine VRunO.off (VWant.not (b := (decide (x1.Kind = 4))) rfl rfl hg37_6) ?_
            refine VRunO.off (VWant.not (b := (decide (x1.Kind = 4))) rfl rfl hg37_6) ?_
            refine VRunO.free VWant.always (OF.pickT (VEv.tmpB (b := (decide (x1.Kind = 4))) rfl hg37_6) (VEv.bool true)) ?_
            refine VRunO.free VWant.always (OF.assign (VEv.tmp (t := (T.bool true)) rfl)) ?_
            refine VRunO.nil ?_
            refine vthn.n ?_
            refine VRun.seq ?_
            refine VRun.seq ?_
            refine VRun.region ?_
            refine VRunO.free VWant.always (OF.fieldAddrO (VEv.tmp (t := (T.op 0 0)) rfl) fa166_0) ?_
            refine VRunO.look VWant.always (OL.loadO1 (t := (T.int .i64 x1.Kind)) (VEv.tmp (t := (T.op 0 0)) rfl) rfl rfl st3) ?_
            refine VRunO.free VWant.always (B.eql (c := (decide (x1.Kind = 1))) (VEv.tmp (t := (T.int .i64 x1.Kind)) rfl) (VEv.int .i64 1) rfl) ?_
            refine VRunO.nil ?_
            refine vthn.n ?_
            refine VRun.cond (VEv.tmp (t := (T.bool (decide (x1.Kind = 1)))) rfl) (fun hk7 => ?_) (fun hk7 => ?_)
            · exact absurd ((notT hg28_5).symm.trans hk7) (by decide)
            · skip
              refine VRun.skip ?_
              refine vthn.n ?_
              refine VRun.seq ?_
              refine VRun.seq ?_
              refine VRun.region ?_
              refine VRunO.free VWant.always (OF.fieldAddrO (VEv.tmp (t := (T.op 0 0)) rfl) fa166_2) ?_
              refine VRunO.look VWant.always (OL.loadO1 (t := (T.int .i64 x1.A)) (VEv.tmp (t := (T.op 0 2)) rfl) rfl rfl st3) ?_
              refine VRunO.free VWant.always (OF.move (VEv.tmp (t := (T.int .i64 ((i : Nat) : Int))) rfl)) ?_
              refine VRunO.free VWant.always (B.sub (n := (((i : Nat) : Int) - 1)) (VEv.tmp (t := (T.int .i64 ((i : Nat) : Int))) rfl) (VEv.int .i64 1) (by first | exact hw _ (List.mem_of_getElem? hx1) | rfl | (rw [wrap64 (by omega)]; done) | (rw [wrap64 (by omega)]; omega) | (rw [wrap64 (by omega)]; push_cast; omega) | omega)) ?_
              refine VRunO.chain VWant.always (OC.callF (us := [(T.int .i64 x1.A), (T.int .i64 0), (T.int .i64 (((i : Nat) : Int) - 1))]) (r := (T.bool (decide (0 ≤ x1.A ∧ x1.A ≤ (((i : Nat) : Int) - 1))))) (r' := (T.bool (decide (0 ≤ x1.A ∧ x1.A ≤ (((i : Nat) : Int) - 1))))) (objs := []) rfl (VEvs.cons (VEv.tmp (t := (T.int .i64 x1.A)) rfl) (VEvs.cons (VEv.int .i64 0) (VEvs.cons (VEv.tmp (t := (T.int .i64 (((i : Nat) : Int) - 1))) rfl) VEvs.nil))) (LendL.cons (Lend.pl rfl) (LendL.cons (Lend.pl rfl) (LendL.cons (Lend.pl rfl) (LendL.nil)))) (W_spec_l1In (n + 1) x1.A 0 (((i : Nat) : Int) - 1) ) rfl) ?_
              refine VRunO.free VWant.always (B.not (c := (!(decide (0 ≤ x1.A ∧ x1.A ≤ (((i : Nat) : Int) - 1))))) (VEv.tmp (t := (T.bool (decide (0 ≤ x1.A ∧ x1.A ≤ (((i : Nat) : Int) - 1))))) rfl) rfl) ?_
              refine VRunO.free VWant.always (OF.move (VEv.tmp (t := (T.bool (!(decide (0 ≤ x1.A ∧ x1.A ≤ (((i : Nat) : Int) - 1)))))) rfl)) ?_
              refine bool_way (!(decide (0 ≤ x1.A ∧ x1.A ≤ (((i : Nat) : Int) - 1)))) (fun hg59_8 => ?_) (fun hg59_8 => ?_)
              · have fhg59_8 : ¬ (0 ≤ x1.A ∧ x1.A ≤ (((i : Nat) : Int) - 1)) := ndT hg59_8
                refine VRunO.off (VWant.not (b := (!(decide (0 ≤ x1.A ∧ x1.A ≤ (((i : Nat) : Int) - 1))))) rfl rfl hg59_8) ?_
                refine VRunO.off (VWant.not (b := (!(decide (0 ≤ x1.A ∧ x1.A ≤ (((i : Nat) : Int) - 1))))) rfl rfl hg59_8) ?_
                refine VRunO.off (VWant.undef rfl rfl) ?_
                refine VRunO.off (VWant.undef rfl rfl) ?_
                refine VRunO.off (VWant.undef rfl rfl) ?_
                refine VRunO.off (VWant.undef rfl rfl) ?_
                refine VRunO.off (VWant.undef rfl rfl) ?_
                refine VRunO.off (VWant.undef rfl rfl) ?_
                refine VRunO.off (VWant.not (b := (!(decide (0 ≤ x1.A ∧ x1.A ≤ (((i : Nat) : Int) - 1))))) rfl rfl hg59_8) ?_
                refine VRunO.free VWant.always (OF.pickT (VEv.tmpB (b := (!(decide (0 ≤ x1.A ∧ x1.A ≤ (((i : Nat) : Int) - 1))))) rfl hg59_8) (VEv.bool true)) ?_
                refine VRunO.free VWant.always (OF.move (VEv.tmp (t := (T.bool true)) rfl)) ?_
                refine VRunO.off (VWant.not (b := true) rfl rfl rfl) ?_
                refine VRunO.off (VWant.not (b := true) rfl rfl rfl) ?_
                refine VRunO.off (VWant.not (b := true) rfl rfl rfl) ?_
                refine VRunO.off (VWant.undef rfl rfl) ?_
                refine VRunO.off (VWant.undef rfl rfl) ?_
                refine VRunO.off (VWant.undef rfl rfl) ?_
                refine VRunO.off (VWant.not (b := true) rfl rfl rfl) ?_
                refine VRunO.free VWant.always (OF.pickT (VEv.tmp (t := (T.bool true)) rfl) (VEv.bool true)) ?_
                refine VRunO.nil ?_
                refine vthn.n ?_
                refine VRun.cond (VEv.tmp (t := (T.bool true)) rfl) (fun hk9 => ?_) (fun hk9 => ?_)
                · skip
                  refine VRun.seq ?_
                  refine VRun.region ?_
                  refine VRunO.free VWant.always (OF.assign (VEv.bool false)) ?_
                  refine VRunO.nil ?_
                  refine vthn.n ?_
                  refine VRun.ret ?_
                  refine vthn.r ?_
                  refine vfin.eq (r' := (T.bool false)) ?_ (vfin.r (VRes.tmp (t := (T.bool false)) rfl VRes.nil) (Give.bool _))
                  show (T.bool false) = (T.bool (decide (stepOk a i)))
                  refine congrArg T.bool ?_
                  first | (exfalso; omega) | (refine l15_a hx1 hx2 ?_ ?_ ?_ ?_ ?_ ?_ ?_ <;> first | assumption | omega | (simp only [two]; omega)) | (refine l15_b hx1 ?_ ?_ ?_ ?_ <;> first | assumption | omega | (simp_all; done)) | (symm; rw [decide_eq_false_iff_not, stepOk_iff hx1]; rintro ⟨h1, h2, h3⟩; by_cases hk : x1.Kind = 1 <;> simp only [hk, two] at * <;> first | omega | (simp_all [not_isWord0]; done) | (simp_all [not_isWord0]; omega)) | (symm; rw [decide_eq_true_eq, stepOk_iff hx1]; refine ⟨by omega, fun hk => ?_, fun hk => ?_⟩ <;> first | (exfalso; omega) | (simp_all [two, not_isWord0]; done) | (simp_all [two, not_isWord0]; omega))
                · exact absurd (rfl.symm.trans hk9) (by decide)
              · have fhg59_8 : 0 ≤ x1.A ∧ x1.A ≤ (((i : Nat) : Int) - 1) := ndF hg59_8
                refine VRunO.free (VWant.on (b := (!(decide (0 ≤ x1.A ∧ x1.A ≤ (((i : Nat) : Int) - 1))))) rfl rfl hg59_8) (OF.move (VEv.tmp (t := (T.bool true)) rfl)) ?_
                refine VRunO.free (VWant.on (b := (!(decide (0 ≤ x1.A ∧ x1.A ≤ (((i : Nat) : Int) - 1))))) rfl rfl hg59_8) (OF.move (VEv.tmp (t := (T.bool true)) rfl)) ?_
                refine VRunO.free (VWant.on (b := true) rfl rfl rfl) (OF.fieldAddrO (VEv.tmp (t := (T.op 0 0)) rfl) fa166_3) ?_
                refine VRunO.look (VWant.on (b := true) rfl rfl rfl) (OL.loadO1 (t := (T.int .i64 x1.B)) (VEv.tmp (t := (T.op 0 3)) rfl) rfl rfl st3) ?_
                refine VRunO.free (VWant.on (b := true) rfl rfl rfl) (OF.move (VEv.tmp (t := (T.int .i64 ((i : Nat) : Int))) rfl)) ?_
                refine VRunO.free (VWant.on (b := true) rfl rfl rfl) (B.sub (n := (((i : Nat) : Int) - 1)) (VEv.tmp (t := (T.int .i64 ((i : Nat) : Int))) rfl) (VEv.int .i64 1) (by first | exact hw _ (List.mem_of_getElem? hx1) | rfl | (rw [wrap64 (by omega)]; done) | (rw [wrap64 (by omega)]; omega) | (rw [wrap64 (by omega)]; push_cast; omega) | omega)) ?_
                refine VRunO.chain (VWant.on (b := true) rfl rfl rfl) (OC.callF (us := [(T.int .i64 x1.B), (T.int .i64 0), (T.int .i64 (((i : Nat) : Int) - 1))]) (r := (T.bool (decide (0 ≤ x1.B ∧ x1.B ≤ (((i : Nat) : Int) - 1))))) (r' := (T.bool (decide (0 ≤ x1.B ∧ x1.B ≤ (((i : Nat) : Int) - 1))))) (objs := []) rfl (VEvs.cons (VEv.tmp (t := (T.int .i64 x1.B)) rfl) (VEvs.cons (VEv.int .i64 0) (VEvs.cons (VEv.tmp (t := (T.int .i64 (((i : Nat) : Int) - 1))) rfl) VEvs.nil))) (LendL.cons (Lend.pl rfl) (LendL.cons (Lend.pl rfl) (LendL.cons (Lend.pl rfl) (LendL.nil)))) (W_spec_l1In (n + 1) x1.B 0 (((i : Nat) : Int) - 1) ) rfl) ?_
                refine VRunO.free (VWant.on (b := true) rfl rfl rfl) (B.not (c := (!(decide (0 ≤ x1.B ∧ x1.B ≤ (((i : Nat) : Int) - 1))))) (VEv.tmp (t := (T.bool (decide (0 ≤ x1.B ∧ x1.B ≤ (((i : Nat) : Int) - 1))))) rfl) rfl) ?_
                refine VRunO.free (VWant.on (b := (!(decide (0 ≤ x1.A ∧ x1.A ≤ (((i : Nat) : Int) - 1))))) rfl rfl hg59_8) (OF.pickT (VEv.tmp (t := (T.bool true)) rfl) (VEv.tmp (t := (T.bool (!(decide (0 ≤ x1.B ∧ x1.B ≤ (((i : Nat) : Int) - 1)))))) rfl)) ?_
                refine VRunO.free VWant.always (OF.pickF (VEv.tmpB (b := (!(decide (0 ≤ x1.A ∧ x1.A ≤ (((i : Nat) : Int) - 1))))) rfl hg59_8) (VEv.tmp (t := (T.bool (!(decide (0 ≤ x1.B ∧ x1.B ≤ (((i : Nat) : Int) - 1)))))) rfl)) ?_
                refine VRunO.free VWant.always (OF.move (VEv.tmp (t := (T.bool (!(decide (0 ≤ x1.B ∧ x1.B ≤ (((i : Nat) : Int) - 1)))))) rfl)) ?_
                refine bool_way (!(decide (0 ≤ x1.B ∧ x1.B ≤ (((i : Nat) : Int) - 1)))) (fun hg70_10 => ?_) (fun hg70_10 => ?_)
                · have fhg70_10 : ¬ (0 ≤ x1.B ∧ x1.B ≤ (((i : Nat) : Int) - 1)) := ndT hg70_10
                  refine VRunO.off (VWant.not (b := (!(decide (0 ≤ x1.B ∧ x1.B ≤ (((i : Nat) : Int) - 1))))) rfl rfl hg70_10) ?_
                  refine VRunO.off (VWant.not (b := (!(decide (0 ≤ x1.B ∧ x1.B ≤ (((i : Nat) : Int) - 1))))) rfl rfl hg70_10) ?_
                  refine VRunO.off (VWant.not (b := (!(decide (0 ≤ x1.B ∧ x1.B ≤ (((i : Nat) : Int) - 1))))) rfl rfl hg70_10) ?_
                  refine VRunO.off (VWant.undef rfl rfl) ?_
                  refine VRunO.off (VWant.undef rfl rfl) ?_
                  refine VRunO.off (VWant.undef rfl rfl) ?_
                  refine VRunO.off (VWant.not (b := (!(decide (0 ≤ x1.B ∧ x1.B ≤ (((i : Nat) : Int) - 1))))) rfl rfl hg70_10) ?_
                  refine VRunO.free VWant.always (OF.pickT (VEv.tmpB (b := (!(decide (0 ≤ x1.B ∧ x1.B ≤ (((i : Nat) : Int) - 1))))) rfl hg70_10) (VEv.bool true)) ?_
                  refine VRunO.nil ?_
                  refine vthn.n ?_
                  refine VRun.cond (VEv.tmp (t := (T.bool true)) rfl) (fun hk11 => ?_) (fun hk11 => ?_)
                  · skip
                    refine VRun.seq ?_
                    refine VRun.region ?_
                    refine VRunO.free VWant.always (OF.assign (VEv.bool false)) ?_
                    refine VRunO.nil ?_
                    refine vthn.n ?_
                    refine VRun.ret ?_
                    refine vthn.r ?_
                    refine vfin.eq (r' := (T.bool false)) ?_ (vfin.r (VRes.tmp (t := (T.bool false)) rfl VRes.nil) (Give.bool _))
                    show (T.bool false) = (T.bool (decide (stepOk a i)))
                    refine congrArg T.bool ?_
                    first | (exfalso; omega) | (refine l15_a hx1 hx2 ?_ ?_ ?_ ?_ ?_ ?_ ?_ <;> first | assumption | omega | (simp only [two]; omega)) | (refine l15_b hx1 ?_ ?_ ?_ ?_ <;> first | assumption | omega | (simp_all; done)) | (symm; rw [decide_eq_false_iff_not, stepOk_iff hx1]; rintro ⟨h1, h2, h3⟩; by_cases hk : x1.Kind = 1 <;> simp only [hk, two] at * <;> first | omega | (simp_all [not_isWord0]; done) | (simp_all [not_isWord0]; omega)) | (symm; rw [decide_eq_true_eq, stepOk_iff hx1]; refine ⟨by omega, fun hk => ?_, fun hk => ?_⟩ <;> first | (exfalso; omega) | (simp_all [two, not_isWord0]; done) | (simp_all [two, not_isWord0]; omega))
                  · exact absurd (rfl.symm.trans hk11) (by decide)
                · have fhg70_10 : 0 ≤ x1.B ∧ x1.B ≤ (((i : Nat) : Int) - 1) := ndF hg70_10
                  refine VRunO.free (VWant.on (b := (!(decide (0 ≤ x1.B ∧ x1.B ≤ (((i : Nat) : Int) - 1))))) rfl rfl hg70_10) (OF.move (VEv.tmp (t := (T.bool true)) rfl)) ?_
                  refine VRunO.free (VWant.on (b := (!(decide (0 ≤ x1.B ∧ x1.B ≤ (((i : Nat) : Int) - 1))))) rfl rfl hg70_10) (B.not (c := false) (VEv.tmp (t := (T.bool true)) rfl) rfl) ?_
                  refine VRunO.free (VWant.on (b := (!(decide (0 ≤ x1.B ∧ x1.B ≤ (((i : Nat) : Int) - 1))))) rfl rfl hg70_10) (OF.move (VEv.tmp (t := (T.bool false)) rfl)) ?_
                  refine VRunO.off (VWant.not (b := false) rfl rfl rfl) ?_
                  refine VRunO.off (VWant.not (b := false) rfl rfl rfl) ?_
                  refine VRunO.off (VWant.not (b := false) rfl rfl rfl) ?_
                  refine VRunO.free (VWant.on (b := (!(decide (0 ≤ x1.B ∧ x1.B ≤ (((i : Nat) : Int) - 1))))) rfl rfl hg70_10) (OF.pickF (VEv.tmp (t := (T.bool false)) rfl) (VEv.bool false)) ?_
                  refine VRunO.free VWant.always (OF.pickF (VEv.tmpB (b := (!(decide (0 ≤ x1.B ∧ x1.B ≤ (((i : Nat) : Int) - 1))))) rfl hg70_10) (VEv.tmp (t := (T.bool false)) rfl)) ?_
                  refine VRunO.nil ?_
                  refine vthn.n ?_
                  refine VRun.cond (VEv.tmp (t := (T.bool false)) rfl) (fun hk12 => ?_) (fun hk12 => ?_)
                  · exact absurd (rfl.symm.trans hk12) (by decide)
                  · skip
                    refine VRun.skip ?_
                    refine vthn.n ?_
                    refine VRun.seq ?_
                    refine VRun.region ?_
                    refine VRunO.free VWant.always (OF.move (VEv.tmp (t := (T.bool true)) rfl)) ?_
                    refine VRunO.free VWant.always (OF.move (VEv.tmp (t := (T.bool true)) rfl)) ?_
                    refine VRunO.off (VWant.not (b := true) rfl rfl rfl) ?_
                    refine VRunO.off (VWant.not (b := true) rfl rfl rfl) ?_
                    refine VRunO.off (VWant.not (b := true) rfl rfl rfl) ?_
                    refine VRunO.free VWant.always (OF.pickT (VEv.tmp (t := (T.bool true)) rfl) (VEv.bool true)) ?_
                    refine VRunO.free VWant.always (OF.move (VEv.tmp (t := (T.bool true)) rfl)) ?_
                    refine VRunO.off (VWant.not (b := true) rfl rfl rfl) ?_
                    refine VRunO.off (VWant.not (b := true) rfl rfl rfl) ?_
                    refine VRunO.off (VWant.not (b := true) rfl rfl rfl) ?_
                    refine VRunO.off (VWant.not (b := true) rfl rfl rfl) ?_
                    refine VRunO.off (VWant.not (b := true) rfl rfl rfl) ?_
                    refine VRunO.off (VWant.not (b := true) rfl rfl rfl) ?_
                    refine VRunO.off (VWant.not (b := true) rfl rfl rfl) ?_
                    refine VRunO.free VWant.always (OF.pickT (VEv.tmp (t := (T.bool true)) rfl) (VEv.bool true)) ?_
                    refine VRunO.free VWant.always (OF.assign (VEv.tmp (t := (T.bool true)) rfl)) ?_
                    refine VRunO.nil ?_
                    refine vthn.n ?_
                    refine VRun.ret ?_
                    refine vfin.eq (r' := (T.bool true)) ?_ (vfin.r (VRes.tmp (t := (T.bool true)) rfl VRes.nil) (Give.bool _))
                    show (T.bool true) = (T.bool (decide (stepOk a i)))
                    refine congrArg T.bool ?_
                    first | (exfalso; omega) | (refine l15_a hx1 hx2 ?_ ?_ ?_ ?_ ?_ ?_ ?_ <;> first | assumption | omega | (simp only [two]; omega)) | (refine l15_b hx1 ?_ ?_ ?_ ?_ <;> first | assumption | omega | (simp_all; done)) | (symm; rw [decide_eq_false_iff_not, stepOk_iff hx1]; rintro ⟨h1, h2, h3⟩; by_cases hk : x1.Kind = 1 <;> simp only [hk, two] at * <;> first | omega | (simp_all [not_isWord0]; done) | (simp_all [not_isWord0]; omega)) | (symm; rw [decide_eq_true_eq, stepOk_iff hx1]; refine ⟨by omega, fun hk => ?_, fun hk => ?_⟩ <;> first | (exfalso; omega) | (simp_all [two, not_isWord0]; done) | (simp_all [two, not_isWord0]; omega))
          · have fhg37_6 : ¬ (x1.Kind = 4) := of_decide_eq_false hg37_6
            refine VRunO.free (VWant.on (b := (decide (x1.Kind = 4))) rfl rfl hg37_6) (OF.fieldAddrO (VEv.tmp (t := (T.op 0 0)) rfl) fa166_0) ?_
            refine VRunO.look (VWant.on (b := (decide (x1.Kind = 4))) rfl rfl hg37_6) (OL.loadO1 (t := (T.int .i64 x1.Kind)) (VEv.tmp (t := (T.op 0 0)) rfl) rfl rfl st3) ?_
            refine VRunO.free (VWant.on (b := (decide (x1.Kind = 4))) rfl rfl hg37_6) (B.eql (c := (decide (x1.Kind = 5))) (VEv.tmp (t := (T.int .i64 x1.Kind)) rfl) (VEv.int .i64 5) rfl) ?_
            refine VRunO.free VWant.always (OF.pickF (VEv.tmpB (b := (decide (x1.Kind = 4))) rfl hg37_6) (VEv.tmp (t := (T.bool (decide (x1.Kind = 5)))) rfl)) ?_
            refine VRunO.free VWant.always (OF.assign (VEv.tmp (t := (T.bool (decide (x1.Kind = 5)))) rfl)) ?_
            refine VRunO.nil ?_
            refine vthn.n ?_
            refine VRun.seq ?_
            refine VRun.seq ?_
            refine VRun.region ?_
            refine VRunO.free VWant.always (OF.fieldAddrO (VEv.tmp (t := (T.op 0 0)) rfl) fa166_0) ?_
            refine VRunO.look VWant.always (OL.loadO1 (t := (T.int .i64 x1.Kind)) (VEv.tmp (t := (T.op 0 0)) rfl) rfl rfl st3) ?_
            refine VRunO.free VWant.always (B.eql (c := (decide (x1.Kind = 1))) (VEv.tmp (t := (T.int .i64 x1.Kind)) rfl) (VEv.int .i64 1) rfl) ?_
            refine VRunO.nil ?_
            refine vthn.n ?_
            refine VRun.cond (VEv.tmp (t := (T.bool (decide (x1.Kind = 1)))) rfl) (fun hk13 => ?_) (fun hk13 => ?_)
            · exact absurd ((notT hg28_5).symm.trans hk13) (by decide)
            · skip
              refine VRun.skip ?_
              refine vthn.n ?_
              refine VRun.seq ?_
              refine VRun.seq ?_
              refine VRun.region ?_
              refine VRunO.free VWant.always (OF.fieldAddrO (VEv.tmp (t := (T.op 0 0)) rfl) fa166_2) ?_
              refine VRunO.look VWant.always (OL.loadO1 (t := (T.int .i64 x1.A)) (VEv.tmp (t := (T.op 0 2)) rfl) rfl rfl st3) ?_
              refine VRunO.free VWant.always (OF.move (VEv.tmp (t := (T.int .i64 ((i : Nat) : Int))) rfl)) ?_
              refine VRunO.free VWant.always (B.sub (n := (((i : Nat) : Int) - 1)) (VEv.tmp (t := (T.int .i64 ((i : Nat) : Int))) rfl) (VEv.int .i64 1) (by first | exact hw _ (List.mem_of_getElem? hx1) | rfl | (rw [wrap64 (by omega)]; done) | (rw [wrap64 (by omega)]; omega) | (rw [wrap64 (by omega)]; push_cast; omega) | omega)) ?_
              refine VRunO.chain VWant.always (OC.callF (us := [(T.int .i64 x1.A), (T.int .i64 0), (T.int .i64 (((i : Nat) : Int) - 1))]) (r := (T.bool (decide (0 ≤ x1.A ∧ x1.A ≤ (((i : Nat) : Int) - 1))))) (r' := (T.bool (decide (0 ≤ x1.A ∧ x1.A ≤ (((i : Nat) : Int) - 1))))) (objs := []) rfl (VEvs.cons (VEv.tmp (t := (T.int .i64 x1.A)) rfl) (VEvs.cons (VEv.int .i64 0) (VEvs.cons (VEv.tmp (t := (T.int .i64 (((i : Nat) : Int) - 1))) rfl) VEvs.nil))) (LendL.cons (Lend.pl rfl) (LendL.cons (Lend.pl rfl) (LendL.cons (Lend.pl rfl) (LendL.nil)))) (W_spec_l1In (n + 1) x1.A 0 (((i : Nat) : Int) - 1) ) rfl) ?_
              refine VRunO.free VWant.always (B.not (c := (!(decide (0 ≤ x1.A ∧ x1.A ≤ (((i : Nat) : Int) - 1))))) (VEv.tmp (t := (T.bool (decide (0 ≤ x1.A ∧ x1.A ≤ (((i : Nat) : Int) - 1))))) rfl) rfl) ?_
              refine VRunO.free VWant.always (OF.move (VEv.tmp (t := (T.bool (!(decide (0 ≤ x1.A ∧ x1.A ≤ (((i : Nat) : Int) - 1)))))) rfl)) ?_
              refine bool_way (!(decide (0 ≤ x1.A ∧ x1.A ≤ (((i : Nat) : Int) - 1)))) (fun hg59_14 => ?_) (fun hg59_14 => ?_)
              · have fhg59_14 : ¬ (0 ≤ x1.A ∧ x1.A ≤ (((i : Nat) : Int) - 1)) := ndT hg59_14
                refine VRunO.off (VWant.not (b := (!(decide (0 ≤ x1.A ∧ x1.A ≤ (((i : Nat) : Int) - 1))))) rfl rfl hg59_14) ?_
                refine VRunO.off (VWant.not (b := (!(decide (0 ≤ x1.A ∧ x1.A ≤ (((i : Nat) : Int) - 1))))) rfl rfl hg59_14) ?_
                refine VRunO.off (VWant.undef rfl rfl) ?_
                refine VRunO.off (VWant.undef rfl rfl) ?_
                refine VRunO.off (VWant.undef rfl rfl) ?_
                refine VRunO.off (VWant.undef rfl rfl) ?_
                refine VRunO.off (VWant.undef rfl rfl) ?_
                refine VRunO.off (VWant.undef rfl rfl) ?_
                refine VRunO.off (VWant.not (b := (!(decide (0 ≤ x1.A ∧ x1.A ≤ (((i : Nat) : Int) - 1))))) rfl rfl hg59_14) ?_
                refine VRunO.free VWant.always (OF.pickT (VEv.tmpB (b := (!(decide (0 ≤ x1.A ∧ x1.A ≤ (((i : Nat) : Int) - 1))))) rfl hg59_14) (VEv.bool true)) ?_
                refine VRunO.free VWant.always (OF.move (VEv.tmp (t := (T.bool true)) rfl)) ?_
                refine VRunO.off (VWant.not (b := true) rfl rfl rfl) ?_
                refine VRunO.off (VWant.not (b := true) rfl rfl rfl) ?_
                refine VRunO.off (VWant.not (b := true) rfl rfl rfl) ?_
                refine VRunO.off (VWant.undef rfl rfl) ?_
                refine VRunO.off (VWant.undef rfl rfl) ?_
                refine VRunO.off (VWant.undef rfl rfl) ?_
                refine VRunO.off (VWant.not (b := true) rfl rfl rfl) ?_
                refine VRunO.free VWant.always (OF.pickT (VEv.tmp (t := (T.bool true)) rfl) (VEv.bool true)) ?_
                refine VRunO.nil ?_
                refine vthn.n ?_
                refine VRun.cond (VEv.tmp (t := (T.bool true)) rfl) (fun hk15 => ?_) (fun hk15 => ?_)
                · skip
                  refine VRun.seq ?_
                  refine VRun.region ?_
                  refine VRunO.free VWant.always (OF.assign (VEv.bool false)) ?_
                  refine VRunO.nil ?_
                  refine vthn.n ?_
                  refine VRun.ret ?_
                  refine vthn.r ?_
                  refine vfin.eq (r' := (T.bool false)) ?_ (vfin.r (VRes.tmp (t := (T.bool false)) rfl VRes.nil) (Give.bool _))
                  show (T.bool false) = (T.bool (decide (stepOk a i)))
                  refine congrArg T.bool ?_
                  first | (exfalso; omega) | (refine l15_a hx1 hx2 ?_ ?_ ?_ ?_ ?_ ?_ ?_ <;> first | assumption | omega | (simp only [two]; omega)) | (refine l15_b hx1 ?_ ?_ ?_ ?_ <;> first | assumption | omega | (simp_all; done)) | (symm; rw [decide_eq_false_iff_not, stepOk_iff hx1]; rintro ⟨h1, h2, h3⟩; by_cases hk : x1.Kind = 1 <;> simp only [hk, two] at * <;> first | omega | (simp_all [not_isWord0]; done) | (simp_all [not_isWord0]; omega)) | (symm; rw [decide_eq_true_eq, stepOk_iff hx1]; refine ⟨by omega, fun hk => ?_, fun hk => ?_⟩ <;> first | (exfalso; omega) | (simp_all [two, not_isWord0]; done) | (simp_all [two, not_isWord0]; omega))
                · exact absurd (rfl.symm.trans hk15) (by decide)
              · have fhg59_14 : 0 ≤ x1.A ∧ x1.A ≤ (((i : Nat) : Int) - 1) := ndF hg59_14
                refine VRunO.free (VWant.on (b := (!(decide (0 ≤ x1.A ∧ x1.A ≤ (((i : Nat) : Int) - 1))))) rfl rfl hg59_14) (OF.move (VEv.tmp (t := (T.bool (decide (x1.Kind = 5)))) rfl)) ?_
                refine VRunO.free (VWant.on (b := (!(decide (0 ≤ x1.A ∧ x1.A ≤ (((i : Nat) : Int) - 1))))) rfl rfl hg59_14) (OF.move (VEv.tmp (t := (T.bool (decide (x1.Kind = 5)))) rfl)) ?_
                refine bool_way (decide (x1.Kind = 5)) (fun hg61_16 => ?_) (fun hg61_16 => ?_)
                · have fhg61_16 : x1.Kind = 5 := of_decide_eq_true hg61_16
                  refine VRunO.free (VWant.on (b := (decide (x1.Kind = 5))) rfl rfl hg61_16) (OF.fieldAddrO (VEv.tmp (t := (T.op 0 0)) rfl) fa166_3) ?_
                  refine VRunO.look (VWant.on (b := (decide (x1.Kind = 5))) rfl rfl hg61_16) (OL.loadO1 (t := (T.int .i64 x1.B)) (VEv.tmp (t := (T.op 0 3)) rfl) rfl rfl st3) ?_
                  refine VRunO.free (VWant.on (b := (decide (x1.Kind = 5))) rfl rfl hg61_16) (OF.move (VEv.tmp (t := (T.int .i64 ((i : Nat) : Int))) rfl)) ?_
                  refine VRunO.free (VWant.on (b := (decide (x1.Kind = 5))) rfl rfl hg61_16) (B.sub (n := (((i : Nat) : Int) - 1)) (VEv.tmp (t := (T.int .i64 ((i : Nat) : Int))) rfl) (VEv.int .i64 1) (by first | exact hw _ (List.mem_of_getElem? hx1) | rfl | (rw [wrap64 (by omega)]; done) | (rw [wrap64 (by omega)]; omega) | (rw [wrap64 (by omega)]; push_cast; omega) | omega)) ?_
                  refine VRunO.chain (VWant.on (b := (decide (x1.Kind = 5))) rfl rfl hg61_16) (OC.callF (us := [(T.int .i64 x1.B), (T.int .i64 0), (T.int .i64 (((i : Nat) : Int) - 1))]) (r := (T.bool (decide (0 ≤ x1.B ∧ x1.B ≤ (((i : Nat) : Int) - 1))))) (r' := (T.bool (decide (0 ≤ x1.B ∧ x1.B ≤ (((i : Nat) : Int) - 1))))) (objs := []) rfl (VEvs.cons (VEv.tmp (t := (T.int .i64 x1.B)) rfl) (VEvs.cons (VEv.int .i64 0) (VEvs.cons (VEv.tmp (t := (T.int .i64 (((i : Nat) : Int) - 1))) rfl) VEvs.nil))) (LendL.cons (Lend.pl rfl) (LendL.cons (Lend.pl rfl) (LendL.cons (Lend.pl rfl) (LendL.nil)))) (W_spec_l1In (n + 1) x1.B 0 (((i : Nat) : Int) - 1) ) rfl) ?_
                  refine VRunO.free (VWant.on (b := (decide (x1.Kind = 5))) rfl rfl hg61_16) (B.not (c := (!(decide (0 ≤ x1.B ∧ x1.B ≤ (((i : Nat) : Int) - 1))))) (VEv.tmp (t := (T.bool (decide (0 ≤ x1.B ∧ x1.B ≤ (((i : Nat) : Int) - 1))))) rfl) rfl) ?_
                  refine VRunO.free (VWant.on (b := (!(decide (0 ≤ x1.A ∧ x1.A ≤ (((i : Nat) : Int) - 1))))) rfl rfl hg59_14) (OF.pickT (VEv.tmpB (b := (decide (x1.Kind = 5))) rfl hg61_16) (VEv.tmp (t := (T.bool (!(decide (0 ≤ x1.B ∧ x1.B ≤ (((i : Nat) : Int) - 1)))))) rfl)) ?_
                  refine VRunO.free VWant.always (OF.pickF (VEv.tmpB (b := (!(decide (0 ≤ x1.A ∧ x1.A ≤ (((i : Nat) : Int) - 1))))) rfl hg59_14) (VEv.tmp (t := (T.bool (!(decide (0 ≤ x1.B ∧ x1.B ≤ (((i : Nat) : Int) - 1)))))) rfl)) ?_
                  refine VRunO.free VWant.always (OF.move (VEv.tmp (t := (T.bool (!(decide (0 ≤ x1.B ∧ x1.B ≤ (((i : Nat) : Int) - 1)))))) rfl)) ?_
                  refine bool_way (!(decide (0 ≤ x1.B ∧ x1.B ≤ (((i : Nat) : Int) - 1)))) (fun hg70_17 => ?_) (fun hg70_17 => ?_)
                  · have fhg70_17 : ¬ (0 ≤ x1.B ∧ x1.B ≤ (((i : Nat) : Int) - 1)) := ndT hg70_17
                    refine VRunO.off (VWant.not (b := (!(decide (0 ≤ x1.B ∧ x1.B ≤ (((i : Nat) : Int) - 1))))) rfl rfl hg70_17) ?_
                    refine VRunO.off (VWant.not (b := (!(decide (0 ≤ x1.B ∧ x1.B ≤ (((i : Nat) : Int) - 1))))) rfl rfl hg70_17) ?_
                    refine VRunO.off (VWant.not (b := (!(decide (0 ≤ x1.B ∧ x1.B ≤ (((i : Nat) : Int) - 1))))) rfl rfl hg70_17) ?_
                    refine VRunO.off (VWant.undef rfl rfl) ?_
                    refine VRunO.off (VWant.undef rfl rfl) ?_
                    refine VRunO.off (VWant.undef rfl rfl) ?_
                    refine VRunO.off (VWant.not (b := (!(decide (0 ≤ x1.B ∧ x1.B ≤ (((i : Nat) : Int) - 1))))) rfl rfl hg70_17) ?_
                    refine VRunO.free VWant.always (OF.pickT (VEv.tmpB (b := (!(decide (0 ≤ x1.B ∧ x1.B ≤ (((i : Nat) : Int) - 1))))) rfl hg70_17) (VEv.bool true)) ?_
                    refine VRunO.nil ?_
                    refine vthn.n ?_
                    refine VRun.cond (VEv.tmp (t := (T.bool true)) rfl) (fun hk18 => ?_) (fun hk18 => ?_)
                    · skip
                      refine VRun.seq ?_
                      refine VRun.region ?_
                      refine VRunO.free VWant.always (OF.assign (VEv.bool false)) ?_
                      refine VRunO.nil ?_
                      refine vthn.n ?_
                      refine VRun.ret ?_
                      refine vthn.r ?_
                      refine vfin.eq (r' := (T.bool false)) ?_ (vfin.r (VRes.tmp (t := (T.bool false)) rfl VRes.nil) (Give.bool _))
                      show (T.bool false) = (T.bool (decide (stepOk a i)))
                      refine congrArg T.bool ?_
                      first | (exfalso; omega) | (refine l15_a hx1 hx2 ?_ ?_ ?_ ?_ ?_ ?_ ?_ <;> first | assumption | omega | (simp only [two]; omega)) | (refine l15_b hx1 ?_ ?_ ?_ ?_ <;> first | assumption | omega | (simp_all; done)) | (symm; rw [decide_eq_false_iff_not, stepOk_iff hx1]; rintro ⟨h1, h2, h3⟩; by_cases hk : x1.Kind = 1 <;> simp only [hk, two] at * <;> first | omega | (simp_all [not_isWord0]; done) | (simp_all [not_isWord0]; omega)) | (symm; rw [decide_eq_true_eq, stepOk_iff hx1]; refine ⟨by omega, fun hk => ?_, fun hk => ?_⟩ <;> first | (exfalso; omega) | (simp_all [two, not_isWord0]; done) | (simp_all [two, not_isWord0]; omega))
                    · exact absurd (rfl.symm.trans hk18) (by decide)
                  · have fhg70_17 : 0 ≤ x1.B ∧ x1.B ≤ (((i : Nat) : Int) - 1) := ndF hg70_17
                    refine VRunO.free (VWant.on (b := (!(decide (0 ≤ x1.B ∧ x1.B ≤ (((i : Nat) : Int) - 1))))) rfl rfl hg70_17) (OF.move (VEv.tmp (t := (T.bool (decide (x1.Kind = 5)))) rfl)) ?_
                    refine VRunO.free (VWant.on (b := (!(decide (0 ≤ x1.B ∧ x1.B ≤ (((i : Nat) : Int) - 1))))) rfl rfl hg70_17) (B.not (c := (!(decide (x1.Kind = 5)))) (VEv.tmp (t := (T.bool (decide (x1.Kind = 5)))) rfl) rfl) ?_
                    refine VRunO.free (VWant.on (b := (!(decide (0 ≤ x1.B ∧ x1.B ≤ (((i : Nat) : Int) - 1))))) rfl rfl hg70_17) (OF.move (VEv.tmp (t := (T.bool (!(decide (x1.Kind = 5))))) rfl)) ?_
                    refine VRunO.off (VWant.not (b := (!(decide (x1.Kind = 5)))) rfl rfl (nkT hg61_16)) ?_
                    refine VRunO.off (VWant.not (b := (!(decide (x1.Kind = 5)))) rfl rfl (nkT hg61_16)) ?_
                    refine VRunO.off (VWant.not (b := (!(decide (x1.Kind = 5)))) rfl rfl (nkT hg61_16)) ?_
                    refine VRunO.free (VWant.on (b := (!(decide (0 ≤ x1.B ∧ x1.B ≤ (((i : Nat) : Int) - 1))))) rfl rfl hg70_17) (OF.pickF (VEv.tmpB (b := (!(decide (x1.Kind = 5)))) rfl (nkT hg61_16)) (VEv.bool false)) ?_
                    refine VRunO.free VWant.always (OF.pickF (VEv.tmpB (b := (!(decide (0 ≤ x1.B ∧ x1.B ≤ (((i : Nat) : Int) - 1))))) rfl hg70_17) (VEv.tmp (t := (T.bool false)) rfl)) ?_
                    refine VRunO.nil ?_
                    refine vthn.n ?_
                    refine VRun.cond (VEv.tmp (t := (T.bool false)) rfl) (fun hk19 => ?_) (fun hk19 => ?_)
                    · exact absurd (rfl.symm.trans hk19) (by decide)
                    · skip
                      refine VRun.skip ?_
                      refine vthn.n ?_
                      refine VRun.seq ?_
                      refine VRun.region ?_
                      refine VRunO.free VWant.always (OF.move (VEv.tmp (t := (T.bool (decide (x1.Kind = 5)))) rfl)) ?_
                      refine VRunO.free VWant.always (OF.move (VEv.tmp (t := (T.bool (decide (x1.Kind = 5)))) rfl)) ?_
                      refine VRunO.off (VWant.not (b := (decide (x1.Kind = 5))) rfl rfl hg61_16) ?_
                      refine VRunO.off (VWant.not (b := (decide (x1.Kind = 5))) rfl rfl hg61_16) ?_
                      refine VRunO.off (VWant.not (b := (decide (x1.Kind = 5))) rfl rfl hg61_16) ?_
                      refine VRunO.free VWant.always (OF.pickT (VEv.tmpB (b := (decide (x1.Kind = 5))) rfl hg61_16) (VEv.bool true)) ?_
                      refine VRunO.free VWant.always (OF.move (VEv.tmp (t := (T.bool true)) rfl)) ?_
                      refine VRunO.off (VWant.not (b := true) rfl rfl rfl) ?_
                      refine VRunO.off (VWant.not (b := true) rfl rfl rfl) ?_
                      refine VRunO.off (VWant.not (b := true) rfl rfl rfl) ?_
                      refine VRunO.off (VWant.not (b := true) rfl rfl rfl) ?_
                      refine VRunO.off (VWant.not (b := true) rfl rfl rfl) ?_
                      refine VRunO.off (VWant.not (b := true) rfl rfl rfl) ?_
                      refine VRunO.off (VWant.not (b := true) rfl rfl rfl) ?_
                      refine VRunO.free VWant.always (OF.pickT (VEv.tmp (t := (T.bool true)) rfl) (VEv.bool true)) ?_
                      refine VRunO.free VWant.always (OF.assign (VEv.tmp (t := (T.bool true)) rfl)) ?_
                      refine VRunO.nil ?_
                      refine vthn.n ?_
                      refine VRun.ret ?_
                      refine vfin.eq (r' := (T.bool true)) ?_ (vfin.r (VRes.tmp (t := (T.bool true)) rfl VRes.nil) (Give.bool _))
                      show (T.bool true) = (T.bool (decide (stepOk a i)))
                      refine congrArg T.bool ?_
                      first | (exfalso; omega) | (refine l15_a hx1 hx2 ?_ ?_ ?_ ?_ ?_ ?_ ?_ <;> first | assumption | omega | (simp only [two]; omega)) | (refine l15_b hx1 ?_ ?_ ?_ ?_ <;> first | assumption | omega | (simp_all; done)) | (symm; rw [decide_eq_false_iff_not, stepOk_iff hx1]; rintro ⟨h1, h2, h3⟩; by_cases hk : x1.Kind = 1 <;> simp only [hk, two] at * <;> first | omega | (simp_all [not_isWord0]; done) | (simp_all [not_isWord0]; omega)) | (symm; rw [decide_eq_true_eq, stepOk_iff hx1]; refine ⟨by omega, fun hk => ?_, fun hk => ?_⟩ <;> first | (exfalso; omega) | (simp_all [two, not_isWord0]; done) | (simp_all [two, not_isWord0]; omega))
                · have fhg61_16 : ¬ (x1.Kind = 5) := of_decide_eq_false hg61_16
                  refine VRunO.off (VWant.not (b := (decide (x1.Kind = 5))) rfl rfl hg61_16) ?_
                  refine VRunO.off (VWant.not (b := (decide (x1.Kind = 5))) rfl rfl hg61_16) ?_
                  refine VRunO.off (VWant.not (b := (decide (x1.Kind = 5))) rfl rfl hg61_16) ?_
                  refine VRunO.off (VWant.not (b := (decide (x1.Kind = 5))) rfl rfl hg61_16) ?_
                  refine VRunO.off (VWant.not (b := (decide (x1.Kind = 5))) rfl rfl hg61_16) ?_
                  refine VRunO.off (VWant.not (b := (decide (x1.Kind = 5))) rfl rfl hg61_16) ?_
                  refine VRunO.free (VWant.on (b := (!(decide (0 ≤ x1.A ∧ x1.A ≤ (((i : Nat) : Int) - 1))))) rfl rfl hg59_14) (OF.pickF (VEv.tmpB (b := (decide (x1.Kind = 5))) rfl hg61_16) (VEv.bool false)) ?_
                  refine VRunO.free VWant.always (OF.pickF (VEv.tmpB (b := (!(decide (0 ≤ x1.A ∧ x1.A ≤ (((i : Nat) : Int) - 1))))) rfl hg59_14) (VEv.tmp (t := (T.bool false)) rfl)) ?_
                  refine VRunO.free VWant.always (OF.move (VEv.tmp (t := (T.bool false)) rfl)) ?_
                  refine VRunO.free (VWant.on (b := false) rfl rfl rfl) (OF.move (VEv.tmp (t := (T.bool (decide (x1.Kind = 5)))) rfl)) ?_
                  refine VRunO.free (VWant.on (b := false) rfl rfl rfl) (B.not (c := (!(decide (x1.Kind = 5)))) (VEv.tmp (t := (T.bool (decide (x1.Kind = 5)))) rfl) rfl) ?_
                  refine VRunO.free (VWant.on (b := false) rfl rfl rfl) (OF.move (VEv.tmp (t := (T.bool (!(decide (x1.Kind = 5))))) rfl)) ?_
                  refine VRunO.free (VWant.on (b := (!(decide (x1.Kind = 5)))) rfl rfl (nkF hg61_16)) (OF.fieldAddrO (VEv.tmp (t := (T.op 0 0)) rfl) fa166_3) ?_
                  refine VRunO.look (VWant.on (b := (!(decide (x1.Kind = 5)))) rfl rfl (nkF hg61_16)) (OL.loadO1 (t := (T.int .i64 x1.B)) (VEv.tmp (t := (T.op 0 3)) rfl) rfl rfl st3) ?_
                  refine VRunO.free (VWant.on (b := (!(decide (x1.Kind = 5)))) rfl rfl (nkF hg61_16)) (B.neq (c := (!(decide (x1.B = 0)))) (VEv.tmp (t := (T.int .i64 x1.B)) rfl) (VEv.int .i64 0) rfl) ?_
                  refine VRunO.free (VWant.on (b := false) rfl rfl rfl) (OF.pickT (VEv.tmpB (b := (!(decide (x1.Kind = 5)))) rfl (nkF hg61_16)) (VEv.tmp (t := (T.bool (!(decide (x1.B = 0))))) rfl)) ?_
                  refine VRunO.free VWant.always (OF.pickF (VEv.tmp (t := (T.bool false)) rfl) (VEv.tmp (t := (T.bool (!(decide (x1.B = 0))))) rfl)) ?_
                  refine VRunO.nil ?_
                  refine vthn.n ?_
                  refine VRun.cond (VEv.tmp (t := (T.bool (!(decide (x1.B = 0))))) rfl) (fun hc2 => ?_) (fun hc2 => ?_)
                  · have fhc2 : ¬ (x1.B = 0) := ndT hc2
                    refine VRun.seq ?_
                    refine VRun.region ?_
                    refine VRunO.free VWant.always (OF.assign (VEv.bool false)) ?_
                    refine VRunO.nil ?_
                    refine vthn.n ?_
                    refine VRun.ret ?_
                    refine vthn.r ?_
                    refine vfin.eq (r' := (T.bool false)) ?_ (vfin.r (VRes.tmp (t := (T.bool false)) rfl VRes.nil) (Give.bool _))
                    show (T.bool false) = (T.bool (decide (stepOk a i)))
                    refine congrArg T.bool ?_
                    first | (exfalso; omega) | (refine l15_a hx1 hx2 ?_ ?_ ?_ ?_ ?_ ?_ ?_ <;> first | assumption | omega | (simp only [two]; omega)) | (refine l15_b hx1 ?_ ?_ ?_ ?_ <;> first | assumption | omega | (simp_all; done)) | (symm; rw [decide_eq_false_iff_not, stepOk_iff hx1]; rintro ⟨h1, h2, h3⟩; by_cases hk : x1.Kind = 1 <;> simp only [hk, two] at * <;> first | omega | (simp_all [not_isWord0]; done) | (simp_all [not_isWord0]; omega)) | (symm; rw [decide_eq_true_eq, stepOk_iff hx1]; refine ⟨by omega, fun hk => ?_, fun hk => ?_⟩ <;> first | (exfalso; omega) | (simp_all [two, not_isWord0]; done) | (simp_all [two, not_isWord0]; omega))
                  · have fhc2 : x1.B = 0 := ndF hc2
                    refine VRun.skip ?_
                    refine vthn.n ?_
                    refine VRun.seq ?_
                    refine VRun.region ?_
                    refine VRunO.free VWant.always (OF.move (VEv.tmp (t := (T.bool (decide (x1.Kind = 5)))) rfl)) ?_
                    refine VRunO.free VWant.always (OF.move (VEv.tmp (t := (T.bool (decide (x1.Kind = 5)))) rfl)) ?_
                    refine VRunO.free (VWant.on (b := (decide (x1.Kind = 5))) rfl rfl hg61_16) (OF.fieldAddrO (VEv.tmp (t := (T.op 0 0)) rfl) fa166_0) ?_
                    refine VRunO.look (VWant.on (b := (decide (x1.Kind = 5))) rfl rfl hg61_16) (OL.loadO1 (t := (T.int .i64 x1.Kind)) (VEv.tmp (t := (T.op 0 0)) rfl) rfl rfl st3) ?_
                    refine VRunO.free (VWant.on (b := (decide (x1.Kind = 5))) rfl rfl hg61_16) (B.eql (c := (decide (x1.Kind = 2))) (VEv.tmp (t := (T.int .i64 x1.Kind)) rfl) (VEv.int .i64 2) rfl) ?_
                    refine VRunO.free VWant.always (OF.pickF (VEv.tmpB (b := (decide (x1.Kind = 5))) rfl hg61_16) (VEv.tmp (t := (T.bool (decide (x1.Kind = 2)))) rfl)) ?_
                    refine VRunO.free VWant.always (OF.move (VEv.tmp (t := (T.bool (decide (x1.Kind = 2)))) rfl)) ?_
                    refine bool_way (decide (x1.Kind = 2)) (fun hg85_20 => ?_) (fun hg85_20 => ?_)
                    · have fhg85_20 : x1.Kind = 2 := of_decide_eq_true hg85_20
                      refine VRunO.off (VWant.not (b := (decide (x1.Kind = 2))) rfl rfl hg85_20) ?_
                      refine VRunO.off (VWant.not (b := (decide (x1.Kind = 2))) rfl rfl hg85_20) ?_
                      refine VRunO.off (VWant.not (b := (decide (x1.Kind = 2))) rfl rfl hg85_20) ?_
                      refine VRunO.off (VWant.not (b := (decide (x1.Kind = 2))) rfl rfl hg85_20) ?_
                      refine VRunO.off (VWant.not (b := (decide (x1.Kind = 2))) rfl rfl hg85_20) ?_
                      refine VRunO.off (VWant.not (b := (decide (x1.Kind = 2))) rfl rfl hg85_20) ?_
                      refine VRunO.off (VWant.not (b := (decide (x1.Kind = 2))) rfl rfl hg85_20) ?_
                      refine VRunO.free VWant.always (OF.pickT (VEv.tmpB (b := (decide (x1.Kind = 2))) rfl hg85_20) (VEv.bool true)) ?_
                      refine VRunO.free VWant.always (OF.assign (VEv.tmp (t := (T.bool true)) rfl)) ?_
                      refine VRunO.nil ?_
                      refine vthn.n ?_
                      refine VRun.ret ?_
                      refine vfin.eq (r' := (T.bool true)) ?_ (vfin.r (VRes.tmp (t := (T.bool true)) rfl VRes.nil) (Give.bool _))
                      show (T.bool true) = (T.bool (decide (stepOk a i)))
                      refine congrArg T.bool ?_
                      first | (exfalso; omega) | (refine l15_a hx1 hx2 ?_ ?_ ?_ ?_ ?_ ?_ ?_ <;> first | assumption | omega | (simp only [two]; omega)) | (refine l15_b hx1 ?_ ?_ ?_ ?_ <;> first | assumption | omega | (simp_all; done)) | (symm; rw [decide_eq_false_iff_not, stepOk_iff hx1]; rintro ⟨h1, h2, h3⟩; by_cases hk : x1.Kind = 1 <;> simp only [hk, two] at * <;> first | omega | (simp_all [not_isWord0]; done) | (simp_all [not_isWord0]; omega)) | (symm; rw [decide_eq_true_eq, stepOk_iff hx1]; refine ⟨by omega, fun hk => ?_, fun hk => ?_⟩ <;> first | (exfalso; omega) | (simp_all [two, not_isWord0]; done) | (simp_all [two, not_isWord0]; omega))
                    · have fhg85_20 : ¬ (x1.Kind = 2) := of_decide_eq_false hg85_20
                      refine VRunO.free (VWant.on (b := (decide (x1.Kind = 2))) rfl rfl hg85_20) (OF.move (VEv.tmp (t := (T.sl false 4 (a.map (eStep false)))) rfl)) ?_
                      refine VRunO.free (VWant.on (b := (decide (x1.Kind = 2))) rfl rfl hg85_20) (OF.fieldAddrO (VEv.tmp (t := (T.op 0 0)) rfl) fa166_2) ?_
                      refine VRunO.look (VWant.on (b := (decide (x1.Kind = 2))) rfl rfl hg85_20) (OL.loadO1 (t := (T.int .i64 x1.A)) (VEv.tmp (t := (T.op 0 2)) rfl) rfl rfl st3) ?_
                      obtain ⟨x2, hx2⟩ : ∃ x, a[(Int.toNat x1.A)]? = some x := ⟨_, List.getElem?_eq_getElem (by first | exact hw _ (List.mem_of_getElem? hx1) | omega | (simp only [List.length_map]; omega) | (simp only [List.length_map, List.length_append, List.length_cons, List.length_nil, List.length_replicate, List.length_set, List.length_drop, List.length_take, lim] at *; omega))⟩
                      refine VRunO.free (VWant.on (b := (decide (x1.Kind = 2))) rfl rfl hg85_20) (OF.indexAddrR (row := (eStep false x2)) (i := (Int.toNat x1.A)) (VEv.tmp (t := (T.sl false 4 (a.map (eStep false)))) rfl) (VEv.tmp (t := (T.int .i64 x1.A)) rfl) (by omega) (map_at _ hx2) Try.underlying113 sz166 if166) ?_
                      refine VRunO.free (VWant.on (b := (decide (x1.Kind = 2))) rfl rfl hg85_20) (B.fieldAddrR (us := [(T.int .i64 x2.Kind), (T.str x2.Word), (T.int .i64 x2.A), (T.int .i64 x2.B)]) (VEv.tmp (t := (T.rp [(T.int .i64 x2.Kind), (T.str x2.Word), (T.int .i64 x2.A), (T.int .i64 x2.B)])) rfl) (Nat.le_of_ble_eq_true rfl) fa166_0 rfl) ?_
                      refine VRunO.look (VWant.on (b := (decide (x1.Kind = 2))) rfl rfl hg85_20) (OL.loadR1 (t := (T.int .i64 x2.Kind)) (VEv.tmp (t := (T.rp [(T.int .i64 x2.Kind), (T.str x2.Word), (T.int .i64 x2.A), (T.int .i64 x2.B)])) rfl) rfl st3) ?_
                      refine VRunO.free (VWant.on (b := (decide (x1.Kind = 2))) rfl rfl hg85_20) (B.eql (c := (decide (x2.Kind = 1))) (VEv.tmp (t := (T.int .i64 x2.Kind)) rfl) (VEv.int .i64 1) rfl) ?_
                      refine VRunO.free VWant.always (OF.pickF (VEv.tmpB (b := (decide (x1.Kind = 2))) rfl hg85_20) (VEv.tmp (t := (T.bool (decide (x2.Kind = 1)))) rfl)) ?_
                      refine VRunO.free VWant.always (OF.assign (VEv.tmp (t := (T.bool (decide (x2.Kind = 1)))) rfl)) ?_
                      refine VRunO.nil ?_
                      refine vthn.n ?_
                      refine VRun.ret ?_
                      refine vfin.eq (r' := (T.bool (decide (x2.Kind = 1)))) ?_ (vfin.r (VRes.tmp (t := (T.bool (decide (x2.Kind = 1)))) rfl VRes.nil) (Give.bool _))
                      show (T.bool (decide (x2.Kind = 1))) = (T.bool (decide (stepOk a i)))
                      refine congrArg T.bool ?_
                      first | (exfalso; omega) | (refine l15_a hx1 hx2 ?_ ?_ ?_ ?_ ?_ ?_ ?_ <;> first | assumption | omega | (simp only [two]; omega)) | (refine l15_b hx1 ?_ ?_ ?_ ?_ <;> first | assumption | omega | (simp_all; done)) | (symm; rw [decide_eq_false_iff_not, stepOk_iff hx1]; rintro ⟨h1, h2, h3⟩; by_cases hk : x1.Kind = 1 <;> simp only [hk, two] at * <;> first | omega | (simp_all [not_isWord0]; done) | (simp_all [not_isWord0]; omega)) | (symm; rw [decide_eq_true_eq, stepOk_iff hx1]; refine ⟨by omega, fun hk => ?_, fun hk => ?_⟩ <;> first | (exfalso; omega) | (simp_all [two, not_isWord0]; done) | (simp_all [two, not_isWord0]; omega))
      · have fhg28_5 : x1.Kind = 1 := ndF hg28_5
        refine VRunD.off rfl (VWant.not (b := (!(decide (x1.Kind = 1)))) rfl rfl hg28_5) ?_
        refine VRunD.off rfl (VWant.not (b := (!(decide (x1.Kind = 1)))) rfl rfl hg28_5) ?_
        refine VRunD.off rfl (VWant.not (b := (!(decide (x1.Kind = 1)))) rfl rfl hg28_5) ?_
        refine VRunD.free rfl (VWant.on (b := (!((decide (x1.Kind = 1)) == (decide (isWord x1.Word))))) rfl rfl hg24_3) rfl (OF.pickF (VEv.tmpB (b := (!(decide (x1.Kind = 1)))) rfl hg28_5) (VEv.bool false)) ?_
        refine VRunD.free rfl VWant.always rfl (OF.pickF (VEv.tmpB (b := (!((decide (x1.Kind = 1)) == (decide (isWord x1.Word))))) rfl hg24_3) (VEv.tmp (t := (T.bool false)) rfl)) ?_
        refine VRunD.nil ?_
        refine vthn.n ?_
        refine VRun.cond (VEv.tmp (t := (T.bool false)) rfl) (fun hk21 => ?_) (fun hk21 => ?_)
        · exact absurd (rfl.symm.trans hk21) (by decide)
        · skip
          refine VRun.skip ?_
          refine vthn.n ?_
          refine VRun.seq ?_
          refine VRun.region ?_
          refine VRunO.free VWant.always (OF.fieldAddrO (VEv.tmp (t := (T.op 0 0)) rfl) fa166_0) ?_
          refine VRunO.look VWant.always (OL.loadO1 (t := (T.int .i64 x1.Kind)) (VEv.tmp (t := (T.op 0 0)) rfl) rfl rfl st3) ?_
          refine VRunO.free VWant.always (B.eql (c := (decide (x1.Kind = 4))) (VEv.tmp (t := (T.int .i64 x1.Kind)) rfl) (VEv.int .i64 4) rfl) ?_
          refine VRunO.free VWant.always (OF.move (VEv.tmp (t := (T.bool (decide (x1.Kind = 4)))) rfl)) ?_
          refine bool_way (decide (x1.Kind = 4)) (fun hg37_22 => ?_) (fun hg37_22 => ?_)
          · have fhg37_22 : x1.Kind = 4 := of_decide_eq_true hg37_22
            refine VRunO.off (VWant.not (b := (decide (x1.Kind = 4))) rfl rfl hg37_22) ?_
            refine VRunO.off (VWant.not (b := (decide (x1.Kind = 4))) rfl rfl hg37_22) ?_
            refine VRunO.off (VWant.not (b := (decide (x1.Kind = 4))) rfl rfl hg37_22) ?_
            refine VRunO.free VWant.always (OF.pickT (VEv.tmpB (b := (decide (x1.Kind = 4))) rfl hg37_22) (VEv.bool true)) ?_
            refine VRunO.free VWant.always (OF.assign (VEv.tmp (t := (T.bool true)) rfl)) ?_
            refine VRunO.nil ?_
            refine vthn.n ?_
            refine VRun.seq ?_
            refine VRun.seq ?_
            refine VRun.region ?_
            refine VRunO.free VWant.always (OF.fieldAddrO (VEv.tmp (t := (T.op 0 0)) rfl) fa166_0) ?_
            refine VRunO.look VWant.always (OL.loadO1 (t := (T.int .i64 x1.Kind)) (VEv.tmp (t := (T.op 0 0)) rfl) rfl rfl st3) ?_
            refine VRunO.free VWant.always (B.eql (c := (decide (x1.Kind = 1))) (VEv.tmp (t := (T.int .i64 x1.Kind)) rfl) (VEv.int .i64 1) rfl) ?_
            refine VRunO.nil ?_
            refine vthn.n ?_
            refine VRun.cond (VEv.tmp (t := (T.bool (decide (x1.Kind = 1)))) rfl) (fun hk23 => ?_) (fun hk23 => ?_)
            · skip
              refine VRun.seq ?_
              refine VRun.region ?_
              refine VRunO.free VWant.always (OF.fieldAddrO (VEv.tmp (t := (T.op 0 0)) rfl) fa166_2) ?_
              refine VRunO.look VWant.always (OL.loadO1 (t := (T.int .i64 x1.A)) (VEv.tmp (t := (T.op 0 2)) rfl) rfl rfl st3) ?_
              refine VRunO.free VWant.always (B.eql (c := (decide (x1.A = 0))) (VEv.tmp (t := (T.int .i64 x1.A)) rfl) (VEv.int .i64 0) rfl) ?_
              refine VRunO.free VWant.always (OF.move (VEv.tmp (t := (T.bool (decide (x1.A = 0)))) rfl)) ?_
              refine bool_way (decide (x1.A = 0)) (fun hg48_24 => ?_) (fun hg48_24 => ?_)
              · have fhg48_24 : x1.A = 0 := of_decide_eq_true hg48_24
                refine VRunO.free (VWant.on (b := (decide (x1.A = 0))) rfl rfl hg48_24) (OF.fieldAddrO (VEv.tmp (t := (T.op 0 0)) rfl) fa166_3) ?_
                refine VRunO.look (VWant.on (b := (decide (x1.A = 0))) rfl rfl hg48_24) (OL.loadO1 (t := (T.int .i64 x1.B)) (VEv.tmp (t := (T.op 0 3)) rfl) rfl rfl st3) ?_
                refine VRunO.free (VWant.on (b := (decide (x1.A = 0))) rfl rfl hg48_24) (B.eql (c := (decide (x1.B = 0))) (VEv.tmp (t := (T.int .i64 x1.B)) rfl) (VEv.int .i64 0) rfl) ?_
                refine VRunO.free VWant.always (OF.pickT (VEv.tmpB (b := (decide (x1.A = 0))) rfl hg48_24) (VEv.tmp (t := (T.bool (decide (x1.B = 0)))) rfl)) ?_
                refine VRunO.free VWant.always (OF.assign (VEv.tmp (t := (T.bool (decide (x1.B = 0)))) rfl)) ?_
                refine VRunO.nil ?_
                refine vthn.n ?_
                refine VRun.ret ?_
                refine vthn.r ?_
                refine vfin.eq (r' := (T.bool (decide (x1.B = 0)))) ?_ (vfin.r (VRes.tmp (t := (T.bool (decide (x1.B = 0)))) rfl VRes.nil) (Give.bool _))
                show (T.bool (decide (x1.B = 0))) = (T.bool (decide (stepOk a i)))
                refine congrArg T.bool ?_
                first | (exfalso; omega) | (refine l15_a hx1 hx2 ?_ ?_ ?_ ?_ ?_ ?_ ?_ <;> first | assumption | omega | (simp only [two]; omega)) | (refine l15_b hx1 ?_ ?_ ?_ ?_ <;> first | assumption | omega | (simp_all; done)) | (symm; rw [decide_eq_false_iff_not, stepOk_iff hx1]; rintro ⟨h1, h2, h3⟩; by_cases hk : x1.Kind = 1 <;> simp only [hk, two] at * <;> first | omega | (simp_all [not_isWord0]; done) | (simp_all [not_isWord0]; omega)) | (symm; rw [decide_eq_true_eq, stepOk_iff hx1]; refine ⟨by omega, fun hk => ?_, fun hk => ?_⟩ <;> first | (exfalso; omega) | (simp_all [two, not_isWord0]; done) | (simp_all [two, not_isWord0]; omega))
              · have fhg48_24 : ¬ (x1.A = 0) := of_decide_eq_false hg48_24
                refine VRunO.off (VWant.not (b := (decide (x1.A = 0))) rfl rfl hg48_24) ?_
                refine VRunO.off (VWant.not (b := (decide (x1.A = 0))) rfl rfl hg48_24) ?_
                refine VRunO.off (VWant.not (b := (decide (x1.A = 0))) rfl rfl hg48_24) ?_
                refine VRunO.free VWant.always (OF.pickF (VEv.tmpB (b := (decide (x1.A = 0))) rfl hg48_24) (VEv.bool false)) ?_
                refine VRunO.free VWant.always (OF.assign (VEv.tmp (t := (T.bool false)) rfl)) ?_
                refine VRunO.nil ?_
                refine vthn.n ?_
                refine VRun.ret ?_
                refine vthn.r ?_
                refine vfin.eq (r' := (T.bool false)) ?_ (vfin.r (VRes.tmp (t := (T.bool false)) rfl VRes.nil) (Give.bool _))
                show (T.bool false) = (T.bool (decide (stepOk a i)))
                refine congrArg T.bool ?_
                first | (exfalso; omega) | (refine l15_a hx1 hx2 ?_ ?_ ?_ ?_ ?_ ?_ ?_ <;> first | assumption | omega | (simp only [two]; omega)) | (refine l15_b hx1 ?_ ?_ ?_ ?_ <;> first | assumption | omega | (simp_all; done)) | (symm; rw [decide_eq_false_iff_not, stepOk_iff hx1]; rintro ⟨h1, h2, h3⟩; by_cases hk : x1.Kind = 1 <;> simp only [hk, two] at * <;> first | omega | (simp_all [not_isWord0]; done) | (simp_all [not_isWord0]; omega)) | (symm; rw [decide_eq_true_eq, stepOk_iff hx1]; refine ⟨by omega, fun hk => ?_, fun hk => ?_⟩ <;> first | (exfalso; omega) | (simp_all [two, not_isWord0]; done) | (simp_all [two, not_isWord0]; omega))
            · exact absurd ((notF hg28_5).symm.trans hk23) (by decide)
          · have fhg37_22 : ¬ (x1.Kind = 4) := of_decide_eq_false hg37_22
            refine VRunO.free (VWant.on (b := (decide (x1.Kind = 4))) rfl rfl hg37_22) (OF.fieldAddrO (VEv.tmp (t := (T.op 0 0)) rfl) fa166_0) ?_
            refine VRunO.look (VWant.on (b := (decide (x1.Kind = 4))) rfl rfl hg37_22) (OL.loadO1 (t := (T.int .i64 x1.Kind)) (VEv.tmp (t := (T.op 0 0)) rfl) rfl rfl st3) ?_
            refine VRunO.free (VWant.on (b := (decide (x1.Kind = 4))) rfl rfl hg37_22) (B.eql (c := (decide (x1.Kind = 5))) (VEv.tmp (t := (T.int .i64 x1.Kind)) rfl) (VEv.int .i64 5) rfl) ?_
            refine VRunO.free VWant.always (OF.pickF (VEv.tmpB (b := (decide (x1.Kind = 4))) rfl hg37_22) (VEv.tmp (t := (T.bool (decide (x1.Kind = 5)))) rfl)) ?_
            refine VRunO.free VWant.always (OF.assign (VEv.tmp (t := (T.bool (decide (x1.Kind = 5)))) rfl)) ?_
            refine VRunO.nil ?_
            refine vthn.n ?_
            refine VRun.seq ?_
            refine VRun.seq ?_
            refine VRun.region ?_
            refine VRunO.free VWant.always (OF.fieldAddrO (VEv.tmp (t := (T.op 0 0)) rfl) fa166_0) ?_
            refine VRunO.look VWant.always (OL.loadO1 (t := (T.int .i64 x1.Kind)) (VEv.tmp (t := (T.op 0 0)) rfl) rfl rfl st3) ?_
            refine VRunO.free VWant.always (B.eql (c := (decide (x1.Kind = 1))) (VEv.tmp (t := (T.int .i64 x1.Kind)) rfl) (VEv.int .i64 1) rfl) ?_
            refine VRunO.nil ?_
            refine vthn.n ?_
            refine VRun.cond (VEv.tmp (t := (T.bool (decide (x1.Kind = 1)))) rfl) (fun hk25 => ?_) (fun hk25 => ?_)
            · skip
              refine VRun.seq ?_
              refine VRun.region ?_
              refine VRunO.free VWant.always (OF.fieldAddrO (VEv.tmp (t := (T.op 0 0)) rfl) fa166_2) ?_
              refine VRunO.look VWant.always (OL.loadO1 (t := (T.int .i64 x1.A)) (VEv.tmp (t := (T.op 0 2)) rfl) rfl rfl st3) ?_
              refine VRunO.free VWant.always (B.eql (c := (decide (x1.A = 0))) (VEv.tmp (t := (T.int .i64 x1.A)) rfl) (VEv.int .i64 0) rfl) ?_
              refine VRunO.free VWant.always (OF.move (VEv.tmp (t := (T.bool (decide (x1.A = 0)))) rfl)) ?_
              refine bool_way (decide (x1.A = 0)) (fun hg48_26 => ?_) (fun hg48_26 => ?_)
              · have fhg48_26 : x1.A = 0 := of_decide_eq_true hg48_26
                refine VRunO.free (VWant.on (b := (decide (x1.A = 0))) rfl rfl hg48_26) (OF.fieldAddrO (VEv.tmp (t := (T.op 0 0)) rfl) fa166_3) ?_
                refine VRunO.look (VWant.on (b := (decide (x1.A = 0))) rfl rfl hg48_26) (OL.loadO1 (t := (T.int .i64 x1.B)) (VEv.tmp (t := (T.op 0 3)) rfl) rfl rfl st3) ?_
                refine VRunO.free (VWant.on (b := (decide (x1.A = 0))) rfl rfl hg48_26) (B.eql (c := (decide (x1.B = 0))) (VEv.tmp (t := (T.int .i64 x1.B)) rfl) (VEv.int .i64 0) rfl) ?_
                refine VRunO.free VWant.always (OF.pickT (VEv.tmpB (b := (decide (x1.A = 0))) rfl hg48_26) (VEv.tmp (t := (T.bool (decide (x1.B = 0)))) rfl)) ?_
                refine VRunO.free VWant.always (OF.assign (VEv.tmp (t := (T.bool (decide (x1.B = 0)))) rfl)) ?_
                refine VRunO.nil ?_
                refine vthn.n ?_
                refine VRun.ret ?_
                refine vthn.r ?_
                refine vfin.eq (r' := (T.bool (decide (x1.B = 0)))) ?_ (vfin.r (VRes.tmp (t := (T.bool (decide (x1.B = 0)))) rfl VRes.nil) (Give.bool _))
                show (T.bool (decide (x1.B = 0))) = (T.bool (decide (stepOk a i)))
                refine congrArg T.bool ?_
                first | (exfalso; omega) | (refine l15_a hx1 hx2 ?_ ?_ ?_ ?_ ?_ ?_ ?_ <;> first | assumption | omega | (simp only [two]; omega)) | (refine l15_b hx1 ?_ ?_ ?_ ?_ <;> first | assumption | omega | (simp_all; done)) | (symm; rw [decide_eq_false_iff_not, stepOk_iff hx1]; rintro ⟨h1, h2, h3⟩; by_cases hk : x1.Kind = 1 <;> simp only [hk, two] at * <;> first | omega | (simp_all [not_isWord0]; done) | (simp_all [not_isWord0]; omega)) | (symm; rw [decide_eq_true_eq, stepOk_iff hx1]; refine ⟨by omega, fun hk => ?_, fun hk => ?_⟩ <;> first | (exfalso; omega) | (simp_all [two, not_isWord0]; done) | (simp_all [two, not_isWord0]; omega))
              · have fhg48_26 : ¬ (x1.A = 0) := of_decide_eq_false hg48_26
                refine VRunO.off (VWant.not (b := (decide (x1.A = 0))) rfl rfl hg48_26) ?_
                refine VRunO.off (VWant.not (b := (decide (x1.A = 0))) rfl rfl hg48_26) ?_
                refine VRunO.off (VWant.not (b := (decide (x1.A = 0))) rfl rfl hg48_26) ?_
                refine VRunO.free VWant.always (OF.pickF (VEv.tmpB (b := (decide (x1.A = 0))) rfl hg48_26) (VEv.bool false)) ?_
                refine VRunO.free VWant.always (OF.assign (VEv.tmp (t := (T.bool false)) rfl)) ?_
                refine VRunO.nil ?_
                refine vthn.n ?_
                refine VRun.ret ?_
                refine vthn.r ?_
                refine vfin.eq (r' := (T.bool false)) ?_ (vfin.r (VRes.tmp (t := (T.bool false)) rfl VRes.nil) (Give.bool _))
                show (T.bool false) = (T.bool (decide (stepOk a i)))
                refine congrArg T.bool ?_
                first | (exfalso; omega) | (refine l15_a hx1 hx2 ?_ ?_ ?_ ?_ ?_ ?_ ?_ <;> first | assumption | omega | (simp only [two]; omega)) | (refine l15_b hx1 ?_ ?_ ?_ ?_ <;> first | assumption | omega | (simp_all; done)) | (symm; rw [decide_eq_false_iff_not, stepOk_iff hx1]; rintro ⟨h1, h2, h3⟩; by_cases hk : x1.Kind = 1 <;> simp only [hk, two] at * <;> first | omega | (simp_all [not_isWord0]; done) | (simp_all [not_isWord0]; omega)) | (symm; rw [decide_eq_true_eq, stepOk_iff hx1]; refine ⟨by omega, fun hk => ?_, fun hk => ?_⟩ <;> first | (exfalso; omega) | (simp_all [two, not_isWord0]; done) | (simp_all [two, not_isWord0]; omega))
            · exact absurd ((notF hg28_5).symm.trans hk25) (by decide)
theorem W_spec_IsPlay (n : Nat) (a : List D.Step) (hz : zL zStep a ≤ mx) : Pure (acall Try.prog (n + 4)) 135 [(T.sl false 4 (a.map (eStep false)))] (T.bool (decide (isPlay a))) := by
  refine Pure.intro (rs := [ResultVar.tmp 2]) Try.func135 rfl rfl rfl (E0 := [(0, (T.sl false 4 (a.map (eStep false))))]) rfl ?_
  have hlim : lim = 1099511627776 := rfl
  have hmx : mx = 1048576 := rfl
  have hmax : maxLen = 9223372036854775807 := rfl
  have ha := zL_len (z := zStep) a
  refine VRun.seq ?_
  refine VRun.region ?_
  refine VRunO.free VWant.always (OF.assign (VEv.bool false)) ?_
  refine VRunO.nil ?_
  refine vthn.n ?_
  refine VRun.seq ?_
  refine VRun.seq ?_
  refine VRun.region ?_
  refine VRunO.free VWant.always (OF.assign (VEv.int .i64 0)) ?_
  refine VRunO.nil ?_
  refine vthn.n ?_
  refine VRun.block ?_
  refine VRun.loop (A := Nat) (fun s_ => [(0, (T.sl false 4 (a.map (eStep false)))), (3, (T.int .i64 ((s_ : Nat) : Int)))]) (fun s_ => mkO []) 0 (fun s_ => s_ ≤ a.length ∧ ∀ j, j < s_ → stepOk a j) (fun s_ => a.length - s_) (0 : Nat) ?_ (Wk.mk (fun k => k) ?_ ?_ ?_) ?_
  · exact ⟨Nat.zero_le _, fun j hj => by omega⟩
  · exact (ball_cons ⟨rfl, rfl⟩ (ball_cons ⟨(congrArg (T.int .i64) (show 0 = ((0 : Nat) : Int) from (by first | rfl | omega | (simp; done) | (push_cast; omega)))), rfl⟩ (ball_nil)))
  · exact (ball_nil)
  · show List.Nodup ([] : List Nat)
    decide
  · rintro i hI
    have hI' : i ≤ a.length ∧ ∀ j, j < i → stepOk a j := hI
    clear hI
    show VRun _ _ _ [(0, (T.sl false 4 (a.map (eStep false)))), (3, (T.int .i64 ((i : Nat) : Int)))] (mkO []) 0 _
    have hI0 := hI'
    refine VRun.seq ?_
    refine VRun.seq ?_
    refine VRun.region ?_
    refine VRunO.free VWant.always (OF.move (VEv.tmp (t := (T.int .i64 ((i : Nat) : Int))) rfl)) ?_
    refine VRunO.free VWant.always (OF.move (VEv.tmp (t := (T.sl false 4 (a.map (eStep false)))) rfl)) ?_
    refine VRunO.look VWant.always (B.lenR (m := a.length) (VEv.tmp (t := (T.sl false 4 (a.map (eStep false)))) rfl) Try.underlying113 (List.length_map ..)) ?_
    refine VRunO.free VWant.always (B.lss (c := (decide (i < a.length))) (VEv.tmp (t := (T.int .i64 ((i : Nat) : Int))) rfl) (VEv.tmp (t := (T.int .i64 ((a.length : Nat) : Int))) rfl) (by first | (exact decN (by omega)))) ?_
    refine VRunO.free VWant.always (OF.move (VEv.tmp (t := (T.bool (decide (i < a.length)))) rfl)) ?_
    refine bool_way (decide (i < a.length)) (fun hg8_1 => ?_) (fun hg8_1 => ?_)
    · have fhg8_1 : i < a.length := of_decide_eq_true hg8_1
      refine VRunO.free (VWant.on (b := (decide (i < a.length))) rfl rfl hg8_1) (OF.move (VEv.tmp (t := (T.sl false 4 (a.map (eStep false)))) rfl)) ?_
      refine VRunO.look (VWant.on (b := (decide (i < a.length))) rfl rfl hg8_1) (B.lenR (m := a.length) (VEv.tmp (t := (T.sl false 4 (a.map (eStep false)))) rfl) Try.underlying113 (List.length_map ..)) ?_
      refine VRunO.free (VWant.on (b := (decide (i < a.length))) rfl rfl hg8_1) (B.leq (c := (decide (a.length ≤ 9))) (VEv.tmp (t := (T.int .i64 ((a.length : Nat) : Int))) rfl) (VEv.int .i64 9) (by first | (exact decN (by omega)))) ?_
      refine VRunO.free VWant.always (OF.pickT (VEv.tmpB (b := (decide (i < a.length))) rfl hg8_1) (VEv.tmp (t := (T.bool (decide (a.length ≤ 9)))) rfl)) ?_
      refine VRunO.nil ?_
      refine vthn.n ?_
      refine VRun.cond (VEv.tmp (t := (T.bool (decide (a.length ≤ 9)))) rfl) (fun hc0 => ?_) (fun hc0 => ?_)
      · have fhc0 : a.length ≤ 9 := of_decide_eq_true hc0
        refine VRun.skip ?_
        refine vthn.n ?_
        refine VRun.seq ?_
        refine VRun.block ?_
        refine VRun.seq ?_
        refine VRun.region ?_
        refine VRunO.free VWant.always (OF.move (VEv.tmp (t := (T.sl false 4 (a.map (eStep false)))) rfl)) ?_
        refine VRunO.free VWant.always (OF.move (VEv.tmp (t := (T.int .i64 ((i : Nat) : Int))) rfl)) ?_
        refine VRunO.chain VWant.always (OC.callF (us := [(T.sl false 4 (a.map (eStep false))), (T.int .i64 ((i : Nat) : Int))]) (r := (T.bool (decide (stepOk a i)))) (r' := (T.bool (decide (stepOk a i)))) (objs := []) rfl (VEvs.cons (VEv.tmp (t := (T.sl false 4 (a.map (eStep false)))) rfl) (VEvs.cons (VEv.tmp (t := (T.int .i64 ((i : Nat) : Int))) rfl) VEvs.nil)) (LendL.cons (Lend.pl rfl) (LendL.cons (Lend.pl rfl) (LendL.nil))) (W_spec_l15Ok (n + 0) a i (by first | assumption | omega | (simp only [List.length_map]; omega) | (simp only [List.length_map, List.length_append, List.length_cons, List.length_nil, List.length_replicate, List.length_set, List.length_drop, List.length_take, lim] at *; omega)) (by first | assumption | omega | (simp only [List.length_map]; omega) | (simp only [List.length_map, List.length_append, List.length_cons, List.length_nil, List.length_replicate, List.length_set, List.length_drop, List.length_take, lim] at *; omega))) rfl) ?_
        refine VRunO.free VWant.always (B.not (c := (!(decide (stepOk a i)))) (VEv.tmp (t := (T.bool (decide (stepOk a i)))) rfl) rfl) ?_
        refine VRunO.nil ?_
        refine vthn.n ?_
        refine VRun.cond (VEv.tmp (t := (T.bool (!(decide (stepOk a i))))) rfl) (fun hc1 => ?_) (fun hc1 => ?_)
        · have fhc1 : ¬ (stepOk a i) := ndT hc1
          refine VRun.seq ?_
          refine VRun.region ?_
          refine VRunO.free VWant.always (OF.assign (VEv.bool false)) ?_
          refine VRunO.nil ?_
          refine vthn.n ?_
          refine VRun.ret ?_
          refine vinB.r ?_
          refine vthn.r ?_
          refine vthn.r ?_
          refine vinB.r ?_
          refine vthn.r ?_
          refine vfin.eq (r' := (T.bool false)) ?_ (vfin.r (VRes.tmp (t := (T.bool false)) rfl VRes.nil) (Give.bool _))
          show (T.bool false) = (T.bool (decide (isPlay a)))
          refine congrArg T.bool ?_
          first | (symm; rw [decide_eq_false_iff_not]; rintro ⟨h1, h2⟩; exact absurd (h2 i (by omega)) (by assumption)) | (refine decN ⟨fun h => ⟨by omega, allEnd hI' (by omega)⟩, fun h => by have := h.1; omega⟩)
        · have fhc1 : stepOk a i := ndF hc1
          refine VRun.skip ?_
          refine vinB.n ?_
          refine vthn.n ?_
          refine VRun.region ?_
          refine VRunO.free VWant.always (OF.move (VEv.tmp (t := (T.int .i64 ((i : Nat) : Int))) rfl)) ?_
          refine VRunO.free VWant.always (B.add (n := (((i + 1) : Nat) : Int)) (VEv.tmp (t := (T.int .i64 ((i : Nat) : Int))) rfl) (VEv.int .i64 1) (by first | rfl | (rw [wrap64 (by omega)]; done) | (rw [wrap64 (by omega)]; omega) | (rw [wrap64 (by omega)]; push_cast; omega) | omega)) ?_
          refine VRunO.free VWant.always (OF.assign (VEv.tmp (t := (T.int .i64 (((i + 1) : Nat) : Int))) rfl)) ?_
          refine VRunO.nil ?_
          refine vthn.n ?_
          refine ⟨(i + 1 : Nat), ?_, ?_, Wk.mk (fun k => k) ?_ ?_ ?_⟩
          · exact allNext hI0 (by omega) (by assumption)
          · first | omega | (simp only []; omega) | (show _ < _; omega) | (simp; omega)
          · exact (ball_cons ⟨rfl, rfl⟩ (ball_cons ⟨rfl, rfl⟩ (ball_nil)))
          · exact (ball_nil)
          · show List.Nodup ([] : List Nat)
            decide
      · have fhc0 : ¬ (a.length ≤ 9) := of_decide_eq_false hc0
        refine VRun.exit ?_
        refine vthn.e ?_
        refine vthn.e ?_
        refine vinB.e ?_
        refine vthn.n ?_
        refine VRun.seq ?_
        refine VRun.region ?_
        refine VRunO.free VWant.always (OF.move (VEv.tmp (t := (T.sl false 4 (a.map (eStep false)))) rfl)) ?_
        refine VRunO.look VWant.always (B.lenR (m := a.length) (VEv.tmp (t := (T.sl false 4 (a.map (eStep false)))) rfl) Try.underlying113 (List.length_map ..)) ?_
        refine VRunO.chain VWant.always (OC.callF (us := [(T.int .i64 ((a.length : Nat) : Int)), (T.int .i64 1), (T.int .i64 9)]) (r := (T.bool (decide (1 ≤ ((a.length : Nat) : Int) ∧ ((a.length : Nat) : Int) ≤ 9)))) (r' := (T.bool (decide (1 ≤ ((a.length : Nat) : Int) ∧ ((a.length : Nat) : Int) ≤ 9)))) (objs := []) rfl (VEvs.cons (VEv.tmp (t := (T.int .i64 ((a.length : Nat) : Int))) rfl) (VEvs.cons (VEv.int .i64 1) (VEvs.cons (VEv.int .i64 9) VEvs.nil))) (LendL.cons (Lend.pl rfl) (LendL.cons (Lend.pl rfl) (LendL.cons (Lend.pl rfl) (LendL.nil)))) (W_spec_l1In (n + 2) ((a.length : Nat) : Int) 1 9 ) rfl) ?_
        refine VRunO.free VWant.always (OF.assign (VEv.tmp (t := (T.bool (decide (1 ≤ ((a.length : Nat) : Int) ∧ ((a.length : Nat) : Int) ≤ 9)))) rfl)) ?_
        refine VRunO.nil ?_
        refine vthn.n ?_
        refine VRun.ret ?_
        refine vfin.eq (r' := (T.bool (decide (1 ≤ ((a.length : Nat) : Int) ∧ ((a.length : Nat) : Int) ≤ 9)))) ?_ (vfin.r (VRes.tmp (t := (T.bool (decide (1 ≤ ((a.length : Nat) : Int) ∧ ((a.length : Nat) : Int) ≤ 9)))) rfl VRes.nil) (Give.bool _))
        show (T.bool (decide (1 ≤ ((a.length : Nat) : Int) ∧ ((a.length : Nat) : Int) ≤ 9))) = (T.bool (decide (isPlay a)))
        refine congrArg T.bool ?_
        first | (symm; rw [decide_eq_false_iff_not]; rintro ⟨h1, h2⟩; exact absurd (h2 i (by omega)) (by assumption)) | (refine decN ⟨fun h => ⟨by omega, allEnd hI' (by omega)⟩, fun h => by have := h.1; omega⟩)
    · have fhg8_1 : ¬ (i < a.length) := of_decide_eq_false hg8_1
      refine VRunO.off (VWant.not (b := (decide (i < a.length))) rfl rfl hg8_1) ?_
      refine VRunO.off (VWant.not (b := (decide (i < a.length))) rfl rfl hg8_1) ?_
      refine VRunO.off (VWant.not (b := (decide (i < a.length))) rfl rfl hg8_1) ?_
      refine VRunO.free VWant.always (OF.pickF (VEv.tmpB (b := (decide (i < a.length))) rfl hg8_1) (VEv.bool false)) ?_
      refine VRunO.nil ?_
      refine vthn.n ?_
      refine VRun.cond (VEv.tmp (t := (T.bool false)) rfl) (fun hk2 => ?_) (fun hk2 => ?_)
      · exact absurd (rfl.symm.trans hk2) (by decide)
      · skip
        refine VRun.exit ?_
        refine vthn.e ?_
        refine vthn.e ?_
        refine vinB.e ?_
        refine vthn.n ?_
        refine VRun.seq ?_
        refine VRun.region ?_
        refine VRunO.free VWant.always (OF.move (VEv.tmp (t := (T.sl false 4 (a.map (eStep false)))) rfl)) ?_
        refine VRunO.look VWant.always (B.lenR (m := a.length) (VEv.tmp (t := (T.sl false 4 (a.map (eStep false)))) rfl) Try.underlying113 (List.length_map ..)) ?_
        refine VRunO.chain VWant.always (OC.callF (us := [(T.int .i64 ((a.length : Nat) : Int)), (T.int .i64 1), (T.int .i64 9)]) (r := (T.bool (decide (1 ≤ ((a.length : Nat) : Int) ∧ ((a.length : Nat) : Int) ≤ 9)))) (r' := (T.bool (decide (1 ≤ ((a.length : Nat) : Int) ∧ ((a.length : Nat) : Int) ≤ 9)))) (objs := []) rfl (VEvs.cons (VEv.tmp (t := (T.int .i64 ((a.length : Nat) : Int))) rfl) (VEvs.cons (VEv.int .i64 1) (VEvs.cons (VEv.int .i64 9) VEvs.nil))) (LendL.cons (Lend.pl rfl) (LendL.cons (Lend.pl rfl) (LendL.cons (Lend.pl rfl) (LendL.nil)))) (W_spec_l1In (n + 2) ((a.length : Nat) : Int) 1 9 ) rfl) ?_
        refine VRunO.free VWant.always (OF.assign (VEv.tmp (t := (T.bool (decide (1 ≤ ((a.length : Nat) : Int) ∧ ((a.length : Nat) : Int) ≤ 9)))) rfl)) ?_
        refine VRunO.nil ?_
        refine vthn.n ?_
        refine VRun.ret ?_
        refine vfin.eq (r' := (T.bool (decide (1 ≤ ((a.length : Nat) : Int) ∧ ((a.length : Nat) : Int) ≤ 9)))) ?_ (vfin.r (VRes.tmp (t := (T.bool (decide (1 ≤ ((a.length : Nat) : Int) ∧ ((a.length : Nat) : Int) ≤ 9)))) rfl VRes.nil) (Give.bool _))
        show (T.bool (decide (1 ≤ ((a.length : Nat) : Int) ∧ ((a.length : Nat) : Int) ≤ 9))) = (T.bool (decide (isPlay a)))
        refine congrArg T.bool ?_
        first | (symm; rw [decide_eq_false_iff_not]; rintro ⟨h1, h2⟩; exact absurd (h2 i (by omega)) (by assumption)) | (refine decN ⟨fun h => ⟨by omega, allEnd hI' (by omega)⟩, fun h => by have := h.1; omega⟩)
theorem W_impl_IsPlay (n : Nat) (a : List D.Step) (hz : zL zStep a ≤ mx) : Pure (acall Try.prog (n + 3)) 136 [(T.sl false 4 (a.map (eStep false)))] (T.bool (decide (isPlay a))) := by
  refine Pure.intro (rs := [ResultVar.tmp 2]) Try.func136 rfl rfl rfl (E0 := [(0, (T.sl false 4 (a.map (eStep false))))]) rfl ?_
  have hlim : lim = 1099511627776 := rfl
  have hmx : mx = 1048576 := rfl
  have hmax : maxLen = 9223372036854775807 := rfl
  have ha := zL_len (z := zStep) a
  have hw : ∀ x ∈ a, x.Word.size ≤ maxLen := fun x hx => by have h1 := zL_mem (z := zStep) hx; simp only [zStep] at h1; omega
  refine VRun.seq ?_
  refine VRun.region ?_
  refine VRunO.free VWant.always (OF.assign (VEv.bool false)) ?_
  refine VRunO.nil ?_
  refine vthn.n ?_
  refine VRun.seq ?_
  refine VRun.seq ?_
  refine VRun.region ?_
  refine VRunO.free VWant.always (OF.move (VEv.tmp (t := (T.sl false 4 (a.map (eStep false)))) rfl)) ?_
  refine VRunO.look VWant.always (B.lenR (m := a.length) (VEv.tmp (t := (T.sl false 4 (a.map (eStep false)))) rfl) Try.underlying113 (List.length_map ..)) ?_
  refine VRunO.chain VWant.always (OC.callF (us := [(T.int .i64 ((a.length : Nat) : Int)), (T.int .i64 1), (T.int .i64 9)]) (r := (T.bool (decide (1 ≤ ((a.length : Nat) : Int) ∧ ((a.length : Nat) : Int) ≤ 9)))) (r' := (T.bool (decide (1 ≤ ((a.length : Nat) : Int) ∧ ((a.length : Nat) : Int) ≤ 9)))) (objs := []) rfl (VEvs.cons (VEv.tmp (t := (T.int .i64 ((a.length : Nat) : Int))) rfl) (VEvs.cons (VEv.int .i64 1) (VEvs.cons (VEv.int .i64 9) VEvs.nil))) (LendL.cons (Lend.pl rfl) (LendL.cons (Lend.pl rfl) (LendL.cons (Lend.pl rfl) (LendL.nil)))) (W_impl_InRange (n + 1) ((a.length : Nat) : Int) 1 9 ) rfl) ?_
  refine VRunO.free VWant.always (B.not (c := (!(decide (1 ≤ ((a.length : Nat) : Int) ∧ ((a.length : Nat) : Int) ≤ 9)))) (VEv.tmp (t := (T.bool (decide (1 ≤ ((a.length : Nat) : Int) ∧ ((a.length : Nat) : Int) ≤ 9)))) rfl) rfl) ?_
  refine VRunO.nil ?_
  refine vthn.n ?_
  refine VRun.cond (VEv.tmp (t := (T.bool (!(decide (1 ≤ ((a.length : Nat) : Int) ∧ ((a.length : Nat) : Int) ≤ 9))))) rfl) (fun hc0 => ?_) (fun hc0 => ?_)
  · have fhc0 : ¬ (1 ≤ ((a.length : Nat) : Int) ∧ ((a.length : Nat) : Int) ≤ 9) := ndT hc0
    refine VRun.seq ?_
    refine VRun.region ?_
    refine VRunO.free VWant.always (OF.assign (VEv.bool false)) ?_
    refine VRunO.nil ?_
    refine vthn.n ?_
    refine VRun.ret ?_
    refine vthn.r ?_
    refine vfin.eq (r' := (T.bool false)) ?_ (vfin.r (VRes.tmp (t := (T.bool false)) rfl VRes.nil) (Give.bool _))
    show (T.bool false) = (T.bool (decide (isPlay a)))
    refine congrArg T.bool ?_
    first | (symm; rw [decide_eq_true_eq]; exact ⟨by omega, allEnd hI' fhc1⟩) | (symm; rw [decide_eq_false_iff_not]; rintro ⟨h1, h2⟩; first | (exfalso; omega) | (have h3 := (stepOk_iff hx1).1 (h2 i fhc1); obtain ⟨h4, h5, h6⟩ := h3; simp only [two] at h6; first | omega | contradiction | (by_cases hk : x1.Kind = 1 <;> simp_all <;> omega) | (simp_all [exAt hx2]; done) | (simp_all [exAt hx2]; omega)))
  · have fhc0 : 1 ≤ ((a.length : Nat) : Int) ∧ ((a.length : Nat) : Int) ≤ 9 := ndF hc0
    refine VRun.skip ?_
    refine vthn.n ?_
    refine VRun.seq ?_
    refine VRun.seq ?_
    refine VRun.region ?_
    refine VRunO.free VWant.always (OF.move (VEv.tmp (t := (T.sl false 4 (a.map (eStep false)))) rfl)) ?_
    refine VRunO.look VWant.always (B.lenR (m := a.length) (VEv.tmp (t := (T.sl false 4 (a.map (eStep false)))) rfl) Try.underlying113 (List.length_map ..)) ?_
    refine VRunO.free VWant.always (OF.move (VEv.int .i64 0)) ?_
    refine VRunO.nil ?_
    refine vthn.n ?_
    refine VRun.block ?_
    refine VRun.loop (A := Nat) (fun s_ => [(0, (T.sl false 4 (a.map (eStep false)))), (9, (T.sl false 4 (a.map (eStep false)))), (10, (T.int .i64 ((a.length : Nat) : Int))), (11, (T.int .i64 ((s_ : Nat) : Int)))]) (fun s_ => mkO []) 0 (fun s_ => s_ ≤ a.length ∧ ∀ j, j < s_ → stepOk a j) (fun s_ => a.length - s_) (0 : Nat) ?_ (Wk.mk (fun k => k) ?_ ?_ ?_) ?_
    · exact ⟨Nat.zero_le _, fun j hj => by omega⟩
    · exact (ball_cons ⟨rfl, rfl⟩ (ball_cons ⟨rfl, rfl⟩ (ball_cons ⟨rfl, rfl⟩ (ball_cons ⟨(congrArg (T.int .i64) (show 0 = ((0 : Nat) : Int) from (by first | rfl | omega | (simp; done) | (push_cast; omega)))), rfl⟩ (ball_nil)))))
    · exact (ball_nil)
    · show List.Nodup ([] : List Nat)
      decide
    · rintro i hI
      have hI' : i ≤ a.length ∧ ∀ j, j < i → stepOk a j := hI
      clear hI
      show VRun _ _ _ [(0, (T.sl false 4 (a.map (eStep false)))), (9, (T.sl false 4 (a.map (eStep false)))), (10, (T.int .i64 ((a.length : Nat) : Int))), (11, (T.int .i64 ((i : Nat) : Int)))] (mkO []) 0 _
      have hI0 := hI'
      refine VRun.seq ?_
      refine VRun.region ?_
      refine VRunO.free VWant.always (B.lss (c := (decide (i < a.length))) (VEv.tmp (t := (T.int .i64 ((i : Nat) : Int))) rfl) (VEv.tmp (t := (T.int .i64 ((a.length : Nat) : Int))) rfl) (by first | exact hw _ (List.mem_of_getElem? hx1) | (exact decN (by omega)))) ?_
      refine VRunO.nil ?_
      refine vthn.n ?_
      refine VRun.seq ?_
      refine VRun.cond (VEv.tmp (t := (T.bool (decide (i < a.length)))) rfl) (fun hc1 => ?_) (fun hc1 => ?_)
      · have fhc1 : i < a.length := of_decide_eq_true hc1
        refine VRun.skip ?_
        refine vthn.n ?_
        refine VRun.seq ?_
        refine VRun.block ?_
        refine VRun.seq ?_
        refine VRun.region ?_
        refine VRunO.free VWant.always (OF.move (VEv.tmp (t := (T.int .i64 ((i : Nat) : Int))) rfl)) ?_
        obtain ⟨x1, hx1⟩ : ∃ x, a[i]? = some x := ⟨_, List.getElem?_eq_getElem (by first | exact hw _ (List.mem_of_getElem? hx1) | omega | (simp only [List.length_map]; omega) | (simp only [List.length_map, List.length_append, List.length_cons, List.length_nil, List.length_replicate, List.length_set, List.length_drop, List.length_take, lim] at *; omega))⟩
        refine VRunO.free VWant.always (OF.indexAddrR (row := (eStep false x1)) (i := i) (VEv.tmp (t := (T.sl false 4 (a.map (eStep false)))) rfl) (VEv.tmp (t := (T.int .i64 ((i : Nat) : Int))) rfl) rfl (map_at _ hx1) Try.underlying113 sz166 if166) ?_
        refine VRunO.look VWant.always (OL.loadRn (us := (eStep false x1)) (VEv.tmp (t := (T.rp [(T.int .i64 x1.Kind), (T.str x1.Word), (T.int .i64 x1.A), (T.int .i64 x1.B)])) rfl) st166 sz166 (Nat.le_of_ble_eq_true rfl) rfl) ?_
        refine VRunO.make VWant.always (B.alloc (t := (T.agg [(T.int .i64 0), (T.str ByteArray.empty), (T.int .i64 0), (T.int .i64 0)])) (ts := [(T.int .i64 0), (T.str ByteArray.empty), (T.int .i64 0), (T.int .i64 0)]) zo166 zc166 nofun (fun _ => .agg _ _ rfl (RLof (RL.cons (.int _ _) (RL.cons (.str _) (RL.cons (.int _ _) (RL.cons (.int _ _) (RL.nil _))))))) rfl) ?_
        refine VRunO.free VWant.always (OF.assign (VEv.tmp (t := (T.int .i64 ((i : Nat) : Int))) rfl)) ?_
        refine VRunO.chain VWant.always (B.storeO (us := [(T.int .i64 x1.Kind), (T.str x1.Word), (T.int .i64 x1.A), (T.int .i64 x1.B)]) (ws := [(T.int .i64 x1.Kind), (T.str x1.Word), (T.int .i64 x1.A), (T.int .i64 x1.B)]) (VEv.tmp (t := (T.op 0 0)) rfl) (VEv.tmp (t := (T.agg (eStep false x1))) rfl) nofun rfl rfl (Nat.le_of_ble_eq_true rfl) if166 sz166 (ball_cons rfl (ball_cons rfl (ball_cons rfl (ball_cons rfl (ball_nil))))) rfl) ?_
        refine VRunO.nil ?_
        refine vthn.n ?_
        refine VRun.seq ?_
        refine VRun.seq ?_
        refine VRun.region ?_
        refine VRunO.free VWant.always (OF.fieldAddrO (VEv.tmp (t := (T.op 0 0)) rfl) fa166_0) ?_
        refine VRunO.look VWant.always (OL.loadO1 (t := (T.int .i64 x1.Kind)) (VEv.tmp (t := (T.op 0 0)) rfl) rfl rfl st3) ?_
        refine VRunO.chain VWant.always (OC.callF (us := [(T.int .i64 x1.Kind), (T.int .i64 1), (T.int .i64 9)]) (r := (T.bool (decide (1 ≤ x1.Kind ∧ x1.Kind ≤ 9)))) (r' := (T.bool (decide (1 ≤ x1.Kind ∧ x1.Kind ≤ 9)))) (objs := []) rfl (VEvs.cons (VEv.tmp (t := (T.int .i64 x1.Kind)) rfl) (VEvs.cons (VEv.int .i64 1) (VEvs.cons (VEv.int .i64 9) VEvs.nil))) (LendL.cons (Lend.pl rfl) (LendL.cons (Lend.pl rfl) (LendL.cons (Lend.pl rfl) (LendL.nil)))) (W_impl_InRange (n + 1) x1.Kind 1 9 ) rfl) ?_
        refine VRunO.free VWant.always (B.not (c := (!(decide (1 ≤ x1.Kind ∧ x1.Kind ≤ 9)))) (VEv.tmp (t := (T.bool (decide (1 ≤ x1.Kind ∧ x1.Kind ≤ 9)))) rfl) rfl) ?_
        refine VRunO.nil ?_
        refine vthn.n ?_
        refine VRun.cond (VEv.tmp (t := (T.bool (!(decide (1 ≤ x1.Kind ∧ x1.Kind ≤ 9))))) rfl) (fun hc2 => ?_) (fun hc2 => ?_)
        · have fhc2 : ¬ (1 ≤ x1.Kind ∧ x1.Kind ≤ 9) := ndT hc2
          refine VRun.seq ?_
          refine VRun.region ?_
          refine VRunO.free VWant.always (OF.assign (VEv.bool false)) ?_
          refine VRunO.nil ?_
          refine vthn.n ?_
          refine VRun.ret ?_
          refine vthn.r ?_
          refine vinB.r ?_
          refine vthn.r ?_
          refine vthn.r ?_
          refine vinB.r ?_
          refine vthn.r ?_
          refine vfin.eq (r' := (T.bool false)) ?_ (vfin.r (VRes.tmp (t := (T.bool false)) rfl VRes.nil) (Give.bool _))
          show (T.bool false) = (T.bool (decide (isPlay a)))
          refine congrArg T.bool ?_
          first | (symm; rw [decide_eq_true_eq]; exact ⟨by omega, allEnd hI' fhc1⟩) | (symm; rw [decide_eq_false_iff_not]; rintro ⟨h1, h2⟩; first | (exfalso; omega) | (have h3 := (stepOk_iff hx1).1 (h2 i fhc1); obtain ⟨h4, h5, h6⟩ := h3; simp only [two] at h6; first | omega | contradiction | (by_cases hk : x1.Kind = 1 <;> simp_all <;> omega) | (simp_all [exAt hx2]; done) | (simp_all [exAt hx2]; omega)))
        · have fhc2 : 1 ≤ x1.Kind ∧ x1.Kind ≤ 9 := ndF hc2
          refine VRun.skip ?_
          refine vthn.n ?_
          refine VRun.seq ?_
          refine VRun.seq ?_
          refine VRun.region ?_
          refine VRunO.free VWant.always (OF.fieldAddrO (VEv.tmp (t := (T.op 0 0)) rfl) fa166_0) ?_
          refine VRunO.look VWant.always (OL.loadO1 (t := (T.int .i64 x1.Kind)) (VEv.tmp (t := (T.op 0 0)) rfl) rfl rfl st3) ?_
          refine VRunO.free VWant.always (B.eql (c := (decide (x1.Kind = 1))) (VEv.tmp (t := (T.int .i64 x1.Kind)) rfl) (VEv.int .i64 1) rfl) ?_
          refine VRunO.nil ?_
          refine vthn.n ?_
          refine VRun.cond (VEv.tmp (t := (T.bool (decide (x1.Kind = 1)))) rfl) (fun hc3 => ?_) (fun hc3 => ?_)
          · have fhc3 : x1.Kind = 1 := of_decide_eq_true hc3
            refine VRun.seq ?_
            refine VRun.seq ?_
            refine VRun.region ?_
            refine VRunO.free VWant.always (OF.fieldAddrO (VEv.tmp (t := (T.op 0 0)) rfl) fa166_1) ?_
            refine VRunO.look VWant.always (OL.loadO1 (t := (T.str x1.Word)) (VEv.tmp (t := (T.op 0 1)) rfl) rfl rfl st9) ?_
            refine VRunO.chain VWant.always (OC.callF (us := [(T.str x1.Word)]) (r := (T.bool (decide (isWord x1.Word)))) (r' := (T.bool (decide (isWord x1.Word)))) (objs := []) rfl (VEvs.cons (VEv.tmp (t := (T.str x1.Word)) rfl) VEvs.nil) (LendL.cons (Lend.pl rfl) (LendL.nil)) (W_impl_IsWord (n + 0) x1.Word (by first | exact hw _ (List.mem_of_getElem? hx1) | assumption | omega | (simp only [List.length_map]; omega) | (simp only [List.length_map, List.length_append, List.length_cons, List.length_nil, List.length_replicate, List.length_set, List.length_drop, List.length_take, lim] at *; omega))) rfl) ?_
            refine VRunO.free VWant.always (B.not (c := (!(decide (isWord x1.Word)))) (VEv.tmp (t := (T.bool (decide (isWord x1.Word)))) rfl) rfl) ?_
            refine VRunO.free VWant.always (OF.move (VEv.tmp (t := (T.bool (!(decide (isWord x1.Word))))) rfl)) ?_
            refine bool_way (!(decide (isWord x1.Word))) (fun hg27_1 => ?_) (fun hg27_1 => ?_)
            · have fhg27_1 : ¬ (isWord x1.Word) := ndT hg27_1
              refine VRunO.off (VWant.not (b := (!(decide (isWord x1.Word)))) rfl rfl hg27_1) ?_
              refine VRunO.off (VWant.not (b := (!(decide (isWord x1.Word)))) rfl rfl hg27_1) ?_
              refine VRunO.off (VWant.not (b := (!(decide (isWord x1.Word)))) rfl rfl hg27_1) ?_
              refine VRunO.free VWant.always (OF.pickT (VEv.tmpB (b := (!(decide (isWord x1.Word)))) rfl hg27_1) (VEv.bool true)) ?_
              refine VRunO.free VWant.always (OF.move (VEv.tmp (t := (T.bool true)) rfl)) ?_
              refine VRunO.off (VWant.not (b := true) rfl rfl rfl) ?_
              refine VRunO.off (VWant.not (b := true) rfl rfl rfl) ?_
              refine VRunO.off (VWant.not (b := true) rfl rfl rfl) ?_
              refine VRunO.free VWant.always (OF.pickT (VEv.tmp (t := (T.bool true)) rfl) (VEv.bool true)) ?_
              refine VRunO.nil ?_
              refine vthn.n ?_
              refine VRun.cond (VEv.tmp (t := (T.bool true)) rfl) (fun hk2 => ?_) (fun hk2 => ?_)
              · skip
                refine VRun.seq ?_
                refine VRun.region ?_
                refine VRunO.free VWant.always (OF.assign (VEv.bool false)) ?_
                refine VRunO.nil ?_
                refine vthn.n ?_
                refine VRun.ret ?_
                refine vthn.r ?_
                refine vthn.r ?_
                refine vinB.r ?_
                refine vthn.r ?_
                refine vthn.r ?_
                refine vinB.r ?_
                refine vthn.r ?_
                refine vfin.eq (r' := (T.bool false)) ?_ (vfin.r (VRes.tmp (t := (T.bool false)) rfl VRes.nil) (Give.bool _))
                show (T.bool false) = (T.bool (decide (isPlay a)))
                refine congrArg T.bool ?_
                first | (symm; rw [decide_eq_true_eq]; exact ⟨by omega, allEnd hI' fhc1⟩) | (symm; rw [decide_eq_false_iff_not]; rintro ⟨h1, h2⟩; first | (exfalso; omega) | (have h3 := (stepOk_iff hx1).1 (h2 i fhc1); obtain ⟨h4, h5, h6⟩ := h3; simp only [two] at h6; first | omega | contradiction | (by_cases hk : x1.Kind = 1 <;> simp_all <;> omega) | (simp_all [exAt hx2]; done) | (simp_all [exAt hx2]; omega)))
              · exact absurd (rfl.symm.trans hk2) (by decide)
            · have fhg27_1 : isWord x1.Word := ndF hg27_1
              refine VRunO.free (VWant.on (b := (!(decide (isWord x1.Word)))) rfl rfl hg27_1) (OF.fieldAddrO (VEv.tmp (t := (T.op 0 0)) rfl) fa166_2) ?_
              refine VRunO.look (VWant.on (b := (!(decide (isWord x1.Word)))) rfl rfl hg27_1) (OL.loadO1 (t := (T.int .i64 x1.A)) (VEv.tmp (t := (T.op 0 2)) rfl) rfl rfl st3) ?_
              refine VRunO.free (VWant.on (b := (!(decide (isWord x1.Word)))) rfl rfl hg27_1) (B.neq (c := (!(decide (x1.A = 0)))) (VEv.tmp (t := (T.int .i64 x1.A)) rfl) (VEv.int .i64 0) rfl) ?_
              refine VRunO.free VWant.always (OF.pickF (VEv.tmpB (b := (!(decide (isWord x1.Word)))) rfl hg27_1) (VEv.tmp (t := (T.bool (!(decide (x1.A = 0))))) rfl)) ?_
              refine VRunO.free VWant.always (OF.move (VEv.tmp (t := (T.bool (!(decide (x1.A = 0))))) rfl)) ?_
              refine bool_way (!(decide (x1.A = 0))) (fun hg32_3 => ?_) (fun hg32_3 => ?_)
              · have fhg32_3 : ¬ (x1.A = 0) := ndT hg32_3
                refine VRunO.off (VWant.not (b := (!(decide (x1.A = 0)))) rfl rfl hg32_3) ?_
                refine VRunO.off (VWant.not (b := (!(decide (x1.A = 0)))) rfl rfl hg32_3) ?_
                refine VRunO.off (VWant.not (b := (!(decide (x1.A = 0)))) rfl rfl hg32_3) ?_
                refine VRunO.free VWant.always (OF.pickT (VEv.tmpB (b := (!(decide (x1.A = 0)))) rfl hg32_3) (VEv.bool true)) ?_
                refine VRunO.nil ?_
                refine vthn.n ?_
                refine VRun.cond (VEv.tmp (t := (T.bool true)) rfl) (fun hk4 => ?_) (fun hk4 => ?_)
                · skip
                  refine VRun.seq ?_
                  refine VRun.region ?_
                  refine VRunO.free VWant.always (OF.assign (VEv.bool false)) ?_
                  refine VRunO.nil ?_
                  refine vthn.n ?_
                  refine VRun.ret ?_
                  refine vthn.r ?_
                  refine vthn.r ?_
                  refine vinB.r ?_
                  refine vthn.r ?_
                  refine vthn.r ?_
                  refine vinB.r ?_
                  refine vthn.r ?_
                  refine vfin.eq (r' := (T.bool false)) ?_ (vfin.r (VRes.tmp (t := (T.bool false)) rfl VRes.nil) (Give.bool _))
                  show (T.bool false) = (T.bool (decide (isPlay a)))
                  refine congrArg T.bool ?_
                  first | (symm; rw [decide_eq_true_eq]; exact ⟨by omega, allEnd hI' fhc1⟩) | (symm; rw [decide_eq_false_iff_not]; rintro ⟨h1, h2⟩; first | (exfalso; omega) | (have h3 := (stepOk_iff hx1).1 (h2 i fhc1); obtain ⟨h4, h5, h6⟩ := h3; simp only [two] at h6; first | omega | contradiction | (by_cases hk : x1.Kind = 1 <;> simp_all <;> omega) | (simp_all [exAt hx2]; done) | (simp_all [exAt hx2]; omega)))
                · exact absurd (rfl.symm.trans hk4) (by decide)
              · have fhg32_3 : x1.A = 0 := ndF hg32_3
                refine VRunO.free (VWant.on (b := (!(decide (x1.A = 0)))) rfl rfl hg32_3) (OF.fieldAddrO (VEv.tmp (t := (T.op 0 0)) rfl) fa166_3) ?_
                refine VRunO.look (VWant.on (b := (!(decide (x1.A = 0)))) rfl rfl hg32_3) (OL.loadO1 (t := (T.int .i64 x1.B)) (VEv.tmp (t := (T.op 0 3)) rfl) rfl rfl st3) ?_
                refine VRunO.free (VWant.on (b := (!(decide (x1.A = 0)))) rfl rfl hg32_3) (B.neq (c := (!(decide (x1.B = 0)))) (VEv.tmp (t := (T.int .i64 x1.B)) rfl) (VEv.int .i64 0) rfl) ?_
                refine VRunO.free VWant.always (OF.pickF (VEv.tmpB (b := (!(decide (x1.A = 0)))) rfl hg32_3) (VEv.tmp (t := (T.bool (!(decide (x1.B = 0))))) rfl)) ?_
                refine VRunO.nil ?_
                refine vthn.n ?_
                refine VRun.cond (VEv.tmp (t := (T.bool (!(decide (x1.B = 0))))) rfl) (fun hc4 => ?_) (fun hc4 => ?_)
                · have fhc4 : ¬ (x1.B = 0) := ndT hc4
                  refine VRun.seq ?_
                  refine VRun.region ?_
                  refine VRunO.free VWant.always (OF.assign (VEv.bool false)) ?_
                  refine VRunO.nil ?_
                  refine vthn.n ?_
                  refine VRun.ret ?_
                  refine vthn.r ?_
                  refine vthn.r ?_
                  refine vinB.r ?_
                  refine vthn.r ?_
                  refine vthn.r ?_
                  refine vinB.r ?_
                  refine vthn.r ?_
                  refine vfin.eq (r' := (T.bool false)) ?_ (vfin.r (VRes.tmp (t := (T.bool false)) rfl VRes.nil) (Give.bool _))
                  show (T.bool false) = (T.bool (decide (isPlay a)))
                  refine congrArg T.bool ?_
                  first | (symm; rw [decide_eq_true_eq]; exact ⟨by omega, allEnd hI' fhc1⟩) | (symm; rw [decide_eq_false_iff_not]; rintro ⟨h1, h2⟩; first | (exfalso; omega) | (have h3 := (stepOk_iff hx1).1 (h2 i fhc1); obtain ⟨h4, h5, h6⟩ := h3; simp only [two] at h6; first | omega | contradiction | (by_cases hk : x1.Kind = 1 <;> simp_all <;> omega) | (simp_all [exAt hx2]; done) | (simp_all [exAt hx2]; omega)))
                · have fhc4 : x1.B = 0 := ndF hc4
                  refine VRun.skip ?_
                  refine vthn.n ?_
                  refine VRun.exit ?_
                  refine vthn.e ?_
                  refine vinB.e ?_
                  refine vthn.n ?_
                  refine VRun.region ?_
                  refine VRunO.free VWant.always (B.add (n := (((i + 1) : Nat) : Int)) (VEv.tmp (t := (T.int .i64 ((i : Nat) : Int))) rfl) (VEv.int .i64 1) (by first | exact hw _ (List.mem_of_getElem? hx1) | rfl | (rw [wrap64 (by omega)]; done) | (rw [wrap64 (by omega)]; omega) | (rw [wrap64 (by omega)]; push_cast; omega) | omega)) ?_
                  refine VRunO.free VWant.always (OF.move (VEv.tmp (t := (T.int .i64 (((i + 1) : Nat) : Int))) rfl)) ?_
                  refine VRunO.nil ?_
                  refine vthn.n ?_
                  refine ⟨(i + 1 : Nat), ?_, ?_, Wk.mk (fun k => k) ?_ ?_ ?_⟩
                  · refine allNext hI0 fhc1 ((stepOk_iff hx1).2 ?_)
                    simp only [stepP, two]
                    refine ⟨by omega, fun hk => ?_, fun hk => ?_⟩
                    · first | (exfalso; omega) | (refine ⟨?_, ?_, ?_⟩ <;> first | assumption | omega)
                    · first | (exfalso; omega) | (refine ⟨?_, ?_, fun h => ?_, fun h => ?_, fun h1 h2 => ?_⟩ <;> first | assumption | omega | (refine ⟨x2, hx2, ?_⟩; omega))
                  · first | omega | (simp only []; omega) | (show _ < _; omega) | (simp; omega)
                  · exact (ball_cons ⟨rfl, rfl⟩ (ball_cons ⟨rfl, rfl⟩ (ball_cons ⟨rfl, rfl⟩ (ball_cons ⟨rfl, rfl⟩ (ball_nil)))))
                  · exact (ball_nil)
                  · show List.Nodup ([] : List Nat)
                    decide
          · have fhc3 : ¬ (x1.Kind = 1) := of_decide_eq_false hc3
            refine VRun.skip ?_
            refine vthn.n ?_
            refine VRun.seq ?_
            refine VRun.seq ?_
            refine VRun.region ?_
            refine VRunO.free VWant.always (OF.fieldAddrO (VEv.tmp (t := (T.op 0 0)) rfl) fa166_1) ?_
            refine VRunO.look VWant.always (OL.loadO1 (t := (T.str x1.Word)) (VEv.tmp (t := (T.op 0 1)) rfl) rfl rfl st9) ?_
            refine VRunO.free VWant.always (B.sneq (c := (!(decide (x1.Word = (⟨#[]⟩ : ByteArray))))) (VEv.tmp (t := (T.str x1.Word)) rfl) (VEv.str (⟨#[]⟩ : ByteArray)) rfl) ?_
            refine VRunO.free VWant.always (OF.move (VEv.tmp (t := (T.bool (!(decide (x1.Word = (⟨#[]⟩ : ByteArray)))))) rfl)) ?_
            refine bool_way (!(decide (x1.Word = (⟨#[]⟩ : ByteArray)))) (fun hg40_5 => ?_) (fun hg40_5 => ?_)
            · have fhg40_5 : ¬ (x1.Word = (⟨#[]⟩ : ByteArray)) := ndT hg40_5
              refine VRunO.off (VWant.not (b := (!(decide (x1.Word = (⟨#[]⟩ : ByteArray))))) rfl rfl hg40_5) ?_
              refine VRunO.off (VWant.not (b := (!(decide (x1.Word = (⟨#[]⟩ : ByteArray))))) rfl rfl hg40_5) ?_
              refine VRunO.off (VWant.not (b := (!(decide (x1.Word = (⟨#[]⟩ : ByteArray))))) rfl rfl hg40_5) ?_
              refine VRunO.off (VWant.not (b := (!(decide (x1.Word = (⟨#[]⟩ : ByteArray))))) rfl rfl hg40_5) ?_
              refine VRunO.off (VWant.not (b := (!(decide (x1.Word = (⟨#[]⟩ : ByteArray))))) rfl rfl hg40_5) ?_
              refine VRunO.free VWant.always (OF.pickT (VEv.tmpB (b := (!(decide (x1.Word = (⟨#[]⟩ : ByteArray))))) rfl hg40_5) (VEv.bool true)) ?_
              refine VRunO.free VWant.always (OF.move (VEv.tmp (t := (T.bool true)) rfl)) ?_
              refine VRunO.off (VWant.not (b := true) rfl rfl rfl) ?_
              refine VRunO.off (VWant.not (b := true) rfl rfl rfl) ?_
              refine VRunO.off (VWant.not (b := true) rfl rfl rfl) ?_
              refine VRunO.off (VWant.not (b := true) rfl rfl rfl) ?_
              refine VRunO.off (VWant.undef rfl rfl) ?_
              refine VRunO.off (VWant.undef rfl rfl) ?_
              refine VRunO.off (VWant.undef rfl rfl) ?_
              refine VRunO.off (VWant.undef rfl rfl) ?_
              refine VRunO.off (VWant.undef rfl rfl) ?_
              refine VRunO.off (VWant.undef rfl rfl) ?_
              refine VRunO.off (VWant.undef rfl rfl) ?_
              refine VRunO.off (VWant.not (b := true) rfl rfl rfl) ?_
              refine VRunO.free VWant.always (OF.pickT (VEv.tmp (t := (T.bool true)) rfl) (VEv.bool true)) ?_
              refine VRunO.nil ?_
              refine vthn.n ?_
              refine VRun.cond (VEv.tmp (t := (T.bool true)) rfl) (fun hk6 => ?_) (fun hk6 => ?_)
              · skip
                refine VRun.seq ?_
                refine VRun.region ?_
                refine VRunO.free VWant.always (OF.assign (VEv.bool false)) ?_
                refine VRunO.nil ?_
                refine vthn.n ?_
                refine VRun.ret ?_
                refine vthn.r ?_
                refine vinB.r ?_
                refine vthn.r ?_
                refine vthn.r ?_
                refine vinB.r ?_
                refine vthn.r ?_
                refine vfin.eq (r' := (T.bool false)) ?_ (vfin.r (VRes.tmp (t := (T.bool false)) rfl VRes.nil) (Give.bool _))
                show (T.bool false) = (T.bool (decide (isPlay a)))
                refine congrArg T.bool ?_
                first | (symm; rw [decide_eq_true_eq]; exact ⟨by omega, allEnd hI' fhc1⟩) | (symm; rw [decide_eq_false_iff_not]; rintro ⟨h1, h2⟩; first | (exfalso; omega) | (have h3 := (stepOk_iff hx1).1 (h2 i fhc1); obtain ⟨h4, h5, h6⟩ := h3; simp only [two] at h6; first | omega | contradiction | (by_cases hk : x1.Kind = 1 <;> simp_all <;> omega) | (simp_all [exAt hx2]; done) | (simp_all [exAt hx2]; omega)))
              · exact absurd (rfl.symm.trans hk6) (by decide)
            · have fhg40_5 : x1.Word = (⟨#[]⟩ : ByteArray) := ndF hg40_5
              refine VRunO.free (VWant.on (b := (!(decide (x1.Word = (⟨#[]⟩ : ByteArray))))) rfl rfl hg40_5) (OF.fieldAddrO (VEv.tmp (t := (T.op 0 0)) rfl) fa166_2) ?_
              refine VRunO.look (VWant.on (b := (!(decide (x1.Word = (⟨#[]⟩ : ByteArray))))) rfl rfl hg40_5) (OL.loadO1 (t := (T.int .i64 x1.A)) (VEv.tmp (t := (T.op 0 2)) rfl) rfl rfl st3) ?_
              refine VRunO.free (VWant.on (b := (!(decide (x1.Word = (⟨#[]⟩ : ByteArray))))) rfl rfl hg40_5) (OF.move (VEv.tmp (t := (T.int .i64 ((i : Nat) : Int))) rfl)) ?_
              refine VRunO.chain (VWant.on (b := (!(decide (x1.Word = (⟨#[]⟩ : ByteArray))))) rfl rfl hg40_5) (OC.callF (us := [(T.int .i64 x1.A), (T.int .i64 ((i : Nat) : Int))]) (r := (T.bool (decide (0 ≤ x1.A ∧ x1.A < ((i : Nat) : Int))))) (r' := (T.bool (decide (0 ≤ x1.A ∧ x1.A < ((i : Nat) : Int))))) (objs := []) rfl (VEvs.cons (VEv.tmp (t := (T.int .i64 x1.A)) rfl) (VEvs.cons (VEv.tmp (t := (T.int .i64 ((i : Nat) : Int))) rfl) VEvs.nil)) (LendL.cons (Lend.pl rfl) (LendL.cons (Lend.pl rfl) (LendL.nil))) (W_impl_at (n + 1) x1.A ((i : Nat) : Int) ) rfl) ?_
              refine VRunO.free (VWant.on (b := (!(decide (x1.Word = (⟨#[]⟩ : ByteArray))))) rfl rfl hg40_5) (B.not (c := (!(decide (0 ≤ x1.A ∧ x1.A < ((i : Nat) : Int))))) (VEv.tmp (t := (T.bool (decide (0 ≤ x1.A ∧ x1.A < ((i : Nat) : Int))))) rfl) rfl) ?_
              refine VRunO.free VWant.always (OF.pickF (VEv.tmpB (b := (!(decide (x1.Word = (⟨#[]⟩ : ByteArray))))) rfl hg40_5) (VEv.tmp (t := (T.bool (!(decide (0 ≤ x1.A ∧ x1.A < ((i : Nat) : Int)))))) rfl)) ?_
              refine VRunO.free VWant.always (OF.move (VEv.tmp (t := (T.bool (!(decide (0 ≤ x1.A ∧ x1.A < ((i : Nat) : Int)))))) rfl)) ?_
              refine bool_way (!(decide (0 ≤ x1.A ∧ x1.A < ((i : Nat) : Int)))) (fun hg47_7 => ?_) (fun hg47_7 => ?_)
              · have fhg47_7 : ¬ (0 ≤ x1.A ∧ x1.A < ((i : Nat) : Int)) := ndT hg47_7
                refine VRunO.off (VWant.not (b := (!(decide (0 ≤ x1.A ∧ x1.A < ((i : Nat) : Int))))) rfl rfl hg47_7) ?_
                refine VRunO.off (VWant.not (b := (!(decide (0 ≤ x1.A ∧ x1.A < ((i : Nat) : Int))))) rfl rfl hg47_7) ?_
                refine VRunO.off (VWant.not (b := (!(decide (0 ≤ x1.A ∧ x1.A < ((i : Nat) : Int))))) rfl rfl hg47_7) ?_
                refine VRunO.off (VWant.not (b := (!(decide (0 ≤ x1.A ∧ x1.A < ((i : Nat) : Int))))) rfl rfl hg47_7) ?_
                refine VRunO.off (VWant.undef rfl rfl) ?_
                refine VRunO.off (VWant.undef rfl rfl) ?_
                refine VRunO.off (VWant.undef rfl rfl) ?_
                refine VRunO.off (VWant.undef rfl rfl) ?_
                refine VRunO.off (VWant.undef rfl rfl) ?_
                refine VRunO.off (VWant.undef rfl rfl) ?_
                refine VRunO.off (VWant.undef rfl rfl) ?_
                refine VRunO.off (VWant.not (b := (!(decide (0 ≤ x1.A ∧ x1.A < ((i : Nat) : Int))))) rfl rfl hg47_7) ?_
                refine VRunO.free VWant.always (OF.pickT (VEv.tmpB (b := (!(decide (0 ≤ x1.A ∧ x1.A < ((i : Nat) : Int))))) rfl hg47_7) (VEv.bool true)) ?_
                refine VRunO.nil ?_
                refine vthn.n ?_
                refine VRun.cond (VEv.tmp (t := (T.bool true)) rfl) (fun hk8 => ?_) (fun hk8 => ?_)
                · skip
                  refine VRun.seq ?_
                  refine VRun.region ?_
                  refine VRunO.free VWant.always (OF.assign (VEv.bool false)) ?_
                  refine VRunO.nil ?_
                  refine vthn.n ?_
                  refine VRun.ret ?_
                  refine vthn.r ?_
                  refine vinB.r ?_
                  refine vthn.r ?_
                  refine vthn.r ?_
                  refine vinB.r ?_
                  refine vthn.r ?_
                  refine vfin.eq (r' := (T.bool false)) ?_ (vfin.r (VRes.tmp (t := (T.bool false)) rfl VRes.nil) (Give.bool _))
                  show (T.bool false) = (T.bool (decide (isPlay a)))
                  refine congrArg T.bool ?_
                  first | (symm; rw [decide_eq_true_eq]; exact ⟨by omega, allEnd hI' fhc1⟩) | (symm; rw [decide_eq_false_iff_not]; rintro ⟨h1, h2⟩; first | (exfalso; omega) | (have h3 := (stepOk_iff hx1).1 (h2 i fhc1); obtain ⟨h4, h5, h6⟩ := h3; simp only [two] at h6; first | omega | contradiction | (by_cases hk : x1.Kind = 1 <;> simp_all <;> omega) | (simp_all [exAt hx2]; done) | (simp_all [exAt hx2]; omega)))
                · exact absurd (rfl.symm.trans hk8) (by decide)
              · have fhg47_7 : 0 ≤ x1.A ∧ x1.A < ((i : Nat) : Int) := ndF hg47_7
                refine VRunO.free (VWant.on (b := (!(decide (0 ≤ x1.A ∧ x1.A < ((i : Nat) : Int))))) rfl rfl hg47_7) (OF.fieldAddrO (VEv.tmp (t := (T.op 0 0)) rfl) fa166_0) ?_
                refine VRunO.look (VWant.on (b := (!(decide (0 ≤ x1.A ∧ x1.A < ((i : Nat) : Int))))) rfl rfl hg47_7) (OL.loadO1 (t := (T.int .i64 x1.Kind)) (VEv.tmp (t := (T.op 0 0)) rfl) rfl rfl st3) ?_
                refine VRunO.chain (VWant.on (b := (!(decide (0 ≤ x1.A ∧ x1.A < ((i : Nat) : Int))))) rfl rfl hg47_7) (OC.callF (us := [(T.int .i64 x1.Kind)]) (r := (T.bool (decide (x1.Kind = 3 ∨ 6 ≤ x1.Kind)))) (r' := (T.bool (decide (x1.Kind = 3 ∨ 6 ≤ x1.Kind)))) (objs := []) rfl (VEvs.cons (VEv.tmp (t := (T.int .i64 x1.Kind)) rfl) VEvs.nil) (LendL.cons (Lend.pl rfl) (LendL.nil)) (W_impl_needsWord (n + 1) x1.Kind ) rfl) ?_
                refine VRunO.free (VWant.on (b := (!(decide (0 ≤ x1.A ∧ x1.A < ((i : Nat) : Int))))) rfl rfl hg47_7) (OF.move (VEv.tmp (t := (T.bool (decide (x1.Kind = 3 ∨ 6 ≤ x1.Kind)))) rfl)) ?_
                refine bool_way (decide (x1.Kind = 3 ∨ 6 ≤ x1.Kind)) (fun hg51_9 => ?_) (fun hg51_9 => ?_)
                · have fhg51_9 : x1.Kind = 3 ∨ 6 ≤ x1.Kind := of_decide_eq_true hg51_9
                  refine VRunO.free (VWant.on (b := (decide (x1.Kind = 3 ∨ 6 ≤ x1.Kind))) rfl rfl hg51_9) (OF.move (VEv.tmp (t := (T.sl false 4 (a.map (eStep false)))) rfl)) ?_
                  refine VRunO.free (VWant.on (b := (decide (x1.Kind = 3 ∨ 6 ≤ x1.Kind))) rfl rfl hg51_9) (OF.fieldAddrO (VEv.tmp (t := (T.op 0 0)) rfl) fa166_2) ?_
                  refine VRunO.look (VWant.on (b := (decide (x1.Kind = 3 ∨ 6 ≤ x1.Kind))) rfl rfl hg51_9) (OL.loadO1 (t := (T.int .i64 x1.A)) (VEv.tmp (t := (T.op 0 2)) rfl) rfl rfl st3) ?_
                  obtain ⟨x2, hx2⟩ : ∃ x, a[(Int.toNat x1.A)]? = some x := ⟨_, List.getElem?_eq_getElem (by first | exact hw _ (List.mem_of_getElem? hx1) | omega | (simp only [List.length_map]; omega) | (simp only [List.length_map, List.length_append, List.length_cons, List.length_nil, List.length_replicate, List.length_set, List.length_drop, List.length_take, lim] at *; omega))⟩
                  refine VRunO.free (VWant.on (b := (decide (x1.Kind = 3 ∨ 6 ≤ x1.Kind))) rfl rfl hg51_9) (OF.indexAddrR (row := (eStep false x2)) (i := (Int.toNat x1.A)) (VEv.tmp (t := (T.sl false 4 (a.map (eStep false)))) rfl) (VEv.tmp (t := (T.int .i64 x1.A)) rfl) (by omega) (map_at _ hx2) Try.underlying113 sz166 if166) ?_
                  refine VRunO.free (VWant.on (b := (decide (x1.Kind = 3 ∨ 6 ≤ x1.Kind))) rfl rfl hg51_9) (B.fieldAddrR (us := [(T.int .i64 x2.Kind), (T.str x2.Word), (T.int .i64 x2.A), (T.int .i64 x2.B)]) (VEv.tmp (t := (T.rp [(T.int .i64 x2.Kind), (T.str x2.Word), (T.int .i64 x2.A), (T.int .i64 x2.B)])) rfl) (Nat.le_of_ble_eq_true rfl) fa166_0 rfl) ?_
                  refine VRunO.look (VWant.on (b := (decide (x1.Kind = 3 ∨ 6 ≤ x1.Kind))) rfl rfl hg51_9) (OL.loadR1 (t := (T.int .i64 x2.Kind)) (VEv.tmp (t := (T.rp [(T.int .i64 x2.Kind), (T.str x2.Word), (T.int .i64 x2.A), (T.int .i64 x2.B)])) rfl) rfl st3) ?_
                  refine VRunO.free (VWant.on (b := (decide (x1.Kind = 3 ∨ 6 ≤ x1.Kind))) rfl rfl hg51_9) (B.neq (c := (!(decide (x2.Kind = 1)))) (VEv.tmp (t := (T.int .i64 x2.Kind)) rfl) (VEv.int .i64 1) rfl) ?_
                  refine VRunO.free (VWant.on (b := (!(decide (0 ≤ x1.A ∧ x1.A < ((i : Nat) : Int))))) rfl rfl hg47_7) (OF.pickT (VEv.tmpB (b := (decide (x1.Kind = 3 ∨ 6 ≤ x1.Kind))) rfl hg51_9) (VEv.tmp (t := (T.bool (!(decide (x2.Kind = 1))))) rfl)) ?_
                  refine VRunO.free VWant.always (OF.pickF (VEv.tmpB (b := (!(decide (0 ≤ x1.A ∧ x1.A < ((i : Nat) : Int))))) rfl hg47_7) (VEv.tmp (t := (T.bool (!(decide (x2.Kind = 1))))) rfl)) ?_
                  refine VRunO.nil ?_
                  refine vthn.n ?_
                  refine VRun.cond (VEv.tmp (t := (T.bool (!(decide (x2.Kind = 1))))) rfl) (fun hc5 => ?_) (fun hc5 => ?_)
                  · have fhc5 : ¬ (x2.Kind = 1) := ndT hc5
                    refine VRun.seq ?_
                    refine VRun.region ?_
                    refine VRunO.free VWant.always (OF.assign (VEv.bool false)) ?_
                    refine VRunO.nil ?_
                    refine vthn.n ?_
                    refine VRun.ret ?_
                    refine vthn.r ?_
                    refine vinB.r ?_
                    refine vthn.r ?_
                    refine vthn.r ?_
                    refine vinB.r ?_
                    refine vthn.r ?_
                    refine vfin.eq (r' := (T.bool false)) ?_ (vfin.r (VRes.tmp (t := (T.bool false)) rfl VRes.nil) (Give.bool _))
                    show (T.bool false) = (T.bool (decide (isPlay a)))
                    refine congrArg T.bool ?_
                    first | (symm; rw [decide_eq_true_eq]; exact ⟨by omega, allEnd hI' fhc1⟩) | (symm; rw [decide_eq_false_iff_not]; rintro ⟨h1, h2⟩; first | (exfalso; omega) | (have h3 := (stepOk_iff hx1).1 (h2 i fhc1); obtain ⟨h4, h5, h6⟩ := h3; simp only [two] at h6; first | omega | contradiction | (by_cases hk : x1.Kind = 1 <;> simp_all <;> omega) | (simp_all [exAt hx2]; done) | (simp_all [exAt hx2]; omega)))
                  · have fhc5 : x2.Kind = 1 := ndF hc5
                    refine VRun.skip ?_
                    refine vthn.n ?_
                    refine VRun.seq ?_
                    refine VRun.region ?_
                    refine VRunO.free VWant.always (OF.fieldAddrO (VEv.tmp (t := (T.op 0 0)) rfl) fa166_0) ?_
                    refine VRunO.look VWant.always (OL.loadO1 (t := (T.int .i64 x1.Kind)) (VEv.tmp (t := (T.op 0 0)) rfl) rfl rfl st3) ?_
                    refine VRunO.chain VWant.always (OC.callF (us := [(T.int .i64 x1.Kind)]) (r := (T.bool (decide (x1.Kind = 4 ∨ x1.Kind = 5)))) (r' := (T.bool (decide (x1.Kind = 4 ∨ x1.Kind = 5)))) (objs := []) rfl (VEvs.cons (VEv.tmp (t := (T.int .i64 x1.Kind)) rfl) VEvs.nil) (LendL.cons (Lend.pl rfl) (LendL.nil)) (W_impl_isPair (n + 1) x1.Kind ) rfl) ?_
                    refine VRunO.free VWant.always (OF.move (VEv.tmp (t := (T.bool (decide (x1.Kind = 4 ∨ x1.Kind = 5)))) rfl)) ?_
                    refine bool_way (decide (x1.Kind = 4 ∨ x1.Kind = 5)) (fun hg64_10 => ?_) (fun hg64_10 => ?_)
                    · have fhg64_10 : x1.Kind = 4 ∨ x1.Kind = 5 := of_decide_eq_true hg64_10
                      refine VRunO.free (VWant.on (b := (decide (x1.Kind = 4 ∨ x1.Kind = 5))) rfl rfl hg64_10) (OF.fieldAddrO (VEv.tmp (t := (T.op 0 0)) rfl) fa166_3) ?_
                      refine VRunO.look (VWant.on (b := (decide (x1.Kind = 4 ∨ x1.Kind = 5))) rfl rfl hg64_10) (OL.loadO1 (t := (T.int .i64 x1.B)) (VEv.tmp (t := (T.op 0 3)) rfl) rfl rfl st3) ?_
                      refine VRunO.free (VWant.on (b := (decide (x1.Kind = 4 ∨ x1.Kind = 5))) rfl rfl hg64_10) (OF.move (VEv.tmp (t := (T.int .i64 ((i : Nat) : Int))) rfl)) ?_
                      refine VRunO.chain (VWant.on (b := (decide (x1.Kind = 4 ∨ x1.Kind = 5))) rfl rfl hg64_10) (OC.callF (us := [(T.int .i64 x1.B), (T.int .i64 ((i : Nat) : Int))]) (r := (T.bool (decide (0 ≤ x1.B ∧ x1.B < ((i : Nat) : Int))))) (r' := (T.bool (decide (0 ≤ x1.B ∧ x1.B < ((i : Nat) : Int))))) (objs := []) rfl (VEvs.cons (VEv.tmp (t := (T.int .i64 x1.B)) rfl) (VEvs.cons (VEv.tmp (t := (T.int .i64 ((i : Nat) : Int))) rfl) VEvs.nil)) (LendL.cons (Lend.pl rfl) (LendL.cons (Lend.pl rfl) (LendL.nil))) (W_impl_at (n + 1) x1.B ((i : Nat) : Int) ) rfl) ?_
                      refine VRunO.free (VWant.on (b := (decide (x1.Kind = 4 ∨ x1.Kind = 5))) rfl rfl hg64_10) (B.not (c := (!(decide (0 ≤ x1.B ∧ x1.B < ((i : Nat) : Int))))) (VEv.tmp (t := (T.bool (decide (0 ≤ x1.B ∧ x1.B < ((i : Nat) : Int))))) rfl) rfl) ?_
                      refine VRunO.free VWant.always (OF.pickT (VEv.tmpB (b := (decide (x1.Kind = 4 ∨ x1.Kind = 5))) rfl hg64_10) (VEv.tmp (t := (T.bool (!(decide (0 ≤ x1.B ∧ x1.B < ((i : Nat) : Int)))))) rfl)) ?_
                      refine VRunO.free VWant.always (OF.move (VEv.tmp (t := (T.bool (!(decide (0 ≤ x1.B ∧ x1.B < ((i : Nat) : Int)))))) rfl)) ?_
                      refine bool_way (!(decide (0 ≤ x1.B ∧ x1.B < ((i : Nat) : Int)))) (fun hg71_11 => ?_) (fun hg71_11 => ?_)
                      · have fhg71_11 : ¬ (0 ≤ x1.B ∧ x1.B < ((i : Nat) : Int)) := ndT hg71_11
                        refine VRunO.off (VWant.not (b := (!(decide (0 ≤ x1.B ∧ x1.B < ((i : Nat) : Int))))) rfl rfl hg71_11) ?_
                        refine VRunO.off (VWant.not (b := (!(decide (0 ≤ x1.B ∧ x1.B < ((i : Nat) : Int))))) rfl rfl hg71_11) ?_
                        refine VRunO.off (VWant.not (b := (!(decide (0 ≤ x1.B ∧ x1.B < ((i : Nat) : Int))))) rfl rfl hg71_11) ?_
                        refine VRunO.off (VWant.not (b := (!(decide (0 ≤ x1.B ∧ x1.B < ((i : Nat) : Int))))) rfl rfl hg71_11) ?_
                        refine VRunO.off (VWant.not (b := (!(decide (0 ≤ x1.B ∧ x1.B < ((i : Nat) : Int))))) rfl rfl hg71_11) ?_
                        refine VRunO.off (VWant.undef rfl rfl) ?_
                        refine VRunO.off (VWant.undef rfl rfl) ?_
                        refine VRunO.off (VWant.undef rfl rfl) ?_
                        refine VRunO.off (VWant.not (b := (!(decide (0 ≤ x1.B ∧ x1.B < ((i : Nat) : Int))))) rfl rfl hg71_11) ?_
                        refine VRunO.free VWant.always (OF.pickT (VEv.tmpB (b := (!(decide (0 ≤ x1.B ∧ x1.B < ((i : Nat) : Int))))) rfl hg71_11) (VEv.bool true)) ?_
                        refine VRunO.nil ?_
                        refine vthn.n ?_
                        refine VRun.cond (VEv.tmp (t := (T.bool true)) rfl) (fun hk12 => ?_) (fun hk12 => ?_)
                        · skip
                          refine VRun.seq ?_
                          refine VRun.region ?_
                          refine VRunO.free VWant.always (OF.assign (VEv.bool false)) ?_
                          refine VRunO.nil ?_
                          refine vthn.n ?_
                          refine VRun.ret ?_
                          refine vinB.r ?_
                          refine vthn.r ?_
                          refine vthn.r ?_
                          refine vinB.r ?_
                          refine vthn.r ?_
                          refine vfin.eq (r' := (T.bool false)) ?_ (vfin.r (VRes.tmp (t := (T.bool false)) rfl VRes.nil) (Give.bool _))
                          show (T.bool false) = (T.bool (decide (isPlay a)))
                          refine congrArg T.bool ?_
                          first | (symm; rw [decide_eq_true_eq]; exact ⟨by omega, allEnd hI' fhc1⟩) | (symm; rw [decide_eq_false_iff_not]; rintro ⟨h1, h2⟩; first | (exfalso; omega) | (have h3 := (stepOk_iff hx1).1 (h2 i fhc1); obtain ⟨h4, h5, h6⟩ := h3; simp only [two] at h6; first | omega | contradiction | (by_cases hk : x1.Kind = 1 <;> simp_all <;> omega) | (simp_all [exAt hx2]; done) | (simp_all [exAt hx2]; omega)))
                        · exact absurd (rfl.symm.trans hk12) (by decide)
                      · have fhg71_11 : 0 ≤ x1.B ∧ x1.B < ((i : Nat) : Int) := ndF hg71_11
                        refine VRunO.free (VWant.on (b := (!(decide (0 ≤ x1.B ∧ x1.B < ((i : Nat) : Int))))) rfl rfl hg71_11) (OF.fieldAddrO (VEv.tmp (t := (T.op 0 0)) rfl) fa166_0) ?_
                        refine VRunO.look (VWant.on (b := (!(decide (0 ≤ x1.B ∧ x1.B < ((i : Nat) : Int))))) rfl rfl hg71_11) (OL.loadO1 (t := (T.int .i64 x1.Kind)) (VEv.tmp (t := (T.op 0 0)) rfl) rfl rfl st3) ?_
                        refine VRunO.chain (VWant.on (b := (!(decide (0 ≤ x1.B ∧ x1.B < ((i : Nat) : Int))))) rfl rfl hg71_11) (OC.callF (us := [(T.int .i64 x1.Kind)]) (r := (T.bool (decide (x1.Kind = 4 ∨ x1.Kind = 5)))) (r' := (T.bool (decide (x1.Kind = 4 ∨ x1.Kind = 5)))) (objs := []) rfl (VEvs.cons (VEv.tmp (t := (T.int .i64 x1.Kind)) rfl) VEvs.nil) (LendL.cons (Lend.pl rfl) (LendL.nil)) (W_impl_isPair (n + 1) x1.Kind ) rfl) ?_
                        refine VRunO.free (VWant.on (b := (!(decide (0 ≤ x1.B ∧ x1.B < ((i : Nat) : Int))))) rfl rfl hg71_11) (B.not (c := (!(decide (x1.Kind = 4 ∨ x1.Kind = 5)))) (VEv.tmp (t := (T.bool (decide (x1.Kind = 4 ∨ x1.Kind = 5)))) rfl) rfl) ?_
                        refine VRunO.free (VWant.on (b := (!(decide (0 ≤ x1.B ∧ x1.B < ((i : Nat) : Int))))) rfl rfl hg71_11) (OF.move (VEv.tmp (t := (T.bool (!(decide (x1.Kind = 4 ∨ x1.Kind = 5))))) rfl)) ?_
                        refine VRunO.off (VWant.not (b := (!(decide (x1.Kind = 4 ∨ x1.Kind = 5)))) rfl rfl (nkT hg64_10)) ?_
                        refine VRunO.off (VWant.not (b := (!(decide (x1.Kind = 4 ∨ x1.Kind = 5)))) rfl rfl (nkT hg64_10)) ?_
                        refine VRunO.off (VWant.not (b := (!(decide (x1.Kind = 4 ∨ x1.Kind = 5)))) rfl rfl (nkT hg64_10)) ?_
                        refine VRunO.free (VWant.on (b := (!(decide (0 ≤ x1.B ∧ x1.B < ((i : Nat) : Int))))) rfl rfl hg71_11) (OF.pickF (VEv.tmpB (b := (!(decide (x1.Kind = 4 ∨ x1.Kind = 5)))) rfl (nkT hg64_10)) (VEv.bool false)) ?_
                        refine VRunO.free VWant.always (OF.pickF (VEv.tmpB (b := (!(decide (0 ≤ x1.B ∧ x1.B < ((i : Nat) : Int))))) rfl hg71_11) (VEv.tmp (t := (T.bool false)) rfl)) ?_
                        refine VRunO.nil ?_
                        refine vthn.n ?_
                        refine VRun.cond (VEv.tmp (t := (T.bool false)) rfl) (fun hk13 => ?_) (fun hk13 => ?_)
                        · exact absurd (rfl.symm.trans hk13) (by decide)
                        · skip
                          refine VRun.skip ?_
                          refine vinB.n ?_
                          refine vthn.n ?_
                          refine VRun.region ?_
                          refine VRunO.free VWant.always (B.add (n := (((i + 1) : Nat) : Int)) (VEv.tmp (t := (T.int .i64 ((i : Nat) : Int))) rfl) (VEv.int .i64 1) (by first | exact hw _ (List.mem_of_getElem? hx1) | rfl | (rw [wrap64 (by omega)]; done) | (rw [wrap64 (by omega)]; omega) | (rw [wrap64 (by omega)]; push_cast; omega) | omega)) ?_
                          refine VRunO.free VWant.always (OF.move (VEv.tmp (t := (T.int .i64 (((i + 1) : Nat) : Int))) rfl)) ?_
                          refine VRunO.nil ?_
                          refine vthn.n ?_
                          refine ⟨(i + 1 : Nat), ?_, ?_, Wk.mk (fun k => k) ?_ ?_ ?_⟩
                          · refine allNext hI0 fhc1 ((stepOk_iff hx1).2 ?_)
                            simp only [stepP, two]
                            refine ⟨by omega, fun hk => ?_, fun hk => ?_⟩
                            · first | (exfalso; omega) | (refine ⟨?_, ?_, ?_⟩ <;> first | assumption | omega)
                            · first | (exfalso; omega) | (refine ⟨?_, ?_, fun h => ?_, fun h => ?_, fun h1 h2 => ?_⟩ <;> first | assumption | omega | (refine ⟨x2, hx2, ?_⟩; omega))
                          · first | omega | (simp only []; omega) | (show _ < _; omega) | (simp; omega)
                          · exact (ball_cons ⟨rfl, rfl⟩ (ball_cons ⟨rfl, rfl⟩ (ball_cons ⟨rfl, rfl⟩ (ball_cons ⟨rfl, rfl⟩ (ball_nil)))))
                          · exact (ball_nil)
                          · show List.Nodup ([] : List Nat)
                            decide
                    · have fhg64_10 : ¬ (x1.Kind = 4 ∨ x1.Kind = 5) := of_decide_eq_false hg64_10
                      refine VRunO.off (VWant.not (b := (decide (x1.Kind = 4 ∨ x1.Kind = 5))) rfl rfl hg64_10) ?_
                      refine VRunO.off (VWant.not (b := (decide (x1.Kind = 4 ∨ x1.Kind = 5))) rfl rfl hg64_10) ?_
                      refine VRunO.off (VWant.not (b := (decide (x1.Kind = 4 ∨ x1.Kind = 5))) rfl rfl hg64_10) ?_
                      refine VRunO.off (VWant.not (b := (decide (x1.Kind = 4 ∨ x1.Kind = 5))) rfl rfl hg64_10) ?_
                      refine VRunO.off (VWant.not (b := (decide (x1.Kind = 4 ∨ x1.Kind = 5))) rfl rfl hg64_10) ?_
                      refine VRunO.free VWant.always (OF.pickF (VEv.tmpB (b := (decide (x1.Kind = 4 ∨ x1.Kind = 5))) rfl hg64_10) (VEv.bool false)) ?_
                      refine VRunO.free VWant.always (OF.move (VEv.tmp (t := (T.bool false)) rfl)) ?_
                      refine VRunO.free (VWant.on (b := false) rfl rfl rfl) (OF.fieldAddrO (VEv.tmp (t := (T.op 0 0)) rfl) fa166_0) ?_
                      refine VRunO.look (VWant.on (b := false) rfl rfl rfl) (OL.loadO1 (t := (T.int .i64 x1.Kind)) (VEv.tmp (t := (T.op 0 0)) rfl) rfl rfl st3) ?_
                      refine VRunO.chain (VWant.on (b := false) rfl rfl rfl) (OC.callF (us := [(T.int .i64 x1.Kind)]) (r := (T.bool (decide (x1.Kind = 4 ∨ x1.Kind = 5)))) (r' := (T.bool (decide (x1.Kind = 4 ∨ x1.Kind = 5)))) (objs := []) rfl (VEvs.cons (VEv.tmp (t := (T.int .i64 x1.Kind)) rfl) VEvs.nil) (LendL.cons (Lend.pl rfl) (LendL.nil)) (W_impl_isPair (n + 1) x1.Kind ) rfl) ?_
                      refine VRunO.free (VWant.on (b := false) rfl rfl rfl) (B.not (c := (!(decide (x1.Kind = 4 ∨ x1.Kind = 5)))) (VEv.tmp (t := (T.bool (decide (x1.Kind = 4 ∨ x1.Kind = 5)))) rfl) rfl) ?_
                      refine VRunO.free (VWant.on (b := false) rfl rfl rfl) (OF.move (VEv.tmp (t := (T.bool (!(decide (x1.Kind = 4 ∨ x1.Kind = 5))))) rfl)) ?_
                      refine VRunO.free (VWant.on (b := (!(decide (x1.Kind = 4 ∨ x1.Kind = 5)))) rfl rfl (nkF hg64_10)) (OF.fieldAddrO (VEv.tmp (t := (T.op 0 0)) rfl) fa166_3) ?_
                      refine VRunO.look (VWant.on (b := (!(decide (x1.Kind = 4 ∨ x1.Kind = 5)))) rfl rfl (nkF hg64_10)) (OL.loadO1 (t := (T.int .i64 x1.B)) (VEv.tmp (t := (T.op 0 3)) rfl) rfl rfl st3) ?_
                      refine VRunO.free (VWant.on (b := (!(decide (x1.Kind = 4 ∨ x1.Kind = 5)))) rfl rfl (nkF hg64_10)) (B.neq (c := (!(decide (x1.B = 0)))) (VEv.tmp (t := (T.int .i64 x1.B)) rfl) (VEv.int .i64 0) rfl) ?_
                      refine VRunO.free (VWant.on (b := false) rfl rfl rfl) (OF.pickT (VEv.tmpB (b := (!(decide (x1.Kind = 4 ∨ x1.Kind = 5)))) rfl (nkF hg64_10)) (VEv.tmp (t := (T.bool (!(decide (x1.B = 0))))) rfl)) ?_
                      refine VRunO.free VWant.always (OF.pickF (VEv.tmp (t := (T.bool false)) rfl) (VEv.tmp (t := (T.bool (!(decide (x1.B = 0))))) rfl)) ?_
                      refine VRunO.nil ?_
                      refine vthn.n ?_
                      refine VRun.cond (VEv.tmp (t := (T.bool (!(decide (x1.B = 0))))) rfl) (fun hc6 => ?_) (fun hc6 => ?_)
                      · have fhc6 : ¬ (x1.B = 0) := ndT hc6
                        refine VRun.seq ?_
                        refine VRun.region ?_
                        refine VRunO.free VWant.always (OF.assign (VEv.bool false)) ?_
                        refine VRunO.nil ?_
                        refine vthn.n ?_
                        refine VRun.ret ?_
                        refine vinB.r ?_
                        refine vthn.r ?_
                        refine vthn.r ?_
                        refine vinB.r ?_
                        refine vthn.r ?_
                        refine vfin.eq (r' := (T.bool false)) ?_ (vfin.r (VRes.tmp (t := (T.bool false)) rfl VRes.nil) (Give.bool _))
                        show (T.bool false) = (T.bool (decide (isPlay a)))
                        refine congrArg T.bool ?_
                        first | (symm; rw [decide_eq_true_eq]; exact ⟨by omega, allEnd hI' fhc1⟩) | (symm; rw [decide_eq_false_iff_not]; rintro ⟨h1, h2⟩; first | (exfalso; omega) | (have h3 := (stepOk_iff hx1).1 (h2 i fhc1); obtain ⟨h4, h5, h6⟩ := h3; simp only [two] at h6; first | omega | contradiction | (by_cases hk : x1.Kind = 1 <;> simp_all <;> omega) | (simp_all [exAt hx2]; done) | (simp_all [exAt hx2]; omega)))
                      · have fhc6 : x1.B = 0 := ndF hc6
                        refine VRun.skip ?_
                        refine vinB.n ?_
                        refine vthn.n ?_
                        refine VRun.region ?_
                        refine VRunO.free VWant.always (B.add (n := (((i + 1) : Nat) : Int)) (VEv.tmp (t := (T.int .i64 ((i : Nat) : Int))) rfl) (VEv.int .i64 1) (by first | exact hw _ (List.mem_of_getElem? hx1) | rfl | (rw [wrap64 (by omega)]; done) | (rw [wrap64 (by omega)]; omega) | (rw [wrap64 (by omega)]; push_cast; omega) | omega)) ?_
                        refine VRunO.free VWant.always (OF.move (VEv.tmp (t := (T.int .i64 (((i + 1) : Nat) : Int))) rfl)) ?_
                        refine VRunO.nil ?_
                        refine vthn.n ?_
                        refine ⟨(i + 1 : Nat), ?_, ?_, Wk.mk (fun k => k) ?_ ?_ ?_⟩
                        · refine allNext hI0 fhc1 ((stepOk_iff hx1).2 ?_)
                          simp only [stepP, two]
                          refine ⟨by omega, fun hk => ?_, fun hk => ?_⟩
                          · first | (exfalso; omega) | (refine ⟨?_, ?_, ?_⟩ <;> first | assumption | omega)
                          · first | (exfalso; omega) | (refine ⟨?_, ?_, fun h => ?_, fun h => ?_, fun h1 h2 => ?_⟩ <;> first | assumption | omega | (refine ⟨x2, hx2, ?_⟩; omega))
                        · first | omega | (simp only []; omega) | (show _ < _; omega) | (simp; omega)
                        · exact (ball_cons ⟨rfl, rfl⟩ (ball_cons ⟨rfl, rfl⟩ (ball_cons ⟨rfl, rfl⟩ (ball_cons ⟨rfl, rfl⟩ (ball_nil)))))
                        · exact (ball_nil)
                        · show List.Nodup ([] : List Nat)
                          decide
                · have fhg51_9 : ¬ (x1.Kind = 3 ∨ 6 ≤ x1.Kind) := of_decide_eq_false hg51_9
                  refine VRunO.off (VWant.not (b := (decide (x1.Kind = 3 ∨ 6 ≤ x1.Kind))) rfl rfl hg51_9) ?_
                  refine VRunO.off (VWant.not (b := (decide (x1.Kind = 3 ∨ 6 ≤ x1.Kind))) rfl rfl hg51_9) ?_
                  refine VRunO.off (VWant.not (b := (decide (x1.Kind = 3 ∨ 6 ≤ x1.Kind))) rfl rfl hg51_9) ?_
                  refine VRunO.off (VWant.not (b := (decide (x1.Kind = 3 ∨ 6 ≤ x1.Kind))) rfl rfl hg51_9) ?_
                  refine VRunO.off (VWant.not (b := (decide (x1.Kind = 3 ∨ 6 ≤ x1.Kind))) rfl rfl hg51_9) ?_
                  refine VRunO.off (VWant.not (b := (decide (x1.Kind = 3 ∨ 6 ≤ x1.Kind))) rfl rfl hg51_9) ?_
                  refine VRunO.off (VWant.not (b := (decide (x1.Kind = 3 ∨ 6 ≤ x1.Kind))) rfl rfl hg51_9) ?_
                  refine VRunO.free (VWant.on (b := (!(decide (0 ≤ x1.A ∧ x1.A < ((i : Nat) : Int))))) rfl rfl hg47_7) (OF.pickF (VEv.tmpB (b := (decide (x1.Kind = 3 ∨ 6 ≤ x1.Kind))) rfl hg51_9) (VEv.bool false)) ?_
                  refine VRunO.free VWant.always (OF.pickF (VEv.tmpB (b := (!(decide (0 ≤ x1.A ∧ x1.A < ((i : Nat) : Int))))) rfl hg47_7) (VEv.tmp (t := (T.bool false)) rfl)) ?_
                  refine VRunO.nil ?_
                  refine vthn.n ?_
                  refine VRun.cond (VEv.tmp (t := (T.bool false)) rfl) (fun hk14 => ?_) (fun hk14 => ?_)
                  · exact absurd (rfl.symm.trans hk14) (by decide)
                  · skip
                    refine VRun.skip ?_
                    refine vthn.n ?_
                    refine VRun.seq ?_
                    refine VRun.region ?_
                    refine VRunO.free VWant.always (OF.fieldAddrO (VEv.tmp (t := (T.op 0 0)) rfl) fa166_0) ?_
                    refine VRunO.look VWant.always (OL.loadO1 (t := (T.int .i64 x1.Kind)) (VEv.tmp (t := (T.op 0 0)) rfl) rfl rfl st3) ?_
                    refine VRunO.chain VWant.always (OC.callF (us := [(T.int .i64 x1.Kind)]) (r := (T.bool (decide (x1.Kind = 4 ∨ x1.Kind = 5)))) (r' := (T.bool (decide (x1.Kind = 4 ∨ x1.Kind = 5)))) (objs := []) rfl (VEvs.cons (VEv.tmp (t := (T.int .i64 x1.Kind)) rfl) VEvs.nil) (LendL.cons (Lend.pl rfl) (LendL.nil)) (W_impl_isPair (n + 1) x1.Kind ) rfl) ?_
                    refine VRunO.free VWant.always (OF.move (VEv.tmp (t := (T.bool (decide (x1.Kind = 4 ∨ x1.Kind = 5)))) rfl)) ?_
                    refine bool_way (decide (x1.Kind = 4 ∨ x1.Kind = 5)) (fun hg64_15 => ?_) (fun hg64_15 => ?_)
                    · have fhg64_15 : x1.Kind = 4 ∨ x1.Kind = 5 := of_decide_eq_true hg64_15
                      refine VRunO.free (VWant.on (b := (decide (x1.Kind = 4 ∨ x1.Kind = 5))) rfl rfl hg64_15) (OF.fieldAddrO (VEv.tmp (t := (T.op 0 0)) rfl) fa166_3) ?_
                      refine VRunO.look (VWant.on (b := (decide (x1.Kind = 4 ∨ x1.Kind = 5))) rfl rfl hg64_15) (OL.loadO1 (t := (T.int .i64 x1.B)) (VEv.tmp (t := (T.op 0 3)) rfl) rfl rfl st3) ?_
                      refine VRunO.free (VWant.on (b := (decide (x1.Kind = 4 ∨ x1.Kind = 5))) rfl rfl hg64_15) (OF.move (VEv.tmp (t := (T.int .i64 ((i : Nat) : Int))) rfl)) ?_
                      refine VRunO.chain (VWant.on (b := (decide (x1.Kind = 4 ∨ x1.Kind = 5))) rfl rfl hg64_15) (OC.callF (us := [(T.int .i64 x1.B), (T.int .i64 ((i : Nat) : Int))]) (r := (T.bool (decide (0 ≤ x1.B ∧ x1.B < ((i : Nat) : Int))))) (r' := (T.bool (decide (0 ≤ x1.B ∧ x1.B < ((i : Nat) : Int))))) (objs := []) rfl (VEvs.cons (VEv.tmp (t := (T.int .i64 x1.B)) rfl) (VEvs.cons (VEv.tmp (t := (T.int .i64 ((i : Nat) : Int))) rfl) VEvs.nil)) (LendL.cons (Lend.pl rfl) (LendL.cons (Lend.pl rfl) (LendL.nil))) (W_impl_at (n + 1) x1.B ((i : Nat) : Int) ) rfl) ?_
                      refine VRunO.free (VWant.on (b := (decide (x1.Kind = 4 ∨ x1.Kind = 5))) rfl rfl hg64_15) (B.not (c := (!(decide (0 ≤ x1.B ∧ x1.B < ((i : Nat) : Int))))) (VEv.tmp (t := (T.bool (decide (0 ≤ x1.B ∧ x1.B < ((i : Nat) : Int))))) rfl) rfl) ?_
                      refine VRunO.free VWant.always (OF.pickT (VEv.tmpB (b := (decide (x1.Kind = 4 ∨ x1.Kind = 5))) rfl hg64_15) (VEv.tmp (t := (T.bool (!(decide (0 ≤ x1.B ∧ x1.B < ((i : Nat) : Int)))))) rfl)) ?_
                      refine VRunO.free VWant.always (OF.move (VEv.tmp (t := (T.bool (!(decide (0 ≤ x1.B ∧ x1.B < ((i : Nat) : Int)))))) rfl)) ?_
                      refine bool_way (!(decide (0 ≤ x1.B ∧ x1.B < ((i : Nat) : Int)))) (fun hg71_16 => ?_) (fun hg71_16 => ?_)
                      · have fhg71_16 : ¬ (0 ≤ x1.B ∧ x1.B < ((i : Nat) : Int)) := ndT hg71_16
                        refine VRunO.off (VWant.not (b := (!(decide (0 ≤ x1.B ∧ x1.B < ((i : Nat) : Int))))) rfl rfl hg71_16) ?_
                        refine VRunO.off (VWant.not (b := (!(decide (0 ≤ x1.B ∧ x1.B < ((i : Nat) : Int))))) rfl rfl hg71_16) ?_
                        refine VRunO.off (VWant.not (b := (!(decide (0 ≤ x1.B ∧ x1.B < ((i : Nat) : Int))))) rfl rfl hg71_16) ?_
                        refine VRunO.off (VWant.not (b := (!(decide (0 ≤ x1.B ∧ x1.B < ((i : Nat) : Int))))) rfl rfl hg71_16) ?_
                        refine VRunO.off (VWant.not (b := (!(decide (0 ≤ x1.B ∧ x1.B < ((i : Nat) : Int))))) rfl rfl hg71_16) ?_
                        refine VRunO.off (VWant.undef rfl rfl) ?_
                        refine VRunO.off (VWant.undef rfl rfl) ?_
                        refine VRunO.off (VWant.undef rfl rfl) ?_
                        refine VRunO.off (VWant.not (b := (!(decide (0 ≤ x1.B ∧ x1.B < ((i : Nat) : Int))))) rfl rfl hg71_16) ?_
                        refine VRunO.free VWant.always (OF.pickT (VEv.tmpB (b := (!(decide (0 ≤ x1.B ∧ x1.B < ((i : Nat) : Int))))) rfl hg71_16) (VEv.bool true)) ?_
                        refine VRunO.nil ?_
                        refine vthn.n ?_
                        refine VRun.cond (VEv.tmp (t := (T.bool true)) rfl) (fun hk17 => ?_) (fun hk17 => ?_)
                        · skip
                          refine VRun.seq ?_
                          refine VRun.region ?_
                          refine VRunO.free VWant.always (OF.assign (VEv.bool false)) ?_
                          refine VRunO.nil ?_
                          refine vthn.n ?_
                          refine VRun.ret ?_
                          refine vinB.r ?_
                          refine vthn.r ?_
                          refine vthn.r ?_
                          refine vinB.r ?_
                          refine vthn.r ?_
                          refine vfin.eq (r' := (T.bool false)) ?_ (vfin.r (VRes.tmp (t := (T.bool false)) rfl VRes.nil) (Give.bool _))
                          show (T.bool false) = (T.bool (decide (isPlay a)))
                          refine congrArg T.bool ?_
                          first | (symm; rw [decide_eq_true_eq]; exact ⟨by omega, allEnd hI' fhc1⟩) | (symm; rw [decide_eq_false_iff_not]; rintro ⟨h1, h2⟩; first | (exfalso; omega) | (have h3 := (stepOk_iff hx1).1 (h2 i fhc1); obtain ⟨h4, h5, h6⟩ := h3; simp only [two] at h6; first | omega | contradiction | (by_cases hk : x1.Kind = 1 <;> simp_all <;> omega) | (simp_all [exAt hx2]; done) | (simp_all [exAt hx2]; omega)))
                        · exact absurd (rfl.symm.trans hk17) (by decide)
                      · have fhg71_16 : 0 ≤ x1.B ∧ x1.B < ((i : Nat) : Int) := ndF hg71_16
                        refine VRunO.free (VWant.on (b := (!(decide (0 ≤ x1.B ∧ x1.B < ((i : Nat) : Int))))) rfl rfl hg71_16) (OF.fieldAddrO (VEv.tmp (t := (T.op 0 0)) rfl) fa166_0) ?_
                        refine VRunO.look (VWant.on (b := (!(decide (0 ≤ x1.B ∧ x1.B < ((i : Nat) : Int))))) rfl rfl hg71_16) (OL.loadO1 (t := (T.int .i64 x1.Kind)) (VEv.tmp (t := (T.op 0 0)) rfl) rfl rfl st3) ?_
                        refine VRunO.chain (VWant.on (b := (!(decide (0 ≤ x1.B ∧ x1.B < ((i : Nat) : Int))))) rfl rfl hg71_16) (OC.callF (us := [(T.int .i64 x1.Kind)]) (r := (T.bool (decide (x1.Kind = 4 ∨ x1.Kind = 5)))) (r' := (T.bool (decide (x1.Kind = 4 ∨ x1.Kind = 5)))) (objs := []) rfl (VEvs.cons (VEv.tmp (t := (T.int .i64 x1.Kind)) rfl) VEvs.nil) (LendL.cons (Lend.pl rfl) (LendL.nil)) (W_impl_isPair (n + 1) x1.Kind ) rfl) ?_
                        refine VRunO.free (VWant.on (b := (!(decide (0 ≤ x1.B ∧ x1.B < ((i : Nat) : Int))))) rfl rfl hg71_16) (B.not (c := (!(decide (x1.Kind = 4 ∨ x1.Kind = 5)))) (VEv.tmp (t := (T.bool (decide (x1.Kind = 4 ∨ x1.Kind = 5)))) rfl) rfl) ?_
                        refine VRunO.free (VWant.on (b := (!(decide (0 ≤ x1.B ∧ x1.B < ((i : Nat) : Int))))) rfl rfl hg71_16) (OF.move (VEv.tmp (t := (T.bool (!(decide (x1.Kind = 4 ∨ x1.Kind = 5))))) rfl)) ?_
                        refine VRunO.off (VWant.not (b := (!(decide (x1.Kind = 4 ∨ x1.Kind = 5)))) rfl rfl (nkT hg64_15)) ?_
                        refine VRunO.off (VWant.not (b := (!(decide (x1.Kind = 4 ∨ x1.Kind = 5)))) rfl rfl (nkT hg64_15)) ?_
                        refine VRunO.off (VWant.not (b := (!(decide (x1.Kind = 4 ∨ x1.Kind = 5)))) rfl rfl (nkT hg64_15)) ?_
                        refine VRunO.free (VWant.on (b := (!(decide (0 ≤ x1.B ∧ x1.B < ((i : Nat) : Int))))) rfl rfl hg71_16) (OF.pickF (VEv.tmpB (b := (!(decide (x1.Kind = 4 ∨ x1.Kind = 5)))) rfl (nkT hg64_15)) (VEv.bool false)) ?_
                        refine VRunO.free VWant.always (OF.pickF (VEv.tmpB (b := (!(decide (0 ≤ x1.B ∧ x1.B < ((i : Nat) : Int))))) rfl hg71_16) (VEv.tmp (t := (T.bool false)) rfl)) ?_
                        refine VRunO.nil ?_
                        refine vthn.n ?_
                        refine VRun.cond (VEv.tmp (t := (T.bool false)) rfl) (fun hk18 => ?_) (fun hk18 => ?_)
                        · exact absurd (rfl.symm.trans hk18) (by decide)
                        · skip
                          refine VRun.skip ?_
                          refine vinB.n ?_
                          refine vthn.n ?_
                          refine VRun.region ?_
                          refine VRunO.free VWant.always (B.add (n := (((i + 1) : Nat) : Int)) (VEv.tmp (t := (T.int .i64 ((i : Nat) : Int))) rfl) (VEv.int .i64 1) (by first | exact hw _ (List.mem_of_getElem? hx1) | rfl | (rw [wrap64 (by omega)]; done) | (rw [wrap64 (by omega)]; omega) | (rw [wrap64 (by omega)]; push_cast; omega) | omega)) ?_
                          refine VRunO.free VWant.always (OF.move (VEv.tmp (t := (T.int .i64 (((i + 1) : Nat) : Int))) rfl)) ?_
                          refine VRunO.nil ?_
                          refine vthn.n ?_
                          refine ⟨(i + 1 : Nat), ?_, ?_, Wk.mk (fun k => k) ?_ ?_ ?_⟩
                          · refine allNext hI0 fhc1 ((stepOk_iff hx1).2 ?_)
                            simp only [stepP, two]
                            refine ⟨by omega, fun hk => ?_, fun hk => ?_⟩
                            · first | (exfalso; omega) | (refine ⟨?_, ?_, ?_⟩ <;> first | assumption | omega)
                            · first | (exfalso; omega) | (refine ⟨?_, ?_, fun h => ?_, fun h => ?_, fun h1 h2 => ?_⟩ <;> first | assumption | omega | (refine ⟨x2, hx2, ?_⟩; omega))
                          · first | omega | (simp only []; omega) | (show _ < _; omega) | (simp; omega)
                          · exact (ball_cons ⟨rfl, rfl⟩ (ball_cons ⟨rfl, rfl⟩ (ball_cons ⟨rfl, rfl⟩ (ball_cons ⟨rfl, rfl⟩ (ball_nil)))))
                          · exact (ball_nil)
                          · show List.Nodup ([] : List Nat)
                            decide
                    · have fhg64_15 : ¬ (x1.Kind = 4 ∨ x1.Kind = 5) := of_decide_eq_false hg64_15
                      refine VRunO.off (VWant.not (b := (decide (x1.Kind = 4 ∨ x1.Kind = 5))) rfl rfl hg64_15) ?_
                      refine VRunO.off (VWant.not (b := (decide (x1.Kind = 4 ∨ x1.Kind = 5))) rfl rfl hg64_15) ?_
                      refine VRunO.off (VWant.not (b := (decide (x1.Kind = 4 ∨ x1.Kind = 5))) rfl rfl hg64_15) ?_
                      refine VRunO.off (VWant.not (b := (decide (x1.Kind = 4 ∨ x1.Kind = 5))) rfl rfl hg64_15) ?_
                      refine VRunO.off (VWant.not (b := (decide (x1.Kind = 4 ∨ x1.Kind = 5))) rfl rfl hg64_15) ?_
                      refine VRunO.free VWant.always (OF.pickF (VEv.tmpB (b := (decide (x1.Kind = 4 ∨ x1.Kind = 5))) rfl hg64_15) (VEv.bool false)) ?_
                      refine VRunO.free VWant.always (OF.move (VEv.tmp (t := (T.bool false)) rfl)) ?_
                      refine VRunO.free (VWant.on (b := false) rfl rfl rfl) (OF.fieldAddrO (VEv.tmp (t := (T.op 0 0)) rfl) fa166_0) ?_
                      refine VRunO.look (VWant.on (b := false) rfl rfl rfl) (OL.loadO1 (t := (T.int .i64 x1.Kind)) (VEv.tmp (t := (T.op 0 0)) rfl) rfl rfl st3) ?_
                      refine VRunO.chain (VWant.on (b := false) rfl rfl rfl) (OC.callF (us := [(T.int .i64 x1.Kind)]) (r := (T.bool (decide (x1.Kind = 4 ∨ x1.Kind = 5)))) (r' := (T.bool (decide (x1.Kind = 4 ∨ x1.Kind = 5)))) (objs := []) rfl (VEvs.cons (VEv.tmp (t := (T.int .i64 x1.Kind)) rfl) VEvs.nil) (LendL.cons (Lend.pl rfl) (LendL.nil)) (W_impl_isPair (n + 1) x1.Kind ) rfl) ?_
                      refine VRunO.free (VWant.on (b := false) rfl rfl rfl) (B.not (c := (!(decide (x1.Kind = 4 ∨ x1.Kind = 5)))) (VEv.tmp (t := (T.bool (decide (x1.Kind = 4 ∨ x1.Kind = 5)))) rfl) rfl) ?_
                      refine VRunO.free (VWant.on (b := false) rfl rfl rfl) (OF.move (VEv.tmp (t := (T.bool (!(decide (x1.Kind = 4 ∨ x1.Kind = 5))))) rfl)) ?_
                      refine VRunO.free (VWant.on (b := (!(decide (x1.Kind = 4 ∨ x1.Kind = 5)))) rfl rfl (nkF hg64_15)) (OF.fieldAddrO (VEv.tmp (t := (T.op 0 0)) rfl) fa166_3) ?_
                      refine VRunO.look (VWant.on (b := (!(decide (x1.Kind = 4 ∨ x1.Kind = 5)))) rfl rfl (nkF hg64_15)) (OL.loadO1 (t := (T.int .i64 x1.B)) (VEv.tmp (t := (T.op 0 3)) rfl) rfl rfl st3) ?_
                      refine VRunO.free (VWant.on (b := (!(decide (x1.Kind = 4 ∨ x1.Kind = 5)))) rfl rfl (nkF hg64_15)) (B.neq (c := (!(decide (x1.B = 0)))) (VEv.tmp (t := (T.int .i64 x1.B)) rfl) (VEv.int .i64 0) rfl) ?_
                      refine VRunO.free (VWant.on (b := false) rfl rfl rfl) (OF.pickT (VEv.tmpB (b := (!(decide (x1.Kind = 4 ∨ x1.Kind = 5)))) rfl (nkF hg64_15)) (VEv.tmp (t := (T.bool (!(decide (x1.B = 0))))) rfl)) ?_
                      refine VRunO.free VWant.always (OF.pickF (VEv.tmp (t := (T.bool false)) rfl) (VEv.tmp (t := (T.bool (!(decide (x1.B = 0))))) rfl)) ?_
                      refine VRunO.nil ?_
                      refine vthn.n ?_
                      refine VRun.cond (VEv.tmp (t := (T.bool (!(decide (x1.B = 0))))) rfl) (fun hc6 => ?_) (fun hc6 => ?_)
                      · have fhc6 : ¬ (x1.B = 0) := ndT hc6
                        refine VRun.seq ?_
                        refine VRun.region ?_
                        refine VRunO.free VWant.always (OF.assign (VEv.bool false)) ?_
                        refine VRunO.nil ?_
                        refine vthn.n ?_
                        refine VRun.ret ?_
                        refine vinB.r ?_
                        refine vthn.r ?_
                        refine vthn.r ?_
                        refine vinB.r ?_
                        refine vthn.r ?_
                        refine vfin.eq (r' := (T.bool false)) ?_ (vfin.r (VRes.tmp (t := (T.bool false)) rfl VRes.nil) (Give.bool _))
                        show (T.bool false) = (T.bool (decide (isPlay a)))
                        refine congrArg T.bool ?_
                        first | (symm; rw [decide_eq_true_eq]; exact ⟨by omega, allEnd hI' fhc1⟩) | (symm; rw [decide_eq_false_iff_not]; rintro ⟨h1, h2⟩; first | (exfalso; omega) | (have h3 := (stepOk_iff hx1).1 (h2 i fhc1); obtain ⟨h4, h5, h6⟩ := h3; simp only [two] at h6; first | omega | contradiction | (by_cases hk : x1.Kind = 1 <;> simp_all <;> omega) | (simp_all [exAt hx2]; done) | (simp_all [exAt hx2]; omega)))
                      · have fhc6 : x1.B = 0 := ndF hc6
                        refine VRun.skip ?_
                        refine vinB.n ?_
                        refine vthn.n ?_
                        refine VRun.region ?_
                        refine VRunO.free VWant.always (B.add (n := (((i + 1) : Nat) : Int)) (VEv.tmp (t := (T.int .i64 ((i : Nat) : Int))) rfl) (VEv.int .i64 1) (by first | exact hw _ (List.mem_of_getElem? hx1) | rfl | (rw [wrap64 (by omega)]; done) | (rw [wrap64 (by omega)]; omega) | (rw [wrap64 (by omega)]; push_cast; omega) | omega)) ?_
                        refine VRunO.free VWant.always (OF.move (VEv.tmp (t := (T.int .i64 (((i + 1) : Nat) : Int))) rfl)) ?_
                        refine VRunO.nil ?_
                        refine vthn.n ?_
                        refine ⟨(i + 1 : Nat), ?_, ?_, Wk.mk (fun k => k) ?_ ?_ ?_⟩
                        · refine allNext hI0 fhc1 ((stepOk_iff hx1).2 ?_)
                          simp only [stepP, two]
                          refine ⟨by omega, fun hk => ?_, fun hk => ?_⟩
                          · first | (exfalso; omega) | (refine ⟨?_, ?_, ?_⟩ <;> first | assumption | omega)
                          · first | (exfalso; omega) | (refine ⟨?_, ?_, fun h => ?_, fun h => ?_, fun h1 h2 => ?_⟩ <;> first | assumption | omega | (refine ⟨x2, hx2, ?_⟩; omega))
                        · first | omega | (simp only []; omega) | (show _ < _; omega) | (simp; omega)
                        · exact (ball_cons ⟨rfl, rfl⟩ (ball_cons ⟨rfl, rfl⟩ (ball_cons ⟨rfl, rfl⟩ (ball_cons ⟨rfl, rfl⟩ (ball_nil)))))
                        · exact (ball_nil)
                        · show List.Nodup ([] : List Nat)
                          decide
      · have fhc1 : ¬ (i < a.length) := of_decide_eq_false hc1
        refine VRun.exit ?_
        refine vthn.e ?_
        refine vthn.e ?_
        refine vinB.e ?_
        refine vthn.n ?_
        refine VRun.seq ?_
        refine VRun.region ?_
        refine VRunO.free VWant.always (OF.assign (VEv.bool true)) ?_
        refine VRunO.nil ?_
        refine vthn.n ?_
        refine VRun.ret ?_
        refine vfin.eq (r' := (T.bool true)) ?_ (vfin.r (VRes.tmp (t := (T.bool true)) rfl VRes.nil) (Give.bool _))
        show (T.bool true) = (T.bool (decide (isPlay a)))
        refine congrArg T.bool ?_
        first | (symm; rw [decide_eq_true_eq]; exact ⟨by omega, allEnd hI' fhc1⟩) | (symm; rw [decide_eq_false_iff_not]; rintro ⟨h1, h2⟩; first | (exfalso; omega) | (have h3 := (stepOk_iff hx1).1 (h2 i fhc1); obtain ⟨h4, h5, h6⟩ := h3; simp only [two] at h6; first | omega | contradiction | (by_cases hk : x1.Kind = 1 <;> simp_all <;> omega) | (simp_all [exAt hx2]; done) | (simp_all [exAt hx2]; omega)))
end Go.Proofs.Ythdnjihmjdbdkaa.AE
