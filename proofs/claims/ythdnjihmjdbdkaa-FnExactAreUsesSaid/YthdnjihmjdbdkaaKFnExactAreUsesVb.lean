/- Walks of the program's functions over trees. Conditions: as each theorem states. -/
import Derived.Test.YthdnjihmjdbdkaaKFnExactAreUsesVa
namespace Go.Proofs.Ythdnjihmjdbdkaa.AE
open Go Go.RowKit
set_option linter.unusedVariables false
set_option linter.unusedSimpArgs false
set_option maxRecDepth 20000
set_option maxHeartbeats 2000000

noncomputable section
def bUse (a b : D.Used) : Bool := decide (a.Issue < b.Issue ∨ (a.Issue = b.Issue ∧ bWord a.Word b.Word = true))
def useOk (l : List D.Used) (j : Nat) : Prop := ∃ x, l[j]? = some x ∧ isWord x.Word ∧ (1 ≤ x.Issue ∧ x.Issue ≤ 999) ∧ (0 < j → ∃ y, l[j - 1]? = some y ∧ bUse y x = true)
def areUses (l : List D.Used) : Prop := l.length ≤ 60 ∧ ∀ j, j < l.length → useOk l j
instance (l : List D.Used) : Decidable (areUses l) := Classical.propDecidable _
def repOk (l : List D.Report) (j : Nat) : Prop := ∃ x, l[j]? = some x ∧ (1 ≤ x.Tester ∧ x.Tester ≤ 9) ∧ (0 ≤ x.Slot ∧ x.Slot ≤ 99) ∧ (1 ≤ x.Kind ∧ x.Kind ≤ 3) ∧ (x.Kind = 3 → x.Word = (⟨#[]⟩ : ByteArray)) ∧ (¬ x.Kind = 3 → isWord x.Word) ∧ ∀ k, k < j → l[k]? ≠ some x
def areReports (l : List D.Report) : Prop := l.length ≤ 30 ∧ ∀ j, j < l.length → repOk l j
instance (l : List D.Report) : Decidable (areReports l) := Classical.propDecidable _
end
theorem W_spec_l29Before (n : Nat) (a : D.Used) (b : D.Used)  : Pure (acall Try.prog (n + 2)) 81 [(T.agg (eUsed false a)), (T.agg (eUsed false b))] (T.bool (bUse a b)) := by
  refine Pure.intro (rs := [ResultVar.tmp 4]) Try.func81 rfl rfl rfl (E0 := [(0, (T.agg (eUsed false a))), (1, (T.agg (eUsed false b)))]) rfl ?_
  have hlim : lim = 1099511627776 := rfl
  have hmx : mx = 1048576 := rfl
  have hmax : maxLen = 9223372036854775807 := rfl
  refine VRun.seq ?_
  refine VRun.region ?_
  refine VRunO.make VWant.always (B.box (ts := [(T.str a.Word), (T.int .i64 a.Issue)]) (VEv.tmp (t := (T.agg (eUsed false a))) rfl) nofun rfl) ?_
  refine VRunO.make VWant.always (B.box (ts := [(T.str b.Word), (T.int .i64 b.Issue)]) (VEv.tmp (t := (T.agg (eUsed false b))) rfl) nofun rfl) ?_
  refine VRunO.free VWant.always (OF.assign (VEv.bool false)) ?_
  refine VRunO.nil ?_
  refine vthn.n ?_
  refine VRun.seq ?_
  refine VRun.region ?_
  refine VRunO.free VWant.always (OF.fieldAddrO (VEv.tmp (t := (T.op 0 0)) rfl) fa127_1) ?_
  refine VRunO.look VWant.always (OL.loadO1 (t := (T.int .i64 a.Issue)) (VEv.tmp (t := (T.op 0 1)) rfl) rfl rfl st3) ?_
  refine VRunO.free VWant.always (OF.fieldAddrO (VEv.tmp (t := (T.op 1 0)) rfl) fa127_1) ?_
  refine VRunO.look VWant.always (OL.loadO1 (t := (T.int .i64 b.Issue)) (VEv.tmp (t := (T.op 1 1)) rfl) rfl rfl st3) ?_
  refine VRunO.free VWant.always (B.lss (c := (decide (a.Issue < b.Issue))) (VEv.tmp (t := (T.int .i64 a.Issue)) rfl) (VEv.tmp (t := (T.int .i64 b.Issue)) rfl) rfl) ?_
  refine VRunO.free VWant.always (OF.move (VEv.tmp (t := (T.bool (decide (a.Issue < b.Issue)))) rfl)) ?_
  refine bool_way (decide (a.Issue < b.Issue)) (fun hg10_1 => ?_) (fun hg10_1 => ?_)
  · have fhg10_1 : a.Issue < b.Issue := of_decide_eq_true hg10_1
    refine VRunO.off (VWant.not (b := (decide (a.Issue < b.Issue))) rfl rfl hg10_1) ?_
    refine VRunO.off (VWant.not (b := (decide (a.Issue < b.Issue))) rfl rfl hg10_1) ?_
    refine VRunO.off (VWant.not (b := (decide (a.Issue < b.Issue))) rfl rfl hg10_1) ?_
    refine VRunO.off (VWant.not (b := (decide (a.Issue < b.Issue))) rfl rfl hg10_1) ?_
    refine VRunO.off (VWant.not (b := (decide (a.Issue < b.Issue))) rfl rfl hg10_1) ?_
    refine VRunO.off (VWant.not (b := (decide (a.Issue < b.Issue))) rfl rfl hg10_1) ?_
    refine VRunO.off (VWant.undef rfl rfl) ?_
    refine VRunO.off (VWant.undef rfl rfl) ?_
    refine VRunO.off (VWant.undef rfl rfl) ?_
    refine VRunO.off (VWant.undef rfl rfl) ?_
    refine VRunO.off (VWant.undef rfl rfl) ?_
    refine VRunO.off (VWant.not (b := (decide (a.Issue < b.Issue))) rfl rfl hg10_1) ?_
    refine VRunO.free VWant.always (OF.pickT (VEv.tmpB (b := (decide (a.Issue < b.Issue))) rfl hg10_1) (VEv.bool true)) ?_
    refine VRunO.free VWant.always (OF.assign (VEv.tmp (t := (T.bool true)) rfl)) ?_
    refine VRunO.nil ?_
    refine vthn.n ?_
    refine VRun.ret ?_
    refine vfin.eq (r' := (T.bool true)) ?_ (vfin.r (VRes.tmp (t := (T.bool true)) rfl VRes.nil) (Give.bool _))
    show (T.bool true) = (T.bool (bUse a b))
    refine congrArg T.bool ?_
    simp only [bUse]; first | (symm; rw [decide_eq_true_eq]; omega) | (symm; rw [decide_eq_false_iff_not]; omega) | (by_cases hb : bWord a.Word b.Word = true <;> simp_all <;> omega)
  · have fhg10_1 : ¬ (a.Issue < b.Issue) := of_decide_eq_false hg10_1
    refine VRunO.free (VWant.on (b := (decide (a.Issue < b.Issue))) rfl rfl hg10_1) (OF.fieldAddrO (VEv.tmp (t := (T.op 0 0)) rfl) fa127_1) ?_
    refine VRunO.look (VWant.on (b := (decide (a.Issue < b.Issue))) rfl rfl hg10_1) (OL.loadO1 (t := (T.int .i64 a.Issue)) (VEv.tmp (t := (T.op 0 1)) rfl) rfl rfl st3) ?_
    refine VRunO.free (VWant.on (b := (decide (a.Issue < b.Issue))) rfl rfl hg10_1) (OF.fieldAddrO (VEv.tmp (t := (T.op 1 0)) rfl) fa127_1) ?_
    refine VRunO.look (VWant.on (b := (decide (a.Issue < b.Issue))) rfl rfl hg10_1) (OL.loadO1 (t := (T.int .i64 b.Issue)) (VEv.tmp (t := (T.op 1 1)) rfl) rfl rfl st3) ?_
    refine VRunO.free (VWant.on (b := (decide (a.Issue < b.Issue))) rfl rfl hg10_1) (B.eql (c := (decide (a.Issue = b.Issue))) (VEv.tmp (t := (T.int .i64 a.Issue)) rfl) (VEv.tmp (t := (T.int .i64 b.Issue)) rfl) rfl) ?_
    refine VRunO.free (VWant.on (b := (decide (a.Issue < b.Issue))) rfl rfl hg10_1) (OF.move (VEv.tmp (t := (T.bool (decide (a.Issue = b.Issue)))) rfl)) ?_
    refine bool_way (decide (a.Issue = b.Issue)) (fun hg16_2 => ?_) (fun hg16_2 => ?_)
    · have fhg16_2 : a.Issue = b.Issue := of_decide_eq_true hg16_2
      refine VRunO.free (VWant.on (b := (decide (a.Issue = b.Issue))) rfl rfl hg16_2) (OF.fieldAddrO (VEv.tmp (t := (T.op 0 0)) rfl) fa127_0) ?_
      refine VRunO.look (VWant.on (b := (decide (a.Issue = b.Issue))) rfl rfl hg16_2) (OL.loadO1 (t := (T.str a.Word)) (VEv.tmp (t := (T.op 0 0)) rfl) rfl rfl st9) ?_
      refine VRunO.free (VWant.on (b := (decide (a.Issue = b.Issue))) rfl rfl hg16_2) (OF.fieldAddrO (VEv.tmp (t := (T.op 1 0)) rfl) fa127_0) ?_
      refine VRunO.look (VWant.on (b := (decide (a.Issue = b.Issue))) rfl rfl hg16_2) (OL.loadO1 (t := (T.str b.Word)) (VEv.tmp (t := (T.op 1 0)) rfl) rfl rfl st9) ?_
      refine VRunO.chain (VWant.on (b := (decide (a.Issue = b.Issue))) rfl rfl hg16_2) (OC.callF (us := [(T.str a.Word), (T.str b.Word)]) (r := (T.bool (bWord a.Word b.Word))) (r' := (T.bool (bWord a.Word b.Word))) (objs := []) rfl (VEvs.cons (VEv.tmp (t := (T.str a.Word)) rfl) (VEvs.cons (VEv.tmp (t := (T.str b.Word)) rfl) VEvs.nil)) (LendL.cons (Lend.pl rfl) (LendL.cons (Lend.pl rfl) (LendL.nil))) (W_spec_BeforeWord (n + 0) a.Word b.Word ) rfl) ?_
      refine VRunO.free (VWant.on (b := (decide (a.Issue < b.Issue))) rfl rfl hg10_1) (OF.pickT (VEv.tmpB (b := (decide (a.Issue = b.Issue))) rfl hg16_2) (VEv.tmp (t := (T.bool (bWord a.Word b.Word))) rfl)) ?_
      refine VRunO.free VWant.always (OF.pickF (VEv.tmpB (b := (decide (a.Issue < b.Issue))) rfl hg10_1) (VEv.tmp (t := (T.bool (bWord a.Word b.Word))) rfl)) ?_
      refine VRunO.free VWant.always (OF.assign (VEv.tmp (t := (T.bool (bWord a.Word b.Word))) rfl)) ?_
      refine VRunO.nil ?_
      refine vthn.n ?_
      refine VRun.ret ?_
      refine vfin.eq (r' := (T.bool (bWord a.Word b.Word))) ?_ (vfin.r (VRes.tmp (t := (T.bool (bWord a.Word b.Word))) rfl VRes.nil) (Give.bool _))
      show (T.bool (bWord a.Word b.Word)) = (T.bool (bUse a b))
      refine congrArg T.bool ?_
      simp only [bUse]; first | (symm; rw [decide_eq_true_eq]; omega) | (symm; rw [decide_eq_false_iff_not]; omega) | (by_cases hb : bWord a.Word b.Word = true <;> simp_all <;> omega)
    · have fhg16_2 : ¬ (a.Issue = b.Issue) := of_decide_eq_false hg16_2
      refine VRunO.off (VWant.not (b := (decide (a.Issue = b.Issue))) rfl rfl hg16_2) ?_
      refine VRunO.off (VWant.not (b := (decide (a.Issue = b.Issue))) rfl rfl hg16_2) ?_
      refine VRunO.off (VWant.not (b := (decide (a.Issue = b.Issue))) rfl rfl hg16_2) ?_
      refine VRunO.off (VWant.not (b := (decide (a.Issue = b.Issue))) rfl rfl hg16_2) ?_
      refine VRunO.off (VWant.not (b := (decide (a.Issue = b.Issue))) rfl rfl hg16_2) ?_
      refine VRunO.free (VWant.on (b := (decide (a.Issue < b.Issue))) rfl rfl hg10_1) (OF.pickF (VEv.tmpB (b := (decide (a.Issue = b.Issue))) rfl hg16_2) (VEv.bool false)) ?_
      refine VRunO.free VWant.always (OF.pickF (VEv.tmpB (b := (decide (a.Issue < b.Issue))) rfl hg10_1) (VEv.tmp (t := (T.bool false)) rfl)) ?_
      refine VRunO.free VWant.always (OF.assign (VEv.tmp (t := (T.bool false)) rfl)) ?_
      refine VRunO.nil ?_
      refine vthn.n ?_
      refine VRun.ret ?_
      refine vfin.eq (r' := (T.bool false)) ?_ (vfin.r (VRes.tmp (t := (T.bool false)) rfl VRes.nil) (Give.bool _))
      show (T.bool false) = (T.bool (bUse a b))
      refine congrArg T.bool ?_
      simp only [bUse]; first | (symm; rw [decide_eq_true_eq]; omega) | (symm; rw [decide_eq_false_iff_not]; omega) | (by_cases hb : bWord a.Word b.Word = true <;> simp_all <;> omega)
theorem W_impl_beforeUse (n : Nat) (a : D.Used) (b : D.Used)  : Pure (acall Try.prog (n + 2)) 83 [(T.agg (eUsed false a)), (T.agg (eUsed false b))] (T.bool (bUse a b)) := by
  refine Pure.intro (rs := [ResultVar.tmp 4]) Try.func83 rfl rfl rfl (E0 := [(0, (T.agg (eUsed false a))), (1, (T.agg (eUsed false b)))]) rfl ?_
  have hlim : lim = 1099511627776 := rfl
  have hmx : mx = 1048576 := rfl
  have hmax : maxLen = 9223372036854775807 := rfl
  refine VRun.seq ?_
  refine VRun.region ?_
  refine VRunO.make VWant.always (B.box (ts := [(T.str a.Word), (T.int .i64 a.Issue)]) (VEv.tmp (t := (T.agg (eUsed false a))) rfl) nofun rfl) ?_
  refine VRunO.make VWant.always (B.box (ts := [(T.str b.Word), (T.int .i64 b.Issue)]) (VEv.tmp (t := (T.agg (eUsed false b))) rfl) nofun rfl) ?_
  refine VRunO.free VWant.always (OF.assign (VEv.bool false)) ?_
  refine VRunO.nil ?_
  refine vthn.n ?_
  refine VRun.seq ?_
  refine VRun.seq ?_
  refine VRun.region ?_
  refine VRunO.free VWant.always (OF.fieldAddrO (VEv.tmp (t := (T.op 0 0)) rfl) fa127_1) ?_
  refine VRunO.look VWant.always (OL.loadO1 (t := (T.int .i64 a.Issue)) (VEv.tmp (t := (T.op 0 1)) rfl) rfl rfl st3) ?_
  refine VRunO.free VWant.always (OF.fieldAddrO (VEv.tmp (t := (T.op 1 0)) rfl) fa127_1) ?_
  refine VRunO.look VWant.always (OL.loadO1 (t := (T.int .i64 b.Issue)) (VEv.tmp (t := (T.op 1 1)) rfl) rfl rfl st3) ?_
  refine VRunO.free VWant.always (B.neq (c := (!(decide (a.Issue = b.Issue)))) (VEv.tmp (t := (T.int .i64 a.Issue)) rfl) (VEv.tmp (t := (T.int .i64 b.Issue)) rfl) rfl) ?_
  refine VRunO.nil ?_
  refine vthn.n ?_
  refine VRun.cond (VEv.tmp (t := (T.bool (!(decide (a.Issue = b.Issue))))) rfl) (fun hc0 => ?_) (fun hc0 => ?_)
  · have fhc0 : ¬ (a.Issue = b.Issue) := ndT hc0
    refine VRun.seq ?_
    refine VRun.region ?_
    refine VRunO.free VWant.always (OF.fieldAddrO (VEv.tmp (t := (T.op 0 0)) rfl) fa127_1) ?_
    refine VRunO.look VWant.always (OL.loadO1 (t := (T.int .i64 a.Issue)) (VEv.tmp (t := (T.op 0 1)) rfl) rfl rfl st3) ?_
    refine VRunO.free VWant.always (OF.fieldAddrO (VEv.tmp (t := (T.op 1 0)) rfl) fa127_1) ?_
    refine VRunO.look VWant.always (OL.loadO1 (t := (T.int .i64 b.Issue)) (VEv.tmp (t := (T.op 1 1)) rfl) rfl rfl st3) ?_
    refine VRunO.free VWant.always (B.lss (c := (decide (a.Issue < b.Issue))) (VEv.tmp (t := (T.int .i64 a.Issue)) rfl) (VEv.tmp (t := (T.int .i64 b.Issue)) rfl) rfl) ?_
    refine VRunO.free VWant.always (OF.assign (VEv.tmp (t := (T.bool (decide (a.Issue < b.Issue)))) rfl)) ?_
    refine VRunO.nil ?_
    refine vthn.n ?_
    refine VRun.ret ?_
    refine vthn.r ?_
    refine vfin.eq (r' := (T.bool (decide (a.Issue < b.Issue)))) ?_ (vfin.r (VRes.tmp (t := (T.bool (decide (a.Issue < b.Issue)))) rfl VRes.nil) (Give.bool _))
    show (T.bool (decide (a.Issue < b.Issue))) = (T.bool (bUse a b))
    refine congrArg T.bool ?_
    simp only [bUse]; first | (exact decN (by omega)) | (by_cases hb : bWord a.Word b.Word = true <;> simp_all <;> omega)
  · have fhc0 : a.Issue = b.Issue := ndF hc0
    refine VRun.skip ?_
    refine vthn.n ?_
    refine VRun.seq ?_
    refine VRun.region ?_
    refine VRunO.free VWant.always (OF.fieldAddrO (VEv.tmp (t := (T.op 0 0)) rfl) fa127_0) ?_
    refine VRunO.look VWant.always (OL.loadO1 (t := (T.str a.Word)) (VEv.tmp (t := (T.op 0 0)) rfl) rfl rfl st9) ?_
    refine VRunO.free VWant.always (OF.fieldAddrO (VEv.tmp (t := (T.op 1 0)) rfl) fa127_0) ?_
    refine VRunO.look VWant.always (OL.loadO1 (t := (T.str b.Word)) (VEv.tmp (t := (T.op 1 0)) rfl) rfl rfl st9) ?_
    refine VRunO.chain VWant.always (OC.callF (us := [(T.str a.Word), (T.str b.Word)]) (r := (T.bool (bWord a.Word b.Word))) (r' := (T.bool (bWord a.Word b.Word))) (objs := []) rfl (VEvs.cons (VEv.tmp (t := (T.str a.Word)) rfl) (VEvs.cons (VEv.tmp (t := (T.str b.Word)) rfl) VEvs.nil)) (LendL.cons (Lend.pl rfl) (LendL.cons (Lend.pl rfl) (LendL.nil))) (W_impl_BeforeWord (n + 0) a.Word b.Word ) rfl) ?_
    refine VRunO.free VWant.always (OF.assign (VEv.tmp (t := (T.bool (bWord a.Word b.Word))) rfl)) ?_
    refine VRunO.nil ?_
    refine vthn.n ?_
    refine VRun.ret ?_
    refine vfin.eq (r' := (T.bool (bWord a.Word b.Word))) ?_ (vfin.r (VRes.tmp (t := (T.bool (bWord a.Word b.Word))) rfl VRes.nil) (Give.bool _))
    show (T.bool (bWord a.Word b.Word)) = (T.bool (bUse a b))
    refine congrArg T.bool ?_
    simp only [bUse]; first | (exact decN (by omega)) | (by_cases hb : bWord a.Word b.Word = true <;> simp_all <;> omega)
theorem W_spec_AreUses (n : Nat) (a : List D.Used) (hz : zL zUsed a ≤ mx) : Pure (acall Try.prog (n + 3)) 16 [(T.sl false 2 (a.map (eUsed false)))] (T.bool (decide (areUses a))) := by
  refine Pure.intro (rs := [ResultVar.tmp 2]) Try.func16 rfl rfl rfl (E0 := [(0, (T.sl false 2 (a.map (eUsed false))))]) rfl ?_
  have hlim : lim = 1099511627776 := rfl
  have hmx : mx = 1048576 := rfl
  have hmax : maxLen = 9223372036854775807 := rfl
  have ha := zL_len (z := zUsed) a
  have hw : ∀ x ∈ a, x.Word.size ≤ maxLen := fun x hx => by have h1 := zL_mem (z := zUsed) hx; simp only [zUsed] at h1; omega
  refine VRun.seq ?_
  refine VRun.region ?_
  refine VRunO.free VWant.always (OF.assign (VEv.bool false)) ?_
  refine VRunO.nil ?_
  refine vthn.n ?_
  refine VRun.seq ?_
  refine VRun.seq ?_
  refine VRun.region ?_
  refine VRunO.free VWant.always (OF.assign (VEv.int .i64 0)) ?_
  refine VRunO.nil ?_
  refine vthn.n ?_
  refine VRun.block ?_
  refine VRun.loop (A := Nat) (fun s_ => [(0, (T.sl false 2 (a.map (eUsed false)))), (3, (T.int .i64 ((s_ : Nat) : Int)))]) (fun s_ => mkO []) 0 (fun s_ => s_ ≤ a.length ∧ ∀ j, j < s_ → useOk a j) (fun s_ => a.length - s_) (0 : Nat) ?_ (Wk.mk (fun k => k) ?_ ?_ ?_) ?_
  · exact ⟨Nat.zero_le _, fun j hj => by omega⟩
  · exact (ball_cons ⟨rfl, rfl⟩ (ball_cons ⟨(congrArg (T.int .i64) (show 0 = ((0 : Nat) : Int) from (by first | rfl | omega | (simp; done) | (push_cast; omega)))), rfl⟩ (ball_nil)))
  · exact (ball_nil)
  · show List.Nodup ([] : List Nat)
    decide
  · rintro i hI
    have hI' : i ≤ a.length ∧ ∀ j, j < i → useOk a j := hI
    clear hI
    show VRun _ _ _ [(0, (T.sl false 2 (a.map (eUsed false)))), (3, (T.int .i64 ((i : Nat) : Int)))] (mkO []) 0 _
    have hI0 := hI'
    refine VRun.seq ?_
    refine VRun.seq ?_
    refine VRun.region ?_
    refine VRunO.free VWant.always (OF.move (VEv.tmp (t := (T.int .i64 ((i : Nat) : Int))) rfl)) ?_
    refine VRunO.free VWant.always (OF.move (VEv.tmp (t := (T.sl false 2 (a.map (eUsed false)))) rfl)) ?_
    refine VRunO.look VWant.always (B.lenR (m := a.length) (VEv.tmp (t := (T.sl false 2 (a.map (eUsed false)))) rfl) Try.underlying25 (List.length_map ..)) ?_
    refine VRunO.free VWant.always (B.lss (c := (decide (i < a.length))) (VEv.tmp (t := (T.int .i64 ((i : Nat) : Int))) rfl) (VEv.tmp (t := (T.int .i64 ((a.length : Nat) : Int))) rfl) (by first | exact hw _ (List.mem_of_getElem? hx1) | (exact decN (by omega)))) ?_
    refine VRunO.nil ?_
    refine vthn.n ?_
    refine VRun.cond (VEv.tmp (t := (T.bool (decide (i < a.length)))) rfl) (fun hc0 => ?_) (fun hc0 => ?_)
    · have fhc0 : i < a.length := of_decide_eq_true hc0
      refine VRun.skip ?_
      refine vthn.n ?_
      refine VRun.seq ?_
      refine VRun.block ?_
      refine VRun.seq ?_
      refine VRun.draw (B := [[], [], [1, 0], [0, 1, 2], [2, 1, 0, 3], [3, 0, 1, 2, 4], [4, 2, 1, 0, 3, 5], [5, 3, 0, 1, 2, 4, 6], [6, 4, 2, 1, 0, 3, 5, 7], [6, 4, 2, 1, 0, 3, 5, 7], [9, 7, 5, 3, 0, 1, 2, 4, 6, 8], [8, 6, 4, 2, 1, 0, 3, 5, 7, 9, 10], [10, 9, 7, 5, 3, 0, 1, 2, 4, 6, 8, 11], [11, 8, 6, 4, 2, 1, 0, 3, 5, 7, 9, 10, 12], [12, 10, 9, 7, 5, 3, 0, 1, 2, 4, 6, 8, 11, 13], [13, 11, 8, 9, 10, 12, 14, 6, 4, 2, 1, 0, 3, 5, 7], [7, 5, 3, 0, 1, 2, 4, 6, 14, 12, 10, 9, 8, 11, 13, 15], [15, 13, 11, 8, 9, 10, 12, 14, 6, 4, 2, 1, 0, 3, 5, 7, 16], [16, 7, 5, 3, 0, 1, 2, 4, 6, 14, 12, 10, 9, 8, 11, 13, 15, 17], [17, 15, 13, 11, 8, 9, 10, 12, 14, 6, 4, 2, 1, 0, 3, 5, 7, 16, 18], [18, 16, 7, 5, 3, 0, 1, 2, 4, 6, 14, 12, 10, 9, 8, 11, 13, 15, 17, 19], [18, 16, 7, 5, 3, 0, 1, 2, 4, 6, 14, 12, 10, 9, 8, 11, 13, 15, 17, 19], [19, 17, 15, 13, 11, 8, 9, 10, 12, 14, 6, 4, 2, 1, 0, 3, 5, 7, 16, 18, 21], [21, 22, 19, 17, 15, 13, 11, 8, 9, 10, 12, 14, 6, 4, 2, 1, 0, 3, 5, 7, 16, 18, 20], [20, 18, 16, 7, 5, 3, 0, 1, 2, 4, 6, 14, 12, 10, 9, 8, 11, 13, 15, 17, 19, 22, 21, 23], [18, 16, 7, 5, 3, 0, 1, 2, 4, 6, 14, 12, 10, 9, 8, 11, 13, 15, 17, 19], [18, 16, 7, 5, 3, 0, 1, 2, 4, 6, 14, 12, 10, 9, 8, 11, 13, 15, 17, 19], [26, 19, 17, 15, 13, 11, 8, 9, 10, 12, 14, 6, 4, 2, 1, 0, 3, 5, 7, 16, 18, 25], [25, 18, 16, 7, 5, 3, 0, 1, 2, 4, 6, 14, 12, 10, 9, 8, 11, 13, 15, 17, 19, 26, 27], [27, 26, 25, 28, 23, 21, 22, 19, 17, 15, 13, 11, 8, 9, 10, 12, 14, 6, 4, 2, 1, 0, 3, 5, 7, 16, 18, 20, 24], [24, 20, 18, 16, 7, 5, 3, 0, 1, 2, 4, 6, 14, 12, 10, 9, 8, 11, 13, 15, 17, 19, 22, 21, 23, 28, 25, 26, 27, 29], [29, 27, 26, 25, 28, 23, 21, 22, 20, 24, 30, 18, 16, 7, 5, 3, 0, 1, 2, 4, 6, 14, 12, 10, 9, 8, 11, 13, 15, 17, 19], [19, 17, 18, 30, 24, 20, 22, 21, 23, 28, 25, 26, 27, 29, 31, 15, 13, 11, 8, 9, 10, 12, 14, 6, 4, 2, 1, 0, 3, 5, 7, 16]]) (by kernel_rfl) (by kernel_rfl) ?_
      refine VRunD.free rfl VWant.always rfl (OF.move (VEv.tmp (t := (T.sl false 2 (a.map (eUsed false)))) rfl)) ?_
      refine VRunD.free rfl VWant.always rfl (OF.move (VEv.tmp (t := (T.int .i64 ((i : Nat) : Int))) rfl)) ?_
      obtain ⟨x1, hx1⟩ : ∃ x, a[i]? = some x := ⟨_, List.getElem?_eq_getElem (by first | exact hw _ (List.mem_of_getElem? hx1) | omega | (simp only [List.length_map]; omega) | (simp only [List.length_map, List.length_append, List.length_cons, List.length_nil, List.length_replicate, List.length_set, List.length_drop, List.length_take, lim] at *; omega))⟩
      refine VRunD.free rfl VWant.always rfl (OF.indexAddrR (row := (eUsed false x1)) (i := i) (VEv.tmp (t := (T.sl false 2 (a.map (eUsed false)))) rfl) (VEv.tmp (t := (T.int .i64 ((i : Nat) : Int))) rfl) rfl (map_at _ hx1) Try.underlying25 sz127 if127) ?_
      refine VRunD.free rfl VWant.always rfl (B.fieldAddrR (us := [(T.str x1.Word), (T.int .i64 x1.Issue)]) (VEv.tmp (t := (T.rp [(T.str x1.Word), (T.int .i64 x1.Issue)])) rfl) (Nat.le_of_ble_eq_true rfl) fa127_0 rfl) ?_
      refine VRunD.look rfl VWant.always rfl (OL.loadR1 (t := (T.str x1.Word)) (VEv.tmp (t := (T.rp [(T.str x1.Word), (T.int .i64 x1.Issue)])) rfl) rfl st9) ?_
      refine VRunD.quiet (bi := [3, 0, 1, 2, 4]) rfl VWant.always rfl rfl rfl (ball_nil) (OC.callF (us := [(T.str x1.Word)]) (r := (T.bool (decide (isWord x1.Word)))) (r' := (T.bool (decide (isWord x1.Word)))) (objs := []) rfl (VEvs.cons (VEv.tmp (t := (T.str x1.Word)) rfl) VEvs.nil) (LendL.cons (Lend.pl rfl) (LendL.nil)) (W_spec_IsWord (n + 0) x1.Word (by first | exact hw _ (List.mem_of_getElem? hx1) | assumption | omega | (simp only [List.length_map]; omega) | (simp only [List.length_map, List.length_append, List.length_cons, List.length_nil, List.length_replicate, List.length_set, List.length_drop, List.length_take, lim] at *; omega))) rfl) ?_
      refine VRunD.free rfl VWant.always rfl (B.not (c := (!(decide (isWord x1.Word)))) (VEv.tmp (t := (T.bool (decide (isWord x1.Word)))) rfl) rfl) ?_
      refine VRunD.free rfl VWant.always rfl (OF.move (VEv.tmp (t := (T.bool (!(decide (isWord x1.Word))))) rfl)) ?_
      refine bool_way (!(decide (isWord x1.Word))) (fun hg17_1 => ?_) (fun hg17_1 => ?_)
      · have fhg17_1 : ¬ (isWord x1.Word) := ndT hg17_1
        refine VRunD.off rfl (VWant.not (b := (!(decide (isWord x1.Word)))) rfl rfl hg17_1) ?_
        refine VRunD.off rfl (VWant.not (b := (!(decide (isWord x1.Word)))) rfl rfl hg17_1) ?_
        refine VRunD.off rfl (VWant.not (b := (!(decide (isWord x1.Word)))) rfl rfl hg17_1) ?_
        refine VRunD.off rfl (VWant.not (b := (!(decide (isWord x1.Word)))) rfl rfl hg17_1) ?_
        refine VRunD.off rfl (VWant.not (b := (!(decide (isWord x1.Word)))) rfl rfl hg17_1) ?_
        refine VRunD.off rfl (VWant.not (b := (!(decide (isWord x1.Word)))) rfl rfl hg17_1) ?_
        refine VRunD.off rfl (VWant.not (b := (!(decide (isWord x1.Word)))) rfl rfl hg17_1) ?_
        refine VRunD.free rfl VWant.always rfl (OF.pickT (VEv.tmpB (b := (!(decide (isWord x1.Word)))) rfl hg17_1) (VEv.bool true)) ?_
        refine VRunD.free rfl VWant.always rfl (OF.move (VEv.tmp (t := (T.bool true)) rfl)) ?_
        refine VRunD.off rfl (VWant.not (b := true) rfl rfl rfl) ?_
        refine VRunD.off rfl (VWant.not (b := true) rfl rfl rfl) ?_
        refine VRunD.off rfl (VWant.not (b := true) rfl rfl rfl) ?_
        refine VRunD.off rfl (VWant.undef rfl rfl) ?_
        refine VRunD.off rfl (VWant.undef rfl rfl) ?_
        refine VRunD.off rfl (VWant.undef rfl rfl) ?_
        refine VRunD.off rfl (VWant.undef rfl rfl) ?_
        refine VRunD.off rfl (VWant.undef rfl rfl) ?_
        refine VRunD.off rfl (VWant.undef rfl rfl) ?_
        refine VRunD.off rfl (VWant.undef rfl rfl) ?_
        refine VRunD.off rfl (VWant.undef rfl rfl) ?_
        refine VRunD.off rfl (VWant.undef rfl rfl) ?_
        refine VRunD.off rfl (VWant.undef rfl rfl) ?_
        refine VRunD.off rfl (VWant.undef rfl rfl) ?_
        refine VRunD.off rfl (VWant.not (b := true) rfl rfl rfl) ?_
        refine VRunD.free rfl VWant.always rfl (OF.pickT (VEv.tmp (t := (T.bool true)) rfl) (VEv.bool true)) ?_
        refine VRunD.nil ?_
        refine vthn.n ?_
        refine VRun.cond (VEv.tmp (t := (T.bool true)) rfl) (fun hk2 => ?_) (fun hk2 => ?_)
        · skip
          refine VRun.seq ?_
          refine VRun.region ?_
          refine VRunO.free VWant.always (OF.assign (VEv.bool false)) ?_
          refine VRunO.nil ?_
          refine vthn.n ?_
          refine VRun.ret ?_
          refine vinB.r ?_
          refine vthn.r ?_
          refine vthn.r ?_
          refine vinB.r ?_
          refine vthn.r ?_
          refine vfin.eq (r' := (T.bool false)) ?_ (vfin.r (VRes.tmp (t := (T.bool false)) rfl VRes.nil) (Give.bool _))
          show (T.bool false) = (T.bool (decide (areUses a)))
          refine congrArg T.bool ?_
          first | (refine decN ⟨fun h => ⟨by omega, allEnd hI' fhc0⟩, fun h => by have := h.1; omega⟩) | (symm; rw [decide_eq_false_iff_not]; rintro ⟨_, h2⟩; obtain ⟨y, hy, h3, h4, h5⟩ := h2 i fhc0; obtain rfl := same_at hx1 hy; first | omega | contradiction | (obtain ⟨z, hz, h6⟩ := h5 (by omega); obtain rfl := same_at hx2 hz; simp_all; done) | (simp_all; done))
        · exact absurd (rfl.symm.trans hk2) (by decide)
      · have fhg17_1 : isWord x1.Word := ndF hg17_1
        refine VRunD.free rfl (VWant.on (b := (!(decide (isWord x1.Word)))) rfl rfl hg17_1) rfl (OF.move (VEv.tmp (t := (T.sl false 2 (a.map (eUsed false)))) rfl)) ?_
        refine VRunD.free rfl (VWant.on (b := (!(decide (isWord x1.Word)))) rfl rfl hg17_1) rfl (OF.move (VEv.tmp (t := (T.int .i64 ((i : Nat) : Int))) rfl)) ?_
        refine VRunD.free rfl (VWant.on (b := (!(decide (isWord x1.Word)))) rfl rfl hg17_1) rfl (OF.indexAddrR (row := (eUsed false x1)) (i := i) (VEv.tmp (t := (T.sl false 2 (a.map (eUsed false)))) rfl) (VEv.tmp (t := (T.int .i64 ((i : Nat) : Int))) rfl) rfl (map_at _ hx1) Try.underlying25 sz127 if127) ?_
        refine VRunD.free rfl (VWant.on (b := (!(decide (isWord x1.Word)))) rfl rfl hg17_1) rfl (B.fieldAddrR (us := [(T.int .i64 x1.Issue)]) (VEv.tmp (t := (T.rp [(T.str x1.Word), (T.int .i64 x1.Issue)])) rfl) (Nat.le_of_ble_eq_true rfl) fa127_1 rfl) ?_
        refine VRunD.look rfl (VWant.on (b := (!(decide (isWord x1.Word)))) rfl rfl hg17_1) rfl (OL.loadR1 (t := (T.int .i64 x1.Issue)) (VEv.tmp (t := (T.rp [(T.int .i64 x1.Issue)])) rfl) rfl st3) ?_
        refine VRunD.quiet (bi := [11, 8, 6, 4, 2, 1, 0, 3, 5, 7, 9, 10, 12]) rfl (VWant.on (b := (!(decide (isWord x1.Word)))) rfl rfl hg17_1) rfl rfl rfl (ball_nil) (OC.callF (us := [(T.int .i64 x1.Issue), (T.int .i64 1), (T.int .i64 999)]) (r := (T.bool (decide (1 ≤ x1.Issue ∧ x1.Issue ≤ 999)))) (r' := (T.bool (decide (1 ≤ x1.Issue ∧ x1.Issue ≤ 999)))) (objs := []) rfl (VEvs.cons (VEv.tmp (t := (T.int .i64 x1.Issue)) rfl) (VEvs.cons (VEv.int .i64 1) (VEvs.cons (VEv.int .i64 999) VEvs.nil))) (LendL.cons (Lend.pl rfl) (LendL.cons (Lend.pl rfl) (LendL.cons (Lend.pl rfl) (LendL.nil)))) (W_spec_l1In (n + 1) x1.Issue 1 999 ) rfl) ?_
        refine VRunD.free rfl (VWant.on (b := (!(decide (isWord x1.Word)))) rfl rfl hg17_1) rfl (B.not (c := (!(decide (1 ≤ x1.Issue ∧ x1.Issue ≤ 999)))) (VEv.tmp (t := (T.bool (decide (1 ≤ x1.Issue ∧ x1.Issue ≤ 999)))) rfl) rfl) ?_
        refine VRunD.free rfl VWant.always rfl (OF.pickF (VEv.tmpB (b := (!(decide (isWord x1.Word)))) rfl hg17_1) (VEv.tmp (t := (T.bool (!(decide (1 ≤ x1.Issue ∧ x1.Issue ≤ 999))))) rfl)) ?_
        refine VRunD.free rfl VWant.always rfl (OF.move (VEv.tmp (t := (T.bool (!(decide (1 ≤ x1.Issue ∧ x1.Issue ≤ 999))))) rfl)) ?_
        refine bool_way (!(decide (1 ≤ x1.Issue ∧ x1.Issue ≤ 999))) (fun hg26_3 => ?_) (fun hg26_3 => ?_)
        · have fhg26_3 : ¬ (1 ≤ x1.Issue ∧ x1.Issue ≤ 999) := ndT hg26_3
          refine VRunD.off rfl (VWant.not (b := (!(decide (1 ≤ x1.Issue ∧ x1.Issue ≤ 999)))) rfl rfl hg26_3) ?_
          refine VRunD.off rfl (VWant.not (b := (!(decide (1 ≤ x1.Issue ∧ x1.Issue ≤ 999)))) rfl rfl hg26_3) ?_
          refine VRunD.off rfl (VWant.not (b := (!(decide (1 ≤ x1.Issue ∧ x1.Issue ≤ 999)))) rfl rfl hg26_3) ?_
          refine VRunD.off rfl (VWant.undef rfl rfl) ?_
          refine VRunD.off rfl (VWant.undef rfl rfl) ?_
          refine VRunD.off rfl (VWant.undef rfl rfl) ?_
          refine VRunD.off rfl (VWant.undef rfl rfl) ?_
          refine VRunD.off rfl (VWant.undef rfl rfl) ?_
          refine VRunD.off rfl (VWant.undef rfl rfl) ?_
          refine VRunD.off rfl (VWant.undef rfl rfl) ?_
          refine VRunD.off rfl (VWant.undef rfl rfl) ?_
          refine VRunD.off rfl (VWant.undef rfl rfl) ?_
          refine VRunD.off rfl (VWant.undef rfl rfl) ?_
          refine VRunD.off rfl (VWant.undef rfl rfl) ?_
          refine VRunD.off rfl (VWant.not (b := (!(decide (1 ≤ x1.Issue ∧ x1.Issue ≤ 999)))) rfl rfl hg26_3) ?_
          refine VRunD.free rfl VWant.always rfl (OF.pickT (VEv.tmpB (b := (!(decide (1 ≤ x1.Issue ∧ x1.Issue ≤ 999)))) rfl hg26_3) (VEv.bool true)) ?_
          refine VRunD.nil ?_
          refine vthn.n ?_
          refine VRun.cond (VEv.tmp (t := (T.bool true)) rfl) (fun hk4 => ?_) (fun hk4 => ?_)
          · skip
            refine VRun.seq ?_
            refine VRun.region ?_
            refine VRunO.free VWant.always (OF.assign (VEv.bool false)) ?_
            refine VRunO.nil ?_
            refine vthn.n ?_
            refine VRun.ret ?_
            refine vinB.r ?_
            refine vthn.r ?_
            refine vthn.r ?_
            refine vinB.r ?_
            refine vthn.r ?_
            refine vfin.eq (r' := (T.bool false)) ?_ (vfin.r (VRes.tmp (t := (T.bool false)) rfl VRes.nil) (Give.bool _))
            show (T.bool false) = (T.bool (decide (areUses a)))
            refine congrArg T.bool ?_
            first | (refine decN ⟨fun h => ⟨by omega, allEnd hI' fhc0⟩, fun h => by have := h.1; omega⟩) | (symm; rw [decide_eq_false_iff_not]; rintro ⟨_, h2⟩; obtain ⟨y, hy, h3, h4, h5⟩ := h2 i fhc0; obtain rfl := same_at hx1 hy; first | omega | contradiction | (obtain ⟨z, hz, h6⟩ := h5 (by omega); obtain rfl := same_at hx2 hz; simp_all; done) | (simp_all; done))
          · exact absurd (rfl.symm.trans hk4) (by decide)
        · have fhg26_3 : 1 ≤ x1.Issue ∧ x1.Issue ≤ 999 := ndF hg26_3
          refine VRunD.free rfl (VWant.on (b := (!(decide (1 ≤ x1.Issue ∧ x1.Issue ≤ 999)))) rfl rfl hg26_3) rfl (OF.move (VEv.tmp (t := (T.int .i64 ((i : Nat) : Int))) rfl)) ?_
          refine VRunD.free rfl (VWant.on (b := (!(decide (1 ≤ x1.Issue ∧ x1.Issue ≤ 999)))) rfl rfl hg26_3) rfl (B.gtr (c := (decide (0 < i))) (VEv.tmp (t := (T.int .i64 ((i : Nat) : Int))) rfl) (VEv.int .i64 0) (by first | exact hw _ (List.mem_of_getElem? hx1) | (exact decN (by omega)))) ?_
          refine VRunD.free rfl (VWant.on (b := (!(decide (1 ≤ x1.Issue ∧ x1.Issue ≤ 999)))) rfl rfl hg26_3) rfl (OF.move (VEv.tmp (t := (T.bool (decide (0 < i)))) rfl)) ?_
          refine bool_way (decide (0 < i)) (fun hg29_5 => ?_) (fun hg29_5 => ?_)
          · have fhg29_5 : 0 < i := of_decide_eq_true hg29_5
            refine VRunD.free rfl (VWant.on (b := (decide (0 < i))) rfl rfl hg29_5) rfl (OF.move (VEv.tmp (t := (T.sl false 2 (a.map (eUsed false)))) rfl)) ?_
            refine VRunD.free rfl (VWant.on (b := (decide (0 < i))) rfl rfl hg29_5) rfl (OF.move (VEv.tmp (t := (T.int .i64 ((i : Nat) : Int))) rfl)) ?_
            refine VRunD.free rfl (VWant.on (b := (decide (0 < i))) rfl rfl hg29_5) rfl (B.sub (n := ((i - 1 : Nat) : Int)) (VEv.tmp (t := (T.int .i64 ((i : Nat) : Int))) rfl) (VEv.int .i64 1) (by first | exact hw _ (List.mem_of_getElem? hx1) | rfl | (rw [wrap64 (by omega)]; done) | (rw [wrap64 (by omega)]; omega) | (rw [wrap64 (by omega)]; push_cast; omega) | omega)) ?_
            obtain ⟨x2, hx2⟩ : ∃ x, a[i - 1]? = some x := ⟨_, List.getElem?_eq_getElem (by first | exact hw _ (List.mem_of_getElem? hx1) | omega | (simp only [List.length_map]; omega) | (simp only [List.length_map, List.length_append, List.length_cons, List.length_nil, List.length_replicate, List.length_set, List.length_drop, List.length_take, lim] at *; omega))⟩
            refine VRunD.free rfl (VWant.on (b := (decide (0 < i))) rfl rfl hg29_5) rfl (OF.indexAddrR (row := (eUsed false x2)) (i := i - 1) (VEv.tmp (t := (T.sl false 2 (a.map (eUsed false)))) rfl) (VEv.tmp (t := (T.int .i64 ((i - 1 : Nat) : Int))) rfl) rfl (map_at _ hx2) Try.underlying25 sz127 if127) ?_
            refine VRunD.look rfl (VWant.on (b := (decide (0 < i))) rfl rfl hg29_5) rfl (OL.loadRn (us := (eUsed false x2)) (VEv.tmp (t := (T.rp [(T.str x2.Word), (T.int .i64 x2.Issue)])) rfl) st127 sz127 (Nat.le_of_ble_eq_true rfl) rfl) ?_
            refine VRunD.free rfl (VWant.on (b := (decide (0 < i))) rfl rfl hg29_5) rfl (OF.move (VEv.tmp (t := (T.sl false 2 (a.map (eUsed false)))) rfl)) ?_
            refine VRunD.free rfl (VWant.on (b := (decide (0 < i))) rfl rfl hg29_5) rfl (OF.move (VEv.tmp (t := (T.int .i64 ((i : Nat) : Int))) rfl)) ?_
            refine VRunD.free rfl (VWant.on (b := (decide (0 < i))) rfl rfl hg29_5) rfl (OF.indexAddrR (row := (eUsed false x1)) (i := i) (VEv.tmp (t := (T.sl false 2 (a.map (eUsed false)))) rfl) (VEv.tmp (t := (T.int .i64 ((i : Nat) : Int))) rfl) rfl (map_at _ hx1) Try.underlying25 sz127 if127) ?_
            refine VRunD.look rfl (VWant.on (b := (decide (0 < i))) rfl rfl hg29_5) rfl (OL.loadRn (us := (eUsed false x1)) (VEv.tmp (t := (T.rp [(T.str x1.Word), (T.int .i64 x1.Issue)])) rfl) st127 sz127 (Nat.le_of_ble_eq_true rfl) rfl) ?_
            refine VRunD.quiet (bi := [27, 26, 25, 28, 23, 21, 22, 19, 17, 15, 13, 11, 8, 9, 10, 12, 14, 6, 4, 2, 1, 0, 3, 5, 7, 16, 18, 20, 24]) rfl (VWant.on (b := (decide (0 < i))) rfl rfl hg29_5) rfl rfl rfl (ball_nil) (OC.callF (us := [(T.agg (eUsed false x2)), (T.agg (eUsed false x1))]) (r := (T.bool (bUse x2 x1))) (r' := (T.bool (bUse x2 x1))) (objs := []) rfl (VEvs.cons (VEv.tmp (t := (T.agg (eUsed false x2))) rfl) (VEvs.cons (VEv.tmp (t := (T.agg (eUsed false x1))) rfl) VEvs.nil)) (LendL.cons (Lend.agg (LendL.cons (Lend.pl rfl) (LendL.cons (Lend.pl rfl) (LendL.nil)))) (LendL.cons (Lend.agg (LendL.cons (Lend.pl rfl) (LendL.cons (Lend.pl rfl) (LendL.nil)))) (LendL.nil))) (W_spec_l29Before (n + 0) x2 x1 ) rfl) ?_
            refine VRunD.free rfl (VWant.on (b := (decide (0 < i))) rfl rfl hg29_5) rfl (B.not (c := (!(bUse x2 x1))) (VEv.tmp (t := (T.bool (bUse x2 x1))) rfl) rfl) ?_
            refine VRunD.free rfl (VWant.on (b := (!(decide (1 ≤ x1.Issue ∧ x1.Issue ≤ 999)))) rfl rfl hg26_3) rfl (OF.pickT (VEv.tmpB (b := (decide (0 < i))) rfl hg29_5) (VEv.tmp (t := (T.bool (!(bUse x2 x1)))) rfl)) ?_
            refine VRunD.free rfl VWant.always rfl (OF.pickF (VEv.tmpB (b := (!(decide (1 ≤ x1.Issue ∧ x1.Issue ≤ 999)))) rfl hg26_3) (VEv.tmp (t := (T.bool (!(bUse x2 x1)))) rfl)) ?_
            refine VRunD.nil ?_
            refine vthn.n ?_
            refine VRun.cond (VEv.tmp (t := (T.bool (!(bUse x2 x1)))) rfl) (fun hc1 => ?_) (fun hc1 => ?_)
            · have fhc1 : (bUse x2 x1) = false := notT hc1
              refine VRun.seq ?_
              refine VRun.region ?_
              refine VRunO.free VWant.always (OF.assign (VEv.bool false)) ?_
              refine VRunO.nil ?_
              refine vthn.n ?_
              refine VRun.ret ?_
              refine vinB.r ?_
              refine vthn.r ?_
              refine vthn.r ?_
              refine vinB.r ?_
              refine vthn.r ?_
              refine vfin.eq (r' := (T.bool false)) ?_ (vfin.r (VRes.tmp (t := (T.bool false)) rfl VRes.nil) (Give.bool _))
              show (T.bool false) = (T.bool (decide (areUses a)))
              refine congrArg T.bool ?_
              first | (refine decN ⟨fun h => ⟨by omega, allEnd hI' fhc0⟩, fun h => by have := h.1; omega⟩) | (symm; rw [decide_eq_false_iff_not]; rintro ⟨_, h2⟩; obtain ⟨y, hy, h3, h4, h5⟩ := h2 i fhc0; obtain rfl := same_at hx1 hy; first | omega | contradiction | (obtain ⟨z, hz, h6⟩ := h5 (by omega); obtain rfl := same_at hx2 hz; simp_all; done) | (simp_all; done))
            · have fhc1 : (bUse x2 x1) = true := notF hc1
              refine VRun.skip ?_
              refine vinB.n ?_
              refine vthn.n ?_
              refine VRun.region ?_
              refine VRunO.free VWant.always (OF.move (VEv.tmp (t := (T.int .i64 ((i : Nat) : Int))) rfl)) ?_
              refine VRunO.free VWant.always (B.add (n := (((i + 1) : Nat) : Int)) (VEv.tmp (t := (T.int .i64 ((i : Nat) : Int))) rfl) (VEv.int .i64 1) (by first | exact hw _ (List.mem_of_getElem? hx1) | rfl | (rw [wrap64 (by omega)]; done) | (rw [wrap64 (by omega)]; omega) | (rw [wrap64 (by omega)]; push_cast; omega) | omega)) ?_
              refine VRunO.free VWant.always (OF.assign (VEv.tmp (t := (T.int .i64 (((i + 1) : Nat) : Int))) rfl)) ?_
              refine VRunO.nil ?_
              refine vthn.n ?_
              refine ⟨(i + 1 : Nat), ?_, ?_, Wk.mk (fun k => k) ?_ ?_ ?_⟩
              · refine allNext hI0 fhc0 ⟨x1, hx1, by assumption, by omega, fun h0 => ?_⟩
                first | (exact absurd h0 (by omega)) | (exact ⟨x2, hx2, by simp_all⟩)
              · first | omega | (simp only []; omega) | (show _ < _; omega) | (simp; omega)
              · exact (ball_cons ⟨rfl, rfl⟩ (ball_cons ⟨rfl, rfl⟩ (ball_nil)))
              · exact (ball_nil)
              · show List.Nodup ([] : List Nat)
                decide
          · have fhg29_5 : ¬ (0 < i) := of_decide_eq_false hg29_5
            refine VRunD.off rfl (VWant.not (b := (decide (0 < i))) rfl rfl hg29_5) ?_
            refine VRunD.off rfl (VWant.not (b := (decide (0 < i))) rfl rfl hg29_5) ?_
            refine VRunD.off rfl (VWant.not (b := (decide (0 < i))) rfl rfl hg29_5) ?_
            refine VRunD.off rfl (VWant.not (b := (decide (0 < i))) rfl rfl hg29_5) ?_
            refine VRunD.off rfl (VWant.not (b := (decide (0 < i))) rfl rfl hg29_5) ?_
            refine VRunD.off rfl (VWant.not (b := (decide (0 < i))) rfl rfl hg29_5) ?_
            refine VRunD.off rfl (VWant.not (b := (decide (0 < i))) rfl rfl hg29_5) ?_
            refine VRunD.off rfl (VWant.not (b := (decide (0 < i))) rfl rfl hg29_5) ?_
            refine VRunD.off rfl (VWant.not (b := (decide (0 < i))) rfl rfl hg29_5) ?_
            refine VRunD.off rfl (VWant.not (b := (decide (0 < i))) rfl rfl hg29_5) ?_
            refine VRunD.off rfl (VWant.not (b := (decide (0 < i))) rfl rfl hg29_5) ?_
            refine VRunD.free rfl (VWant.on (b := (!(decide (1 ≤ x1.Issue ∧ x1.Issue ≤ 999)))) rfl rfl hg26_3) rfl (OF.pickF (VEv.tmpB (b := (decide (0 < i))) rfl hg29_5) (VEv.bool false)) ?_
            refine VRunD.free rfl VWant.always rfl (OF.pickF (VEv.tmpB (b := (!(decide (1 ≤ x1.Issue ∧ x1.Issue ≤ 999)))) rfl hg26_3) (VEv.tmp (t := (T.bool false)) rfl)) ?_
            refine VRunD.nil ?_
            refine vthn.n ?_
            refine VRun.cond (VEv.tmp (t := (T.bool false)) rfl) (fun hk6 => ?_) (fun hk6 => ?_)
            · exact absurd (rfl.symm.trans hk6) (by decide)
            · skip
              refine VRun.skip ?_
              refine vinB.n ?_
              refine vthn.n ?_
              refine VRun.region ?_
              refine VRunO.free VWant.always (OF.move (VEv.tmp (t := (T.int .i64 ((i : Nat) : Int))) rfl)) ?_
              refine VRunO.free VWant.always (B.add (n := (((i + 1) : Nat) : Int)) (VEv.tmp (t := (T.int .i64 ((i : Nat) : Int))) rfl) (VEv.int .i64 1) (by first | exact hw _ (List.mem_of_getElem? hx1) | rfl | (rw [wrap64 (by omega)]; done) | (rw [wrap64 (by omega)]; omega) | (rw [wrap64 (by omega)]; push_cast; omega) | omega)) ?_
              refine VRunO.free VWant.always (OF.assign (VEv.tmp (t := (T.int .i64 (((i + 1) : Nat) : Int))) rfl)) ?_
              refine VRunO.nil ?_
              refine vthn.n ?_
              refine ⟨(i + 1 : Nat), ?_, ?_, Wk.mk (fun k => k) ?_ ?_ ?_⟩
              · refine allNext hI0 fhc0 ⟨x1, hx1, by assumption, by omega, fun h0 => ?_⟩
                first | (exact absurd h0 (by omega)) | (exact ⟨x2, hx2, by simp_all⟩)
              · first | omega | (simp only []; omega) | (show _ < _; omega) | (simp; omega)
              · exact (ball_cons ⟨rfl, rfl⟩ (ball_cons ⟨rfl, rfl⟩ (ball_nil)))
              · exact (ball_nil)
              · show List.Nodup ([] : List Nat)
                decide
    · have fhc0 : ¬ (i < a.length) := of_decide_eq_false hc0
      refine VRun.exit ?_
      refine vthn.e ?_
      refine vthn.e ?_
      refine vinB.e ?_
      refine vthn.n ?_
      refine VRun.seq ?_
      refine VRun.region ?_
      refine VRunO.free VWant.always (OF.move (VEv.tmp (t := (T.sl false 2 (a.map (eUsed false)))) rfl)) ?_
      refine VRunO.look VWant.always (B.lenR (m := a.length) (VEv.tmp (t := (T.sl false 2 (a.map (eUsed false)))) rfl) Try.underlying25 (List.length_map ..)) ?_
      refine VRunO.free VWant.always (B.leq (c := (decide (a.length ≤ 60))) (VEv.tmp (t := (T.int .i64 ((a.length : Nat) : Int))) rfl) (VEv.int .i64 60) (by first | exact hw _ (List.mem_of_getElem? hx1) | (exact decN (by omega)))) ?_
      refine VRunO.free VWant.always (OF.assign (VEv.tmp (t := (T.bool (decide (a.length ≤ 60)))) rfl)) ?_
      refine VRunO.nil ?_
      refine vthn.n ?_
      refine VRun.ret ?_
      refine vfin.eq (r' := (T.bool (decide (a.length ≤ 60)))) ?_ (vfin.r (VRes.tmp (t := (T.bool (decide (a.length ≤ 60)))) rfl VRes.nil) (Give.bool _))
      show (T.bool (decide (a.length ≤ 60))) = (T.bool (decide (areUses a)))
      refine congrArg T.bool ?_
      first | (refine decN ⟨fun h => ⟨by omega, allEnd hI' fhc0⟩, fun h => by have := h.1; omega⟩) | (symm; rw [decide_eq_false_iff_not]; rintro ⟨_, h2⟩; obtain ⟨y, hy, h3, h4, h5⟩ := h2 i fhc0; obtain rfl := same_at hx1 hy; first | omega | contradiction | (obtain ⟨z, hz, h6⟩ := h5 (by omega); obtain rfl := same_at hx2 hz; simp_all; done) | (simp_all; done))
theorem W_impl_AreUses (n : Nat) (a : List D.Used) (hz : zL zUsed a ≤ mx) : Pure (acall Try.prog (n + 3)) 18 [(T.sl false 2 (a.map (eUsed false)))] (T.bool (decide (areUses a))) := by
  refine Pure.intro (rs := [ResultVar.tmp 2]) Try.func18 rfl rfl rfl (E0 := [(0, (T.sl false 2 (a.map (eUsed false))))]) rfl ?_
  have hlim : lim = 1099511627776 := rfl
  have hmx : mx = 1048576 := rfl
  have hmax : maxLen = 9223372036854775807 := rfl
  have ha := zL_len (z := zUsed) a
  have hw : ∀ x ∈ a, x.Word.size ≤ maxLen := fun x hx => by have h1 := zL_mem (z := zUsed) hx; simp only [zUsed] at h1; omega
  refine VRun.seq ?_
  refine VRun.region ?_
  refine VRunO.free VWant.always (OF.assign (VEv.bool false)) ?_
  refine VRunO.nil ?_
  refine vthn.n ?_
  refine VRun.seq ?_
  refine VRun.seq ?_
  refine VRun.region ?_
  refine VRunO.free VWant.always (OF.move (VEv.tmp (t := (T.sl false 2 (a.map (eUsed false)))) rfl)) ?_
  refine VRunO.look VWant.always (B.lenR (m := a.length) (VEv.tmp (t := (T.sl false 2 (a.map (eUsed false)))) rfl) Try.underlying25 (List.length_map ..)) ?_
  refine VRunO.free VWant.always (B.gtr (c := (decide (60 < a.length))) (VEv.tmp (t := (T.int .i64 ((a.length : Nat) : Int))) rfl) (VEv.int .i64 60) (by first | exact hw _ (List.mem_of_getElem? hx1) | (exact decN (by omega)))) ?_
  refine VRunO.nil ?_
  refine vthn.n ?_
  refine VRun.cond (VEv.tmp (t := (T.bool (decide (60 < a.length)))) rfl) (fun hc0 => ?_) (fun hc0 => ?_)
  · have fhc0 : 60 < a.length := of_decide_eq_true hc0
    refine VRun.seq ?_
    refine VRun.region ?_
    refine VRunO.free VWant.always (OF.assign (VEv.bool false)) ?_
    refine VRunO.nil ?_
    refine vthn.n ?_
    refine VRun.ret ?_
    refine vthn.r ?_
    refine vfin.eq (r' := (T.bool false)) ?_ (vfin.r (VRes.tmp (t := (T.bool false)) rfl VRes.nil) (Give.bool _))
    show (T.bool false) = (T.bool (decide (areUses a)))
    refine congrArg T.bool ?_
    first | (symm; rw [decide_eq_false_iff_not]; rintro ⟨h2, _⟩; omega) | (symm; rw [decide_eq_true_eq]; exact ⟨by omega, allEnd hI' fhc1⟩) | (symm; rw [decide_eq_false_iff_not]; rintro ⟨_, h2⟩; obtain ⟨y, hy, h3, h4, h5⟩ := h2 i fhc1; obtain rfl := same_at hx1 hy; first | omega | contradiction | (obtain ⟨z, hz, h6⟩ := h5 (by omega); obtain rfl := same_at hx2 hz; simp_all; done) | (simp_all; done))
  · have fhc0 : ¬ (60 < a.length) := of_decide_eq_false hc0
    refine VRun.skip ?_
    refine vthn.n ?_
    refine VRun.seq ?_
    refine VRun.seq ?_
    refine VRun.region ?_
    refine VRunO.free VWant.always (OF.move (VEv.tmp (t := (T.sl false 2 (a.map (eUsed false)))) rfl)) ?_
    refine VRunO.look VWant.always (B.lenR (m := a.length) (VEv.tmp (t := (T.sl false 2 (a.map (eUsed false)))) rfl) Try.underlying25 (List.length_map ..)) ?_
    refine VRunO.free VWant.always (OF.move (VEv.int .i64 0)) ?_
    refine VRunO.nil ?_
    refine vthn.n ?_
    refine VRun.block ?_
    refine VRun.loop (A := Nat) (fun s_ => [(0, (T.sl false 2 (a.map (eUsed false)))), (8, (T.sl false 2 (a.map (eUsed false)))), (9, (T.int .i64 ((a.length : Nat) : Int))), (10, (T.int .i64 ((s_ : Nat) : Int)))]) (fun s_ => mkO []) 0 (fun s_ => s_ ≤ a.length ∧ ∀ j, j < s_ → useOk a j) (fun s_ => a.length - s_) (0 : Nat) ?_ (Wk.mk (fun k => k) ?_ ?_ ?_) ?_
    · exact ⟨Nat.zero_le _, fun j hj => by omega⟩
    · exact (ball_cons ⟨rfl, rfl⟩ (ball_cons ⟨rfl, rfl⟩ (ball_cons ⟨rfl, rfl⟩ (ball_cons ⟨(congrArg (T.int .i64) (show 0 = ((0 : Nat) : Int) from (by first | rfl | omega | (simp; done) | (push_cast; omega)))), rfl⟩ (ball_nil)))))
    · exact (ball_nil)
    · show List.Nodup ([] : List Nat)
      decide
    · rintro i hI
      have hI' : i ≤ a.length ∧ ∀ j, j < i → useOk a j := hI
      clear hI
      show VRun _ _ _ [(0, (T.sl false 2 (a.map (eUsed false)))), (8, (T.sl false 2 (a.map (eUsed false)))), (9, (T.int .i64 ((a.length : Nat) : Int))), (10, (T.int .i64 ((i : Nat) : Int)))] (mkO []) 0 _
      have hI0 := hI'
      refine VRun.seq ?_
      refine VRun.region ?_
      refine VRunO.free VWant.always (B.lss (c := (decide (i < a.length))) (VEv.tmp (t := (T.int .i64 ((i : Nat) : Int))) rfl) (VEv.tmp (t := (T.int .i64 ((a.length : Nat) : Int))) rfl) (by first | exact hw _ (List.mem_of_getElem? hx1) | (exact decN (by omega)))) ?_
      refine VRunO.nil ?_
      refine vthn.n ?_
      refine VRun.seq ?_
      refine VRun.cond (VEv.tmp (t := (T.bool (decide (i < a.length)))) rfl) (fun hc1 => ?_) (fun hc1 => ?_)
      · have fhc1 : i < a.length := of_decide_eq_true hc1
        refine VRun.skip ?_
        refine vthn.n ?_
        refine VRun.seq ?_
        refine VRun.block ?_
        refine VRun.seq ?_
        refine VRun.region ?_
        refine VRunO.free VWant.always (OF.move (VEv.tmp (t := (T.int .i64 ((i : Nat) : Int))) rfl)) ?_
        obtain ⟨x1, hx1⟩ : ∃ x, a[i]? = some x := ⟨_, List.getElem?_eq_getElem (by first | exact hw _ (List.mem_of_getElem? hx1) | omega | (simp only [List.length_map]; omega) | (simp only [List.length_map, List.length_append, List.length_cons, List.length_nil, List.length_replicate, List.length_set, List.length_drop, List.length_take, lim] at *; omega))⟩
        refine VRunO.free VWant.always (OF.indexAddrR (row := (eUsed false x1)) (i := i) (VEv.tmp (t := (T.sl false 2 (a.map (eUsed false)))) rfl) (VEv.tmp (t := (T.int .i64 ((i : Nat) : Int))) rfl) rfl (map_at _ hx1) Try.underlying25 sz127 if127) ?_
        refine VRunO.look VWant.always (OL.loadRn (us := (eUsed false x1)) (VEv.tmp (t := (T.rp [(T.str x1.Word), (T.int .i64 x1.Issue)])) rfl) st127 sz127 (Nat.le_of_ble_eq_true rfl) rfl) ?_
        refine VRunO.make VWant.always (B.alloc (t := (T.agg [(T.str ByteArray.empty), (T.int .i64 0)])) (ts := [(T.str ByteArray.empty), (T.int .i64 0)]) zo127 zc127 nofun (fun _ => .agg _ _ rfl (RLof (RL.cons (.str _) (RL.cons (.int _ _) (RL.nil _))))) rfl) ?_
        refine VRunO.free VWant.always (OF.assign (VEv.tmp (t := (T.int .i64 ((i : Nat) : Int))) rfl)) ?_
        refine VRunO.chain VWant.always (B.storeO (us := [(T.str x1.Word), (T.int .i64 x1.Issue)]) (ws := [(T.str x1.Word), (T.int .i64 x1.Issue)]) (VEv.tmp (t := (T.op 0 0)) rfl) (VEv.tmp (t := (T.agg (eUsed false x1))) rfl) nofun rfl rfl (Nat.le_of_ble_eq_true rfl) if127 sz127 (ball_cons rfl (ball_cons rfl (ball_nil))) rfl) ?_
        refine VRunO.nil ?_
        refine vthn.n ?_
        refine VRun.seq ?_
        refine VRun.draw (B := [[], [0], [0, 1], [1, 0, 2], [1, 0, 2], [2, 0, 1, 4], [4, 5, 2, 0, 1, 3], [3, 1, 0, 2, 5, 4, 6], [1, 0, 2], [8, 6, 4, 5, 2, 0, 1, 3, 7], [7, 3, 1, 0, 2, 5, 4, 6, 8, 9], [9, 8, 6, 4, 5, 3, 7, 10, 1, 0, 2], [2, 0, 1, 10, 7, 3, 5, 4, 6, 8, 9, 11], [11, 9, 8, 6, 4, 5, 3, 7, 10, 1, 0, 2, 12], [12, 2, 0, 1, 10, 7, 3, 5, 4, 6, 8, 9, 11, 13], [13, 11, 9, 8, 6, 4, 5, 3, 7, 10, 1, 0, 2, 12, 14], [14, 12, 2, 0, 1, 10, 7, 3, 5, 4, 6, 8, 9, 11, 13, 15], [15, 13, 14, 16, 11, 9, 8, 6, 4, 5, 3, 7, 10, 1, 0, 2, 12], [12, 2, 0, 1, 10, 7, 3, 5, 4, 6, 8, 9, 11, 16, 14, 13, 15, 17], [17, 15, 13, 14, 16, 11, 9, 8, 6, 4, 5, 3, 7, 10, 1, 0, 2, 12, 18], [18, 12, 2, 0, 1, 10, 7, 3, 5, 4, 6, 8, 9, 11, 16, 14, 13, 15, 17, 19], [19, 17, 15, 13, 14, 16, 11, 9, 8, 6, 4, 5, 3, 7, 10, 1, 0, 2, 12, 18, 20], [20, 18, 12, 2, 0, 1, 10, 7, 3, 5, 4, 6, 8, 9, 11, 16, 14, 13, 15, 17, 19, 21], [21, 19, 20, 22, 17, 15, 13, 14, 16, 11, 9, 8, 6, 4, 5, 3, 7, 10, 1, 0, 2, 12, 18]]) (by kernel_rfl) (by kernel_rfl) ?_
        refine VRunD.free rfl VWant.always rfl (OF.move (VEv.tmp (t := (T.int .i64 ((i : Nat) : Int))) rfl)) ?_
        refine VRunD.free rfl VWant.always rfl (B.gtr (c := (decide (0 < i))) (VEv.tmp (t := (T.int .i64 ((i : Nat) : Int))) rfl) (VEv.int .i64 0) (by first | exact hw _ (List.mem_of_getElem? hx1) | (exact decN (by omega)))) ?_
        refine VRunD.free rfl VWant.always rfl (OF.move (VEv.tmp (t := (T.bool (decide (0 < i)))) rfl)) ?_
        refine bool_way (decide (0 < i)) (fun hg17_1 => ?_) (fun hg17_1 => ?_)
        · have fhg17_1 : 0 < i := of_decide_eq_true hg17_1
          refine VRunD.free rfl (VWant.on (b := (decide (0 < i))) rfl rfl hg17_1) rfl (OF.move (VEv.tmp (t := (T.sl false 2 (a.map (eUsed false)))) rfl)) ?_
          refine VRunD.free rfl (VWant.on (b := (decide (0 < i))) rfl rfl hg17_1) rfl (OF.move (VEv.tmp (t := (T.int .i64 ((i : Nat) : Int))) rfl)) ?_
          refine VRunD.free rfl (VWant.on (b := (decide (0 < i))) rfl rfl hg17_1) rfl (B.sub (n := ((i - 1 : Nat) : Int)) (VEv.tmp (t := (T.int .i64 ((i : Nat) : Int))) rfl) (VEv.int .i64 1) (by first | exact hw _ (List.mem_of_getElem? hx1) | rfl | (rw [wrap64 (by omega)]; done) | (rw [wrap64 (by omega)]; omega) | (rw [wrap64 (by omega)]; push_cast; omega) | omega)) ?_
          obtain ⟨x2, hx2⟩ : ∃ x, a[i - 1]? = some x := ⟨_, List.getElem?_eq_getElem (by first | exact hw _ (List.mem_of_getElem? hx1) | omega | (simp only [List.length_map]; omega) | (simp only [List.length_map, List.length_append, List.length_cons, List.length_nil, List.length_replicate, List.length_set, List.length_drop, List.length_take, lim] at *; omega))⟩
          refine VRunD.free rfl (VWant.on (b := (decide (0 < i))) rfl rfl hg17_1) rfl (OF.indexAddrR (row := (eUsed false x2)) (i := i - 1) (VEv.tmp (t := (T.sl false 2 (a.map (eUsed false)))) rfl) (VEv.tmp (t := (T.int .i64 ((i - 1 : Nat) : Int))) rfl) rfl (map_at _ hx2) Try.underlying25 sz127 if127) ?_
          refine VRunD.look rfl (VWant.on (b := (decide (0 < i))) rfl rfl hg17_1) rfl (OL.loadRn (us := (eUsed false x2)) (VEv.tmp (t := (T.rp [(T.str x2.Word), (T.int .i64 x2.Issue)])) rfl) st127 sz127 (Nat.le_of_ble_eq_true rfl) rfl) ?_
          refine VRunD.look rfl (VWant.on (b := (decide (0 < i))) rfl rfl hg17_1) rfl (OL.loadOn (us := (eUsed false x1)) (VEv.tmp (t := (T.op 0 0)) rfl) rfl st127 sz127 (Nat.le_of_ble_eq_true rfl) rfl) ?_
          refine VRunD.quiet (bi := [8, 6, 4, 5, 2, 0, 1, 3, 7]) rfl (VWant.on (b := (decide (0 < i))) rfl rfl hg17_1) rfl rfl rfl (ball_nil) (OC.callF (us := [(T.agg (eUsed false x2)), (T.agg (eUsed false x1))]) (r := (T.bool (bUse x2 x1))) (r' := (T.bool (bUse x2 x1))) (objs := []) rfl (VEvs.cons (VEv.tmp (t := (T.agg (eUsed false x2))) rfl) (VEvs.cons (VEv.tmp (t := (T.agg (eUsed false x1))) rfl) VEvs.nil)) (LendL.cons (Lend.agg (LendL.cons (Lend.pl rfl) (LendL.cons (Lend.pl rfl) (LendL.nil)))) (LendL.cons (Lend.agg (LendL.cons (Lend.pl rfl) (LendL.cons (Lend.pl rfl) (LendL.nil)))) (LendL.nil))) (W_impl_beforeUse (n + 0) x2 x1 ) rfl) ?_
          refine VRunD.free rfl (VWant.on (b := (decide (0 < i))) rfl rfl hg17_1) rfl (B.not (c := (!(bUse x2 x1))) (VEv.tmp (t := (T.bool (bUse x2 x1))) rfl) rfl) ?_
          refine VRunD.free rfl VWant.always rfl (OF.pickT (VEv.tmpB (b := (decide (0 < i))) rfl hg17_1) (VEv.tmp (t := (T.bool (!(bUse x2 x1)))) rfl)) ?_
          refine VRunD.free rfl VWant.always rfl (OF.move (VEv.tmp (t := (T.bool (!(bUse x2 x1)))) rfl)) ?_
          refine bool_way (!(bUse x2 x1)) (fun hg27_2 => ?_) (fun hg27_2 => ?_)
          · have fhg27_2 : (bUse x2 x1) = false := notT hg27_2
            refine VRunD.off rfl (VWant.not (b := (!(bUse x2 x1))) rfl rfl hg27_2) ?_
            refine VRunD.off rfl (VWant.not (b := (!(bUse x2 x1))) rfl rfl hg27_2) ?_
            refine VRunD.off rfl (VWant.not (b := (!(bUse x2 x1))) rfl rfl hg27_2) ?_
            refine VRunD.off rfl (VWant.not (b := (!(bUse x2 x1))) rfl rfl hg27_2) ?_
            refine VRunD.free rfl VWant.always rfl (OF.pickT (VEv.tmpB (b := (!(bUse x2 x1))) rfl hg27_2) (VEv.bool true)) ?_
            refine VRunD.free rfl VWant.always rfl (OF.move (VEv.tmp (t := (T.bool true)) rfl)) ?_
            refine VRunD.off rfl (VWant.not (b := true) rfl rfl rfl) ?_
            refine VRunD.off rfl (VWant.not (b := true) rfl rfl rfl) ?_
            refine VRunD.off rfl (VWant.not (b := true) rfl rfl rfl) ?_
            refine VRunD.off rfl (VWant.not (b := true) rfl rfl rfl) ?_
            refine VRunD.free rfl VWant.always rfl (OF.pickT (VEv.tmp (t := (T.bool true)) rfl) (VEv.bool true)) ?_
            refine VRunD.nil ?_
            refine vthn.n ?_
            refine VRun.cond (VEv.tmp (t := (T.bool true)) rfl) (fun hk3 => ?_) (fun hk3 => ?_)
            · skip
              refine VRun.seq ?_
              refine VRun.region ?_
              refine VRunO.free VWant.always (OF.assign (VEv.bool false)) ?_
              refine VRunO.nil ?_
              refine vthn.n ?_
              refine VRun.ret ?_
              refine vinB.r ?_
              refine vthn.r ?_
              refine vthn.r ?_
              refine vinB.r ?_
              refine vthn.r ?_
              refine vfin.eq (r' := (T.bool false)) ?_ (vfin.r (VRes.tmp (t := (T.bool false)) rfl VRes.nil) (Give.bool _))
              show (T.bool false) = (T.bool (decide (areUses a)))
              refine congrArg T.bool ?_
              first | (symm; rw [decide_eq_false_iff_not]; rintro ⟨h2, _⟩; omega) | (symm; rw [decide_eq_true_eq]; exact ⟨by omega, allEnd hI' fhc1⟩) | (symm; rw [decide_eq_false_iff_not]; rintro ⟨_, h2⟩; obtain ⟨y, hy, h3, h4, h5⟩ := h2 i fhc1; obtain rfl := same_at hx1 hy; first | omega | contradiction | (obtain ⟨z, hz, h6⟩ := h5 (by omega); obtain rfl := same_at hx2 hz; simp_all; done) | (simp_all; done))
            · exact absurd (rfl.symm.trans hk3) (by decide)
          · have fhg27_2 : (bUse x2 x1) = true := notF hg27_2
            refine VRunD.free rfl (VWant.on (b := (!(bUse x2 x1))) rfl rfl hg27_2) rfl (OF.fieldAddrO (VEv.tmp (t := (T.op 0 0)) rfl) fa127_0) ?_
            refine VRunD.look rfl (VWant.on (b := (!(bUse x2 x1))) rfl rfl hg27_2) rfl (OL.loadO1 (t := (T.str x1.Word)) (VEv.tmp (t := (T.op 0 0)) rfl) rfl rfl st9) ?_
            refine VRunD.quiet (bi := [13, 11, 9, 8, 6, 4, 5, 3, 7, 10, 1, 0, 2, 12, 14]) rfl (VWant.on (b := (!(bUse x2 x1))) rfl rfl hg27_2) rfl rfl rfl (ball_nil) (OC.callF (us := [(T.str x1.Word)]) (r := (T.bool (decide (isWord x1.Word)))) (r' := (T.bool (decide (isWord x1.Word)))) (objs := []) rfl (VEvs.cons (VEv.tmp (t := (T.str x1.Word)) rfl) VEvs.nil) (LendL.cons (Lend.pl rfl) (LendL.nil)) (W_impl_IsWord (n + 0) x1.Word (by first | exact hw _ (List.mem_of_getElem? hx1) | assumption | omega | (simp only [List.length_map]; omega) | (simp only [List.length_map, List.length_append, List.length_cons, List.length_nil, List.length_replicate, List.length_set, List.length_drop, List.length_take, lim] at *; omega))) rfl) ?_
            refine VRunD.free rfl (VWant.on (b := (!(bUse x2 x1))) rfl rfl hg27_2) rfl (B.not (c := (!(decide (isWord x1.Word)))) (VEv.tmp (t := (T.bool (decide (isWord x1.Word)))) rfl) rfl) ?_
            refine VRunD.free rfl VWant.always rfl (OF.pickF (VEv.tmpB (b := (!(bUse x2 x1))) rfl hg27_2) (VEv.tmp (t := (T.bool (!(decide (isWord x1.Word))))) rfl)) ?_
            refine VRunD.free rfl VWant.always rfl (OF.move (VEv.tmp (t := (T.bool (!(decide (isWord x1.Word))))) rfl)) ?_
            refine bool_way (!(decide (isWord x1.Word))) (fun hg33_4 => ?_) (fun hg33_4 => ?_)
            · have fhg33_4 : ¬ (isWord x1.Word) := ndT hg33_4
              refine VRunD.off rfl (VWant.not (b := (!(decide (isWord x1.Word)))) rfl rfl hg33_4) ?_
              refine VRunD.off rfl (VWant.not (b := (!(decide (isWord x1.Word)))) rfl rfl hg33_4) ?_
              refine VRunD.off rfl (VWant.not (b := (!(decide (isWord x1.Word)))) rfl rfl hg33_4) ?_
              refine VRunD.off rfl (VWant.not (b := (!(decide (isWord x1.Word)))) rfl rfl hg33_4) ?_
              refine VRunD.free rfl VWant.always rfl (OF.pickT (VEv.tmpB (b := (!(decide (isWord x1.Word)))) rfl hg33_4) (VEv.bool true)) ?_
              refine VRunD.nil ?_
              refine vthn.n ?_
              refine VRun.cond (VEv.tmp (t := (T.bool true)) rfl) (fun hk5 => ?_) (fun hk5 => ?_)
              · skip
                refine VRun.seq ?_
                refine VRun.region ?_
                refine VRunO.free VWant.always (OF.assign (VEv.bool false)) ?_
                refine VRunO.nil ?_
                refine vthn.n ?_
                refine VRun.ret ?_
                refine vinB.r ?_
                refine vthn.r ?_
                refine vthn.r ?_
                refine vinB.r ?_
                refine vthn.r ?_
                refine vfin.eq (r' := (T.bool false)) ?_ (vfin.r (VRes.tmp (t := (T.bool false)) rfl VRes.nil) (Give.bool _))
                show (T.bool false) = (T.bool (decide (areUses a)))
                refine congrArg T.bool ?_
                first | (symm; rw [decide_eq_false_iff_not]; rintro ⟨h2, _⟩; omega) | (symm; rw [decide_eq_true_eq]; exact ⟨by omega, allEnd hI' fhc1⟩) | (symm; rw [decide_eq_false_iff_not]; rintro ⟨_, h2⟩; obtain ⟨y, hy, h3, h4, h5⟩ := h2 i fhc1; obtain rfl := same_at hx1 hy; first | omega | contradiction | (obtain ⟨z, hz, h6⟩ := h5 (by omega); obtain rfl := same_at hx2 hz; simp_all; done) | (simp_all; done))
              · exact absurd (rfl.symm.trans hk5) (by decide)
            · have fhg33_4 : isWord x1.Word := ndF hg33_4
              refine VRunD.free rfl (VWant.on (b := (!(decide (isWord x1.Word)))) rfl rfl hg33_4) rfl (OF.fieldAddrO (VEv.tmp (t := (T.op 0 0)) rfl) fa127_1) ?_
              refine VRunD.look rfl (VWant.on (b := (!(decide (isWord x1.Word)))) rfl rfl hg33_4) rfl (OL.loadO1 (t := (T.int .i64 x1.Issue)) (VEv.tmp (t := (T.op 0 1)) rfl) rfl rfl st3) ?_
              refine VRunD.quiet (bi := [19, 17, 15, 13, 14, 16, 11, 9, 8, 6, 4, 5, 3, 7, 10, 1, 0, 2, 12, 18, 20]) rfl (VWant.on (b := (!(decide (isWord x1.Word)))) rfl rfl hg33_4) rfl rfl rfl (ball_nil) (OC.callF (us := [(T.int .i64 x1.Issue), (T.int .i64 1), (T.int .i64 999)]) (r := (T.bool (decide (1 ≤ x1.Issue ∧ x1.Issue ≤ 999)))) (r' := (T.bool (decide (1 ≤ x1.Issue ∧ x1.Issue ≤ 999)))) (objs := []) rfl (VEvs.cons (VEv.tmp (t := (T.int .i64 x1.Issue)) rfl) (VEvs.cons (VEv.int .i64 1) (VEvs.cons (VEv.int .i64 999) VEvs.nil))) (LendL.cons (Lend.pl rfl) (LendL.cons (Lend.pl rfl) (LendL.cons (Lend.pl rfl) (LendL.nil)))) (W_impl_InRange (n + 1) x1.Issue 1 999 ) rfl) ?_
              refine VRunD.free rfl (VWant.on (b := (!(decide (isWord x1.Word)))) rfl rfl hg33_4) rfl (B.not (c := (!(decide (1 ≤ x1.Issue ∧ x1.Issue ≤ 999)))) (VEv.tmp (t := (T.bool (decide (1 ≤ x1.Issue ∧ x1.Issue ≤ 999)))) rfl) rfl) ?_
              refine VRunD.free rfl VWant.always rfl (OF.pickF (VEv.tmpB (b := (!(decide (isWord x1.Word)))) rfl hg33_4) (VEv.tmp (t := (T.bool (!(decide (1 ≤ x1.Issue ∧ x1.Issue ≤ 999))))) rfl)) ?_
              refine VRunD.nil ?_
              refine vthn.n ?_
              refine VRun.cond (VEv.tmp (t := (T.bool (!(decide (1 ≤ x1.Issue ∧ x1.Issue ≤ 999))))) rfl) (fun hc2 => ?_) (fun hc2 => ?_)
              · have fhc2 : ¬ (1 ≤ x1.Issue ∧ x1.Issue ≤ 999) := ndT hc2
                refine VRun.seq ?_
                refine VRun.region ?_
                refine VRunO.free VWant.always (OF.assign (VEv.bool false)) ?_
                refine VRunO.nil ?_
                refine vthn.n ?_
                refine VRun.ret ?_
                refine vinB.r ?_
                refine vthn.r ?_
                refine vthn.r ?_
                refine vinB.r ?_
                refine vthn.r ?_
                refine vfin.eq (r' := (T.bool false)) ?_ (vfin.r (VRes.tmp (t := (T.bool false)) rfl VRes.nil) (Give.bool _))
                show (T.bool false) = (T.bool (decide (areUses a)))
                refine congrArg T.bool ?_
                first | (symm; rw [decide_eq_false_iff_not]; rintro ⟨h2, _⟩; omega) | (symm; rw [decide_eq_true_eq]; exact ⟨by omega, allEnd hI' fhc1⟩) | (symm; rw [decide_eq_false_iff_not]; rintro ⟨_, h2⟩; obtain ⟨y, hy, h3, h4, h5⟩ := h2 i fhc1; obtain rfl := same_at hx1 hy; first | omega | contradiction | (obtain ⟨z, hz, h6⟩ := h5 (by omega); obtain rfl := same_at hx2 hz; simp_all; done) | (simp_all; done))
              · have fhc2 : 1 ≤ x1.Issue ∧ x1.Issue ≤ 999 := ndF hc2
                refine VRun.skip ?_
                refine vinB.n ?_
                refine vthn.n ?_
                refine VRun.region ?_
                refine VRunO.free VWant.always (B.add (n := (((i + 1) : Nat) : Int)) (VEv.tmp (t := (T.int .i64 ((i : Nat) : Int))) rfl) (VEv.int .i64 1) (by first | exact hw _ (List.mem_of_getElem? hx1) | rfl | (rw [wrap64 (by omega)]; done) | (rw [wrap64 (by omega)]; omega) | (rw [wrap64 (by omega)]; push_cast; omega) | omega)) ?_
                refine VRunO.free VWant.always (OF.move (VEv.tmp (t := (T.int .i64 (((i + 1) : Nat) : Int))) rfl)) ?_
                refine VRunO.nil ?_
                refine vthn.n ?_
                refine ⟨(i + 1 : Nat), ?_, ?_, Wk.mk (fun k => k) ?_ ?_ ?_⟩
                · refine allNext hI0 fhc1 ⟨x1, hx1, by assumption, by omega, fun h0 => ?_⟩
                  first | (exact absurd h0 (by omega)) | (exact ⟨x2, hx2, by simp_all⟩)
                · first | omega | (simp only []; omega) | (show _ < _; omega) | (simp; omega)
                · exact (ball_cons ⟨rfl, rfl⟩ (ball_cons ⟨rfl, rfl⟩ (ball_cons ⟨rfl, rfl⟩ (ball_cons ⟨rfl, rfl⟩ (ball_nil)))))
                · exact (ball_nil)
                · show List.Nodup ([] : List Nat)
                  decide
        · have fhg17_1 : ¬ (0 < i) := of_decide_eq_false hg17_1
          refine VRunD.off rfl (VWant.not (b := (decide (0 < i))) rfl rfl hg17_1) ?_
          refine VRunD.off rfl (VWant.not (b := (decide (0 < i))) rfl rfl hg17_1) ?_
          refine VRunD.off rfl (VWant.not (b := (decide (0 < i))) rfl rfl hg17_1) ?_
          refine VRunD.off rfl (VWant.not (b := (decide (0 < i))) rfl rfl hg17_1) ?_
          refine VRunD.off rfl (VWant.not (b := (decide (0 < i))) rfl rfl hg17_1) ?_
          refine VRunD.off rfl (VWant.not (b := (decide (0 < i))) rfl rfl hg17_1) ?_
          refine VRunD.off rfl (VWant.not (b := (decide (0 < i))) rfl rfl hg17_1) ?_
          refine VRunD.off rfl (VWant.not (b := (decide (0 < i))) rfl rfl hg17_1) ?_
          refine VRunD.free rfl VWant.always rfl (OF.pickF (VEv.tmpB (b := (decide (0 < i))) rfl hg17_1) (VEv.bool false)) ?_
          refine VRunD.free rfl VWant.always rfl (OF.move (VEv.tmp (t := (T.bool false)) rfl)) ?_
          refine VRunD.free rfl (VWant.on (b := false) rfl rfl rfl) rfl (OF.fieldAddrO (VEv.tmp (t := (T.op 0 0)) rfl) fa127_0) ?_
          refine VRunD.look rfl (VWant.on (b := false) rfl rfl rfl) rfl (OL.loadO1 (t := (T.str x1.Word)) (VEv.tmp (t := (T.op 0 0)) rfl) rfl rfl st9) ?_
          refine VRunD.quiet (bi := [13, 11, 9, 8, 6, 4, 5, 3, 7, 10, 1, 0, 2, 12, 14]) rfl (VWant.on (b := false) rfl rfl rfl) rfl rfl rfl (ball_nil) (OC.callF (us := [(T.str x1.Word)]) (r := (T.bool (decide (isWord x1.Word)))) (r' := (T.bool (decide (isWord x1.Word)))) (objs := []) rfl (VEvs.cons (VEv.tmp (t := (T.str x1.Word)) rfl) VEvs.nil) (LendL.cons (Lend.pl rfl) (LendL.nil)) (W_impl_IsWord (n + 0) x1.Word (by first | exact hw _ (List.mem_of_getElem? hx1) | assumption | omega | (simp only [List.length_map]; omega) | (simp only [List.length_map, List.length_append, List.length_cons, List.length_nil, List.length_replicate, List.length_set, List.length_drop, List.length_take, lim] at *; omega))) rfl) ?_
          refine VRunD.free rfl (VWant.on (b := false) rfl rfl rfl) rfl (B.not (c := (!(decide (isWord x1.Word)))) (VEv.tmp (t := (T.bool (decide (isWord x1.Word)))) rfl) rfl) ?_
          refine VRunD.free rfl VWant.always rfl (OF.pickF (VEv.tmp (t := (T.bool false)) rfl) (VEv.tmp (t := (T.bool (!(decide (isWord x1.Word))))) rfl)) ?_
          refine VRunD.free rfl VWant.always rfl (OF.move (VEv.tmp (t := (T.bool (!(decide (isWord x1.Word))))) rfl)) ?_
          refine bool_way (!(decide (isWord x1.Word))) (fun hg33_6 => ?_) (fun hg33_6 => ?_)
          · have fhg33_6 : ¬ (isWord x1.Word) := ndT hg33_6
            refine VRunD.off rfl (VWant.not (b := (!(decide (isWord x1.Word)))) rfl rfl hg33_6) ?_
            refine VRunD.off rfl (VWant.not (b := (!(decide (isWord x1.Word)))) rfl rfl hg33_6) ?_
            refine VRunD.off rfl (VWant.not (b := (!(decide (isWord x1.Word)))) rfl rfl hg33_6) ?_
            refine VRunD.off rfl (VWant.not (b := (!(decide (isWord x1.Word)))) rfl rfl hg33_6) ?_
            refine VRunD.free rfl VWant.always rfl (OF.pickT (VEv.tmpB (b := (!(decide (isWord x1.Word)))) rfl hg33_6) (VEv.bool true)) ?_
            refine VRunD.nil ?_
            refine vthn.n ?_
            refine VRun.cond (VEv.tmp (t := (T.bool true)) rfl) (fun hk7 => ?_) (fun hk7 => ?_)
            · skip
              refine VRun.seq ?_
              refine VRun.region ?_
              refine VRunO.free VWant.always (OF.assign (VEv.bool false)) ?_
              refine VRunO.nil ?_
              refine vthn.n ?_
              refine VRun.ret ?_
              refine vinB.r ?_
              refine vthn.r ?_
              refine vthn.r ?_
              refine vinB.r ?_
              refine vthn.r ?_
              refine vfin.eq (r' := (T.bool false)) ?_ (vfin.r (VRes.tmp (t := (T.bool false)) rfl VRes.nil) (Give.bool _))
              show (T.bool false) = (T.bool (decide (areUses a)))
              refine congrArg T.bool ?_
              first | (symm; rw [decide_eq_false_iff_not]; rintro ⟨h2, _⟩; omega) | (symm; rw [decide_eq_true_eq]; exact ⟨by omega, allEnd hI' fhc1⟩) | (symm; rw [decide_eq_false_iff_not]; rintro ⟨_, h2⟩; obtain ⟨y, hy, h3, h4, h5⟩ := h2 i fhc1; obtain rfl := same_at hx1 hy; first | omega | contradiction | (obtain ⟨z, hz, h6⟩ := h5 (by omega); obtain rfl := same_at hx2 hz; simp_all; done) | (simp_all; done))
            · exact absurd (rfl.symm.trans hk7) (by decide)
          · have fhg33_6 : isWord x1.Word := ndF hg33_6
            refine VRunD.free rfl (VWant.on (b := (!(decide (isWord x1.Word)))) rfl rfl hg33_6) rfl (OF.fieldAddrO (VEv.tmp (t := (T.op 0 0)) rfl) fa127_1) ?_
            refine VRunD.look rfl (VWant.on (b := (!(decide (isWord x1.Word)))) rfl rfl hg33_6) rfl (OL.loadO1 (t := (T.int .i64 x1.Issue)) (VEv.tmp (t := (T.op 0 1)) rfl) rfl rfl st3) ?_
            refine VRunD.quiet (bi := [19, 17, 15, 13, 14, 16, 11, 9, 8, 6, 4, 5, 3, 7, 10, 1, 0, 2, 12, 18, 20]) rfl (VWant.on (b := (!(decide (isWord x1.Word)))) rfl rfl hg33_6) rfl rfl rfl (ball_nil) (OC.callF (us := [(T.int .i64 x1.Issue), (T.int .i64 1), (T.int .i64 999)]) (r := (T.bool (decide (1 ≤ x1.Issue ∧ x1.Issue ≤ 999)))) (r' := (T.bool (decide (1 ≤ x1.Issue ∧ x1.Issue ≤ 999)))) (objs := []) rfl (VEvs.cons (VEv.tmp (t := (T.int .i64 x1.Issue)) rfl) (VEvs.cons (VEv.int .i64 1) (VEvs.cons (VEv.int .i64 999) VEvs.nil))) (LendL.cons (Lend.pl rfl) (LendL.cons (Lend.pl rfl) (LendL.cons (Lend.pl rfl) (LendL.nil)))) (W_impl_InRange (n + 1) x1.Issue 1 999 ) rfl) ?_
            refine VRunD.free rfl (VWant.on (b := (!(decide (isWord x1.Word)))) rfl rfl hg33_6) rfl (B.not (c := (!(decide (1 ≤ x1.Issue ∧ x1.Issue ≤ 999)))) (VEv.tmp (t := (T.bool (decide (1 ≤ x1.Issue ∧ x1.Issue ≤ 999)))) rfl) rfl) ?_
            refine VRunD.free rfl VWant.always rfl (OF.pickF (VEv.tmpB (b := (!(decide (isWord x1.Word)))) rfl hg33_6) (VEv.tmp (t := (T.bool (!(decide (1 ≤ x1.Issue ∧ x1.Issue ≤ 999))))) rfl)) ?_
            refine VRunD.nil ?_
            refine vthn.n ?_
            refine VRun.cond (VEv.tmp (t := (T.bool (!(decide (1 ≤ x1.Issue ∧ x1.Issue ≤ 999))))) rfl) (fun hc2 => ?_) (fun hc2 => ?_)
            · have fhc2 : ¬ (1 ≤ x1.Issue ∧ x1.Issue ≤ 999) := ndT hc2
              refine VRun.seq ?_
              refine VRun.region ?_
              refine VRunO.free VWant.always (OF.assign (VEv.bool false)) ?_
              refine VRunO.nil ?_
              refine vthn.n ?_
              refine VRun.ret ?_
              refine vinB.r ?_
              refine vthn.r ?_
              refine vthn.r ?_
              refine vinB.r ?_
              refine vthn.r ?_
              refine vfin.eq (r' := (T.bool false)) ?_ (vfin.r (VRes.tmp (t := (T.bool false)) rfl VRes.nil) (Give.bool _))
              show (T.bool false) = (T.bool (decide (areUses a)))
              refine congrArg T.bool ?_
              first | (symm; rw [decide_eq_false_iff_not]; rintro ⟨h2, _⟩; omega) | (symm; rw [decide_eq_true_eq]; exact ⟨by omega, allEnd hI' fhc1⟩) | (symm; rw [decide_eq_false_iff_not]; rintro ⟨_, h2⟩; obtain ⟨y, hy, h3, h4, h5⟩ := h2 i fhc1; obtain rfl := same_at hx1 hy; first | omega | contradiction | (obtain ⟨z, hz, h6⟩ := h5 (by omega); obtain rfl := same_at hx2 hz; simp_all; done) | (simp_all; done))
            · have fhc2 : 1 ≤ x1.Issue ∧ x1.Issue ≤ 999 := ndF hc2
              refine VRun.skip ?_
              refine vinB.n ?_
              refine vthn.n ?_
              refine VRun.region ?_
              refine VRunO.free VWant.always (B.add (n := (((i + 1) : Nat) : Int)) (VEv.tmp (t := (T.int .i64 ((i : Nat) : Int))) rfl) (VEv.int .i64 1) (by first | exact hw _ (List.mem_of_getElem? hx1) | rfl | (rw [wrap64 (by omega)]; done) | (rw [wrap64 (by omega)]; omega) | (rw [wrap64 (by omega)]; push_cast; omega) | omega)) ?_
              refine VRunO.free VWant.always (OF.move (VEv.tmp (t := (T.int .i64 (((i + 1) : Nat) : Int))) rfl)) ?_
              refine VRunO.nil ?_
              refine vthn.n ?_
              refine ⟨(i + 1 : Nat), ?_, ?_, Wk.mk (fun k => k) ?_ ?_ ?_⟩
              · refine allNext hI0 fhc1 ⟨x1, hx1, by assumption, by omega, fun h0 => ?_⟩
                first | (exact absurd h0 (by omega)) | (exact ⟨x2, hx2, by simp_all⟩)
              · first | omega | (simp only []; omega) | (show _ < _; omega) | (simp; omega)
              · exact (ball_cons ⟨rfl, rfl⟩ (ball_cons ⟨rfl, rfl⟩ (ball_cons ⟨rfl, rfl⟩ (ball_cons ⟨rfl, rfl⟩ (ball_nil)))))
              · exact (ball_nil)
              · show List.Nodup ([] : List Nat)
                decide
      · have fhc1 : ¬ (i < a.length) := of_decide_eq_false hc1
        refine VRun.exit ?_
        refine vthn.e ?_
        refine vthn.e ?_
        refine vinB.e ?_
        refine vthn.n ?_
        refine VRun.seq ?_
        refine VRun.region ?_
        refine VRunO.free VWant.always (OF.assign (VEv.bool true)) ?_
        refine VRunO.nil ?_
        refine vthn.n ?_
        refine VRun.ret ?_
        refine vfin.eq (r' := (T.bool true)) ?_ (vfin.r (VRes.tmp (t := (T.bool true)) rfl VRes.nil) (Give.bool _))
        show (T.bool true) = (T.bool (decide (areUses a)))
        refine congrArg T.bool ?_
        first | (symm; rw [decide_eq_false_iff_not]; rintro ⟨h2, _⟩; omega) | (symm; rw [decide_eq_true_eq]; exact ⟨by omega, allEnd hI' fhc1⟩) | (symm; rw [decide_eq_false_iff_not]; rintro ⟨_, h2⟩; obtain ⟨y, hy, h3, h4, h5⟩ := h2 i fhc1; obtain rfl := same_at hx1 hy; first | omega | contradiction | (obtain ⟨z, hz, h6⟩ := h5 (by omega); obtain rfl := same_at hx2 hz; simp_all; done) | (simp_all; done))
end Go.Proofs.Ythdnjihmjdbdkaa.AE
