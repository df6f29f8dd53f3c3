/- Walks of the program's functions over trees. Conditions: as each theorem states. -/
import Derived.Test.YthdnjihmjdbdkaaKFnExactIsOpenFeq
namespace Go.Proofs.Ythdnjihmjdbdkaa.AE
open Go Go.RowKit
set_option linter.unusedVariables false
set_option linter.unusedSimpArgs false
set_option maxRecDepth 20000
set_option maxHeartbeats 2000000

theorem W_impl_IsOpen (n : Nat) (a : D.Issue) (b : Int)  : Pure (acall Try.prog (n + 1)) 52 [(T.agg (eIssue false a)), (T.int .i64 b)] (T.bool (decide (a.Open ≤ b ∧ b < a.Close))) := by
  refine Pure.intro (rs := [ResultVar.tmp 4]) Try.func52 rfl rfl rfl (E0 := [(0, (T.agg (eIssue false a))), (1, (T.int .i64 b))]) rfl ?_
  have hlim : lim = 1099511627776 := rfl
  have hmx : mx = 1048576 := rfl
  have hmax : maxLen = 9223372036854775807 := rfl
  refine VRun.seq ?_
  refine VRun.region ?_
  refine VRunO.make VWant.always (B.box (ts := [(T.int .i64 a.Number), (T.int .i64 a.Puzzle.Grid.Rows), (T.int .i64 a.Puzzle.Grid.Cols), (T.str a.Puzzle.Grid.Cells), (T.sl false 2 (a.Puzzle.Clues.map (eClue false))), (T.sl false 1 (a.Puzzle.Seals.map (eInt false))), (T.int .i64 a.Puzzle.Salt), (T.str a.Fill), (T.int .i64 a.Open), (T.int .i64 a.Close)]) (VEv.tmp (t := (T.agg (eIssue false a))) rfl) nofun rfl) ?_
  refine VRunO.free VWant.always (OF.assign (VEv.bool false)) ?_
  refine VRunO.nil ?_
  refine vthn.n ?_
  refine VRun.seq ?_
  refine VRun.region ?_
  refine VRunO.free VWant.always (OF.move (VEv.tmp (t := (T.int .i64 b)) rfl)) ?_
  refine VRunO.free VWant.always (OF.fieldAddrO (VEv.tmp (t := (T.op 0 0)) rfl) fa82_3) ?_
  refine VRunO.look VWant.always (OL.loadO1 (t := (T.int .i64 a.Open)) (VEv.tmp (t := (T.op 0 8)) rfl) rfl rfl st3) ?_
  refine VRunO.free VWant.always (B.geq (c := (decide (a.Open ≤ b))) (VEv.tmp (t := (T.int .i64 b)) rfl) (VEv.tmp (t := (T.int .i64 a.Open)) rfl) rfl) ?_
  refine VRunO.free VWant.always (OF.move (VEv.tmp (t := (T.bool (decide (a.Open ≤ b)))) rfl)) ?_
  refine bool_way (decide (a.Open ≤ b)) (fun hg9_1 => ?_) (fun hg9_1 => ?_)
  · have fhg9_1 : a.Open ≤ b := of_decide_eq_true hg9_1
    refine VRunO.free (VWant.on (b := (decide (a.Open ≤ b))) rfl rfl hg9_1) (OF.move (VEv.tmp (t := (T.int .i64 b)) rfl)) ?_
    refine VRunO.free (VWant.on (b := (decide (a.Open ≤ b))) rfl rfl hg9_1) (OF.fieldAddrO (VEv.tmp (t := (T.op 0 0)) rfl) fa82_4) ?_
    refine VRunO.look (VWant.on (b := (decide (a.Open ≤ b))) rfl rfl hg9_1) (OL.loadO1 (t := (T.int .i64 a.Close)) (VEv.tmp (t := (T.op 0 9)) rfl) rfl rfl st3) ?_
    refine VRunO.free (VWant.on (b := (decide (a.Open ≤ b))) rfl rfl hg9_1) (B.lss (c := (decide (b < a.Close))) (VEv.tmp (t := (T.int .i64 b)) rfl) (VEv.tmp (t := (T.int .i64 a.Close)) rfl) rfl) ?_
    refine VRunO.free VWant.always (OF.pickT (VEv.tmpB (b := (decide (a.Open ≤ b))) rfl hg9_1) (VEv.tmp (t := (T.bool (decide (b < a.Close)))) rfl)) ?_
    refine VRunO.free VWant.always (OF.assign (VEv.tmp (t := (T.bool (decide (b < a.Close)))) rfl)) ?_
    refine VRunO.nil ?_
    refine vthn.n ?_
    refine VRun.ret ?_
    refine vfin.eq (r' := (T.bool (decide (b < a.Close)))) ?_ (vfin.r (VRes.tmp (t := (T.bool (decide (b < a.Close)))) rfl VRes.nil) (Give.bool _))
    show (T.bool (decide (b < a.Close))) = (T.bool (decide (a.Open ≤ b ∧ b < a.Close)))
    refine congrArg T.bool ?_
    first | rfl | (exact decN (by omega)) | (symm; rw [decide_eq_false_iff_not]; omega) | (symm; rw [decide_eq_true_eq]; omega) | (simp_all; done)
  · have fhg9_1 : ¬ (a.Open ≤ b) := of_decide_eq_false hg9_1
    refine VRunO.off (VWant.not (b := (decide (a.Open ≤ b))) rfl rfl hg9_1) ?_
    refine VRunO.off (VWant.not (b := (decide (a.Open ≤ b))) rfl rfl hg9_1) ?_
    refine VRunO.off (VWant.not (b := (decide (a.Open ≤ b))) rfl rfl hg9_1) ?_
    refine VRunO.off (VWant.not (b := (decide (a.Open ≤ b))) rfl rfl hg9_1) ?_
    refine VRunO.free VWant.always (OF.pickF (VEv.tmpB (b := (decide (a.Open ≤ b))) rfl hg9_1) (VEv.bool false)) ?_
    refine VRunO.free VWant.always (OF.assign (VEv.tmp (t := (T.bool false)) rfl)) ?_
    refine VRunO.nil ?_
    refine vthn.n ?_
    refine VRun.ret ?_
    refine vfin.eq (r' := (T.bool false)) ?_ (vfin.r (VRes.tmp (t := (T.bool false)) rfl VRes.nil) (Give.bool _))
    show (T.bool false) = (T.bool (decide (a.Open ≤ b ∧ b < a.Close)))
    refine congrArg T.bool ?_
    first | rfl | (exact decN (by omega)) | (symm; rw [decide_eq_false_iff_not]; omega) | (symm; rw [decide_eq_true_eq]; omega) | (simp_all; done)
theorem W_spec_IsOpen (n : Nat) (a : D.Issue) (b : Int)  : Pure (acall Try.prog (n + 1)) 50 [(T.agg (eIssue false a)), (T.int .i64 b)] (T.bool (decide (a.Open ≤ b ∧ b < a.Close))) := by
  refine Pure.intro (rs := [ResultVar.tmp 4]) Try.func50 rfl rfl rfl (E0 := [(0, (T.agg (eIssue false a))), (1, (T.int .i64 b))]) rfl ?_
  have hlim : lim = 1099511627776 := rfl
  have hmx : mx = 1048576 := rfl
  have hmax : maxLen = 9223372036854775807 := rfl
  refine VRun.seq ?_
  refine VRun.region ?_
  refine VRunO.make VWant.always (B.box (ts := [(T.int .i64 a.Number), (T.int .i64 a.Puzzle.Grid.Rows), (T.int .i64 a.Puzzle.Grid.Cols), (T.str a.Puzzle.Grid.Cells), (T.sl false 2 (a.Puzzle.Clues.map (eClue false))), (T.sl false 1 (a.Puzzle.Seals.map (eInt false))), (T.int .i64 a.Puzzle.Salt), (T.str a.Fill), (T.int .i64 a.Open), (T.int .i64 a.Close)]) (VEv.tmp (t := (T.agg (eIssue false a))) rfl) nofun rfl) ?_
  refine VRunO.free VWant.always (OF.assign (VEv.bool false)) ?_
  refine VRunO.nil ?_
  refine vthn.n ?_
  refine VRun.seq ?_
  refine VRun.region ?_
  refine VRunO.free VWant.always (OF.move (VEv.tmp (t := (T.int .i64 b)) rfl)) ?_
  refine VRunO.free VWant.always (OF.fieldAddrO (VEv.tmp (t := (T.op 0 0)) rfl) fa82_3) ?_
  refine VRunO.look VWant.always (OL.loadO1 (t := (T.int .i64 a.Open)) (VEv.tmp (t := (T.op 0 8)) rfl) rfl rfl st3) ?_
  refine VRunO.free VWant.always (B.geq (c := (decide (a.Open ≤ b))) (VEv.tmp (t := (T.int .i64 b)) rfl) (VEv.tmp (t := (T.int .i64 a.Open)) rfl) rfl) ?_
  refine VRunO.free VWant.always (OF.move (VEv.tmp (t := (T.bool (decide (a.Open ≤ b)))) rfl)) ?_
  refine bool_way (decide (a.Open ≤ b)) (fun hg9_1 => ?_) (fun hg9_1 => ?_)
  · have fhg9_1 : a.Open ≤ b := of_decide_eq_true hg9_1
    refine VRunO.free (VWant.on (b := (decide (a.Open ≤ b))) rfl rfl hg9_1) (OF.move (VEv.tmp (t := (T.int .i64 b)) rfl)) ?_
    refine VRunO.free (VWant.on (b := (decide (a.Open ≤ b))) rfl rfl hg9_1) (OF.fieldAddrO (VEv.tmp (t := (T.op 0 0)) rfl) fa82_4) ?_
    refine VRunO.look (VWant.on (b := (decide (a.Open ≤ b))) rfl rfl hg9_1) (OL.loadO1 (t := (T.int .i64 a.Close)) (VEv.tmp (t := (T.op 0 9)) rfl) rfl rfl st3) ?_
    refine VRunO.free (VWant.on (b := (decide (a.Open ≤ b))) rfl rfl hg9_1) (B.lss (c := (decide (b < a.Close))) (VEv.tmp (t := (T.int .i64 b)) rfl) (VEv.tmp (t := (T.int .i64 a.Close)) rfl) rfl) ?_
    refine VRunO.free VWant.always (OF.pickT (VEv.tmpB (b := (decide (a.Open ≤ b))) rfl hg9_1) (VEv.tmp (t := (T.bool (decide (b < a.Close)))) rfl)) ?_
    refine VRunO.free VWant.always (OF.assign (VEv.tmp (t := (T.bool (decide (b < a.Close)))) rfl)) ?_
    refine VRunO.nil ?_
    refine vthn.n ?_
    refine VRun.ret ?_
    refine vfin.eq (r' := (T.bool (decide (b < a.Close)))) ?_ (vfin.r (VRes.tmp (t := (T.bool (decide (b < a.Close)))) rfl VRes.nil) (Give.bool _))
    show (T.bool (decide (b < a.Close))) = (T.bool (decide (a.Open ≤ b ∧ b < a.Close)))
    refine congrArg T.bool ?_
    first | rfl | (exact decN (by omega)) | (symm; rw [decide_eq_false_iff_not]; omega) | (symm; rw [decide_eq_true_eq]; omega) | (simp_all; done)
  · have fhg9_1 : ¬ (a.Open ≤ b) := of_decide_eq_false hg9_1
    refine VRunO.off (VWant.not (b := (decide (a.Open ≤ b))) rfl rfl hg9_1) ?_
    refine VRunO.off (VWant.not (b := (decide (a.Open ≤ b))) rfl rfl hg9_1) ?_
    refine VRunO.off (VWant.not (b := (decide (a.Open ≤ b))) rfl rfl hg9_1) ?_
    refine VRunO.off (VWant.not (b := (decide (a.Open ≤ b))) rfl rfl hg9_1) ?_
    refine VRunO.free VWant.always (OF.pickF (VEv.tmpB (b := (decide (a.Open ≤ b))) rfl hg9_1) (VEv.bool false)) ?_
    refine VRunO.free VWant.always (OF.assign (VEv.tmp (t := (T.bool false)) rfl)) ?_
    refine VRunO.nil ?_
    refine vthn.n ?_
    refine VRun.ret ?_
    refine vfin.eq (r' := (T.bool false)) ?_ (vfin.r (VRes.tmp (t := (T.bool false)) rfl VRes.nil) (Give.bool _))
    show (T.bool false) = (T.bool (decide (a.Open ≤ b ∧ b < a.Close)))
    refine congrArg T.bool ?_
    first | rfl | (exact decN (by omega)) | (symm; rw [decide_eq_false_iff_not]; omega) | (symm; rw [decide_eq_true_eq]; omega) | (simp_all; done)
end Go.Proofs.Ythdnjihmjdbdkaa.AE
