/- Walks of the program's functions over trees. Conditions: as each theorem states. -/
import Derived.Test.YthdnjihmjdbdkaaKFnExactEqualIssuesVclue
namespace Go.Proofs.Ythdnjihmjdbdkaa.AE
open Go Go.RowKit
set_option linter.unusedVariables false
set_option linter.unusedSimpArgs false
set_option maxRecDepth 20000
set_option maxHeartbeats 2000000

theorem W_laws_FnExactEqualIssues (n : Nat) (a0 : D.Issue) (a1 : D.Issue) (g0 : GIssue a0) (g1 : GIssue a1) : Pure (acall Try.prog (n + 7)) 10 [(T.agg (eIssue false a0)), (T.agg (eIssue false a1))] (T.bool true) := by
  refine Pure.intro (rs := [ResultVar.tmp 4]) Try.func10 rfl rfl rfl (E0 := [(0, (T.agg (eIssue false a0))), (1, (T.agg (eIssue false a1)))]) rfl ?_
  have hlim : lim = 1099511627776 := rfl
  have hmx : mx = 1048576 := rfl
  have hmax : maxLen = 9223372036854775807 := rfl
  have hl0_0 := zL_len (z := zClue) a0.Puzzle.Clues
  have hl0_1 := zL_len (z := zI) a0.Puzzle.Seals
  have hl1_2 := zL_len (z := zClue) a1.Puzzle.Clues
  have hl1_3 := zL_len (z := zI) a1.Puzzle.Seals
  refine VRun.seq ?_
  refine VRun.region ?_
  refine VRunO.make VWant.always (B.box (ts := [(T.int .i64 a0.Number), (T.int .i64 a0.Puzzle.Grid.Rows), (T.int .i64 a0.Puzzle.Grid.Cols), (T.str a0.Puzzle.Grid.Cells), (T.sl false 2 (a0.Puzzle.Clues.map (eClue false))), (T.sl false 1 (a0.Puzzle.Seals.map (eInt false))), (T.int .i64 a0.Puzzle.Salt), (T.str a0.Fill), (T.int .i64 a0.Open), (T.int .i64 a0.Close)]) (VEv.tmp (t := (T.agg (eIssue false a0))) rfl) nofun rfl) ?_
  refine VRunO.make VWant.always (B.box (ts := [(T.int .i64 a1.Number), (T.int .i64 a1.Puzzle.Grid.Rows), (T.int .i64 a1.Puzzle.Grid.Cols), (T.str a1.Puzzle.Grid.Cells), (T.sl false 2 (a1.Puzzle.Clues.map (eClue false))), (T.sl false 1 (a1.Puzzle.Seals.map (eInt false))), (T.int .i64 a1.Puzzle.Salt), (T.str a1.Fill), (T.int .i64 a1.Open), (T.int .i64 a1.Close)]) (VEv.tmp (t := (T.agg (eIssue false a1))) rfl) nofun rfl) ?_
  refine VRunO.free VWant.always (OF.assign (VEv.bool false)) ?_
  refine VRunO.nil ?_
  refine vthn.n ?_
  refine VRun.seq ?_
  refine VRun.region ?_
  refine VRunO.free VWant.always (OF.assign (VEv.int .i64 1048576)) ?_
  refine VRunO.nil ?_
  refine vthn.n ?_
  refine VRun.seq ?_
  refine VRun.region ?_
  refine VRunO.look VWant.always (OL.loadOn (us := (eIssue false a0)) (VEv.tmp (t := (T.op 0 0)) rfl) rfl st76 sz76 (Nat.le_of_ble_eq_true rfl) rfl) ?_
  refine VRunO.free VWant.always (OF.move (VEv.tmp (t := (T.int .i64 1048576)) rfl)) ?_
  refine VRunO.chain VWant.always (OC.callF (us := [(T.agg (eIssue false a0)), (T.int .i64 1048576)]) (r := (T.int .i64 (szR (zIssue a0) 1048576))) (r' := (T.int .i64 (szR (zIssue a0) 1048576))) (objs := []) rfl (VEvs.cons (VEv.tmp (t := (T.agg (eIssue false a0))) rfl) (VEvs.cons (VEv.tmp (t := (T.int .i64 1048576)) rfl) VEvs.nil)) (LendL.cons (Lend.agg (LendL.cons (Lend.pl rfl) (LendL.cons (Lend.pl rfl) (LendL.cons (Lend.pl rfl) (LendL.cons (Lend.pl rfl) (LendL.cons (Lend.pl rfl) (LendL.cons (Lend.pl rfl) (LendL.cons (Lend.pl rfl) (LendL.cons (Lend.pl rfl) (LendL.cons (Lend.pl rfl) (LendL.cons (Lend.pl rfl) (LendL.nil)))))))))))) (LendL.cons (Lend.pl rfl) (LendL.nil))) (W_laws_szIssue (n + 0) a0 1048576 (by first | assumption | omega | (simp only [List.length_map]; omega) | (simp only [List.length_map, List.length_append, List.length_cons, List.length_nil, List.length_replicate, List.length_set, List.length_drop, List.length_take, lim] at *; omega)) (by first | assumption | omega | (simp only [List.length_map]; omega) | (simp only [List.length_map, List.length_append, List.length_cons, List.length_nil, List.length_replicate, List.length_set, List.length_drop, List.length_take, lim] at *; omega)) (by first | assumption | omega | (simp only [List.length_map]; omega) | (simp only [List.length_map, List.length_append, List.length_cons, List.length_nil, List.length_replicate, List.length_set, List.length_drop, List.length_take, lim] at *; omega))) rfl) ?_
  refine VRunO.free VWant.always (OF.assign (VEv.tmp (t := (T.int .i64 (szR (zIssue a0) 1048576))) rfl)) ?_
  refine VRunO.nil ?_
  refine vthn.n ?_
  refine VRun.seq ?_
  refine VRun.seq ?_
  refine VRun.region ?_
  refine VRunO.free VWant.always (OF.move (VEv.tmp (t := (T.int .i64 (szR (zIssue a0) 1048576))) rfl)) ?_
  refine VRunO.free VWant.always (B.lss (c := (decide (szR (zIssue a0) 1048576 < 0))) (VEv.tmp (t := (T.int .i64 (szR (zIssue a0) 1048576))) rfl) (VEv.int .i64 0) rfl) ?_
  refine VRunO.nil ?_
  refine vthn.n ?_
  refine VRun.cond (VEv.tmp (t := (T.bool (decide (szR (zIssue a0) 1048576 < 0)))) rfl) (fun hc0 => ?_) (fun hc0 => ?_)
  · have fhc0 : szR (zIssue a0) 1048576 < 0 := of_decide_eq_true hc0
    refine VRun.seq ?_
    refine VRun.region ?_
    refine VRunO.free VWant.always (OF.assign (VEv.bool true)) ?_
    refine VRunO.nil ?_
    refine vthn.n ?_
    refine VRun.ret ?_
    refine vthn.r ?_
    refine vfin.eq (r' := (T.bool true)) ?_ (vfin.r (VRes.tmp (t := (T.bool true)) rfl VRes.nil) (Give.bool _))
    rfl
  · have fhc0 : ¬ (szR (zIssue a0) 1048576 < 0) := of_decide_eq_false hc0
    first | (have hz0 := szR_pos fhc0) | skip
    refine VRun.skip ?_
    refine vthn.n ?_
    refine VRun.seq ?_
    refine VRun.region ?_
    refine VRunO.look VWant.always (OL.loadOn (us := (eIssue false a1)) (VEv.tmp (t := (T.op 1 0)) rfl) rfl st76 sz76 (Nat.le_of_ble_eq_true rfl) rfl) ?_
    refine VRunO.free VWant.always (OF.move (VEv.tmp (t := (T.int .i64 (szR (zIssue a0) 1048576))) rfl)) ?_
    refine VRunO.chain VWant.always (OC.callF (us := [(T.agg (eIssue false a1)), (T.int .i64 (szR (zIssue a0) 1048576))]) (r := (T.int .i64 (szR (zIssue a1) (szR (zIssue a0) 1048576)))) (r' := (T.int .i64 (szR (zIssue a1) (szR (zIssue a0) 1048576)))) (objs := []) rfl (VEvs.cons (VEv.tmp (t := (T.agg (eIssue false a1))) rfl) (VEvs.cons (VEv.tmp (t := (T.int .i64 (szR (zIssue a0) 1048576))) rfl) VEvs.nil)) (LendL.cons (Lend.agg (LendL.cons (Lend.pl rfl) (LendL.cons (Lend.pl rfl) (LendL.cons (Lend.pl rfl) (LendL.cons (Lend.pl rfl) (LendL.cons (Lend.pl rfl) (LendL.cons (Lend.pl rfl) (LendL.cons (Lend.pl rfl) (LendL.cons (Lend.pl rfl) (LendL.cons (Lend.pl rfl) (LendL.cons (Lend.pl rfl) (LendL.nil)))))))))))) (LendL.cons (Lend.pl rfl) (LendL.nil))) (W_laws_szIssue (n + 0) a1 (szR (zIssue a0) 1048576) (by first | assumption | omega | (simp only [List.length_map]; omega) | (simp only [List.length_map, List.length_append, List.length_cons, List.length_nil, List.length_replicate, List.length_set, List.length_drop, List.length_take, lim] at *; omega)) (by first | assumption | omega | (simp only [List.length_map]; omega) | (simp only [List.length_map, List.length_append, List.length_cons, List.length_nil, List.length_replicate, List.length_set, List.length_drop, List.length_take, lim] at *; omega)) (by first | assumption | omega | (simp only [List.length_map]; omega) | (simp only [List.length_map, List.length_append, List.length_cons, List.length_nil, List.length_replicate, List.length_set, List.length_drop, List.length_take, lim] at *; omega))) rfl) ?_
    refine VRunO.free VWant.always (OF.assign (VEv.tmp (t := (T.int .i64 (szR (zIssue a1) (szR (zIssue a0) 1048576)))) rfl)) ?_
    refine VRunO.nil ?_
    refine vthn.n ?_
    refine VRun.seq ?_
    refine VRun.seq ?_
    refine VRun.region ?_
    refine VRunO.free VWant.always (OF.move (VEv.tmp (t := (T.int .i64 (szR (zIssue a1) (szR (zIssue a0) 1048576)))) rfl)) ?_
    refine VRunO.free VWant.always (B.lss (c := (decide (szR (zIssue a1) (szR (zIssue a0) 1048576) < 0))) (VEv.tmp (t := (T.int .i64 (szR (zIssue a1) (szR (zIssue a0) 1048576)))) rfl) (VEv.int .i64 0) rfl) ?_
    refine VRunO.nil ?_
    refine vthn.n ?_
    refine VRun.cond (VEv.tmp (t := (T.bool (decide (szR (zIssue a1) (szR (zIssue a0) 1048576) < 0)))) rfl) (fun hc1 => ?_) (fun hc1 => ?_)
    · have fhc1 : szR (zIssue a1) (szR (zIssue a0) 1048576) < 0 := of_decide_eq_true hc1
      refine VRun.seq ?_
      refine VRun.region ?_
      refine VRunO.free VWant.always (OF.assign (VEv.bool true)) ?_
      refine VRunO.nil ?_
      refine vthn.n ?_
      refine VRun.ret ?_
      refine vthn.r ?_
      refine vfin.eq (r' := (T.bool true)) ?_ (vfin.r (VRes.tmp (t := (T.bool true)) rfl VRes.nil) (Give.bool _))
      rfl
    · have fhc1 : ¬ (szR (zIssue a1) (szR (zIssue a0) 1048576) < 0) := of_decide_eq_false hc1
      first | (have hz1 := szR_pos fhc1) | skip
      refine VRun.skip ?_
      refine vthn.n ?_
      refine VRun.seq ?_
      refine VRun.draw (B := [[], [0], [], [0, 1, 2], [2, 3, 0, 1], [1, 0, 3, 2, 4]]) (by kernel_rfl) (by kernel_rfl) ?_
      refine VRunD.look rfl VWant.always rfl (OL.loadOn (us := (eIssue false a0)) (VEv.tmp (t := (T.op 0 0)) rfl) rfl st76 sz76 (Nat.le_of_ble_eq_true rfl) rfl) ?_
      refine VRunD.quiet (bi := [0]) rfl VWant.always rfl rfl rfl (ball_nil) (OC.callF (us := [(T.agg (eIssue false a0))]) (r := (T.agg (eIssue true a0))) (r' := (T.agg [(T.int .i64 a0.Number), (T.int .i64 a0.Puzzle.Grid.Rows), (T.int .i64 a0.Puzzle.Grid.Cols), (T.str a0.Puzzle.Grid.Cells), (T.os 2 2 0 ((a0.Puzzle.Clues.map (eClue true)).length)), (T.os 1 3 0 ((a0.Puzzle.Seals.map (eInt true)).length)), (T.int .i64 a0.Puzzle.Salt), (T.str a0.Fill), (T.int .i64 a0.Open), (T.int .i64 a0.Close)])) (objs := [(Obj.rows 2 (a0.Puzzle.Clues.map (eClue true))), (Obj.rows 1 (a0.Puzzle.Seals.map (eInt true)))]) rfl (VEvs.cons (VEv.tmp (t := (T.agg (eIssue false a0))) rfl) VEvs.nil) (LendL.cons (Lend.agg (LendL.cons (Lend.pl rfl) (LendL.cons (Lend.pl rfl) (LendL.cons (Lend.pl rfl) (LendL.cons (Lend.pl rfl) (LendL.cons (Lend.pl rfl) (LendL.cons (Lend.pl rfl) (LendL.cons (Lend.pl rfl) (LendL.cons (Lend.pl rfl) (LendL.cons (Lend.pl rfl) (LendL.cons (Lend.pl rfl) (LendL.nil)))))))))))) (LendL.nil)) (W_laws_toIssue (n + 0) a0 (by first | assumption | omega | (simp only [List.length_map]; omega) | (simp only [List.length_map, List.length_append, List.length_cons, List.length_nil, List.length_replicate, List.length_set, List.length_drop, List.length_take, lim] at *; omega))) rfl) ?_
      refine VRunD.look rfl VWant.always rfl (OL.loadOn (us := (eIssue false a1)) (VEv.tmp (t := (T.op 1 0)) rfl) rfl st76 sz76 (Nat.le_of_ble_eq_true rfl) rfl) ?_
      refine VRunD.quiet (bi := [0, 1, 2]) rfl VWant.always rfl rfl rfl (ball_nil) (OC.callF (us := [(T.agg (eIssue false a1))]) (r := (T.agg (eIssue true a1))) (r' := (T.agg [(T.int .i64 a1.Number), (T.int .i64 a1.Puzzle.Grid.Rows), (T.int .i64 a1.Puzzle.Grid.Cols), (T.str a1.Puzzle.Grid.Cells), (T.os 2 4 0 ((a1.Puzzle.Clues.map (eClue true)).length)), (T.os 1 5 0 ((a1.Puzzle.Seals.map (eInt true)).length)), (T.int .i64 a1.Puzzle.Salt), (T.str a1.Fill), (T.int .i64 a1.Open), (T.int .i64 a1.Close)])) (objs := [(Obj.rows 2 (a1.Puzzle.Clues.map (eClue true))), (Obj.rows 1 (a1.Puzzle.Seals.map (eInt true)))]) rfl (VEvs.cons (VEv.tmp (t := (T.agg (eIssue false a1))) rfl) VEvs.nil) (LendL.cons (Lend.agg (LendL.cons (Lend.pl rfl) (LendL.cons (Lend.pl rfl) (LendL.cons (Lend.pl rfl) (LendL.cons (Lend.pl rfl) (LendL.cons (Lend.pl rfl) (LendL.cons (Lend.pl rfl) (LendL.cons (Lend.pl rfl) (LendL.cons (Lend.pl rfl) (LendL.cons (Lend.pl rfl) (LendL.cons (Lend.pl rfl) (LendL.nil)))))))))))) (LendL.nil)) (W_laws_toIssue (n + 0) a1 (by first | assumption | omega | (simp only [List.length_map]; omega) | (simp only [List.length_map, List.length_append, List.length_cons, List.length_nil, List.length_replicate, List.length_set, List.length_drop, List.length_take, lim] at *; omega))) rfl) ?_
      refine VRunD.quiet (bi := [2, 3, 0, 1]) rfl VWant.always rfl rfl rfl (ball_nil) (OC.callF (us := [(T.agg (eIssue false a0)), (T.agg (eIssue false a1))]) (r := (T.bool (decide (a0 = a1)))) (r' := (T.bool (decide (a0 = a1)))) (objs := []) rfl (VEvs.cons (VEv.tmp (t := (T.agg [(T.int .i64 a0.Number), (T.int .i64 a0.Puzzle.Grid.Rows), (T.int .i64 a0.Puzzle.Grid.Cols), (T.str a0.Puzzle.Grid.Cells), (T.os 2 2 0 ((a0.Puzzle.Clues.map (eClue true)).length)), (T.os 1 3 0 ((a0.Puzzle.Seals.map (eInt true)).length)), (T.int .i64 a0.Puzzle.Salt), (T.str a0.Fill), (T.int .i64 a0.Open), (T.int .i64 a0.Close)])) rfl) (VEvs.cons (VEv.tmp (t := (T.agg [(T.int .i64 a1.Number), (T.int .i64 a1.Puzzle.Grid.Rows), (T.int .i64 a1.Puzzle.Grid.Cols), (T.str a1.Puzzle.Grid.Cells), (T.os 2 4 0 ((a1.Puzzle.Clues.map (eClue true)).length)), (T.os 1 5 0 ((a1.Puzzle.Seals.map (eInt true)).length)), (T.int .i64 a1.Puzzle.Salt), (T.str a1.Fill), (T.int .i64 a1.Open), (T.int .i64 a1.Close)])) rfl) VEvs.nil)) (LendL.cons (Lend.agg (LendL.cons (Lend.pl rfl) (LendL.cons (Lend.pl rfl) (LendL.cons (Lend.pl rfl) (LendL.cons (Lend.pl rfl) (LendL.cons (Lend.os rfl rfl (okeClue.fzMap _ _)) (LendL.cons (Lend.os rfl rfl (okInt.fzMap _ _)) (LendL.cons (Lend.pl rfl) (LendL.cons (Lend.pl rfl) (LendL.cons (Lend.pl rfl) (LendL.cons (Lend.pl rfl) (LendL.nil)))))))))))) (LendL.cons (Lend.agg (LendL.cons (Lend.pl rfl) (LendL.cons (Lend.pl rfl) (LendL.cons (Lend.pl rfl) (LendL.cons (Lend.pl rfl) (LendL.cons (Lend.os rfl rfl (okeClue.fzMap _ _)) (LendL.cons (Lend.os rfl rfl (okInt.fzMap _ _)) (LendL.cons (Lend.pl rfl) (LendL.cons (Lend.pl rfl) (LendL.cons (Lend.pl rfl) (LendL.cons (Lend.pl rfl) (LendL.nil)))))))))))) (LendL.nil))) (W_spec_EqualIssues (n + 3) a0 a1 (by first | assumption | omega | (simp only [List.length_map]; omega) | (simp only [List.length_map, List.length_append, List.length_cons, List.length_nil, List.length_replicate, List.length_set, List.length_drop, List.length_take, lim] at *; omega)) (by first | assumption | omega | (simp only [List.length_map]; omega) | (simp only [List.length_map, List.length_append, List.length_cons, List.length_nil, List.length_replicate, List.length_set, List.length_drop, List.length_take, lim] at *; omega))) rfl) ?_
      refine VRunD.free rfl VWant.always rfl (OF.assign (VEv.tmp (t := (T.bool (decide (a0 = a1)))) rfl)) ?_
      refine VRunD.nil ?_
      refine vthn.n ?_
      refine VRun.seq ?_
      refine VRun.region ?_
      refine VRunO.look VWant.always (OL.loadOn (us := (eIssue false a0)) (VEv.tmp (t := (T.op 0 0)) rfl) rfl st76 sz76 (Nat.le_of_ble_eq_true rfl) rfl) ?_
      refine VRunO.chain VWant.always (OC.callF (us := [(T.agg (eIssue false a0))]) (r := (T.agg (eIssue true a0))) (r' := (T.agg [(T.int .i64 a0.Number), (T.int .i64 a0.Puzzle.Grid.Rows), (T.int .i64 a0.Puzzle.Grid.Cols), (T.str a0.Puzzle.Grid.Cells), (T.os 2 6 0 ((a0.Puzzle.Clues.map (eClue true)).length)), (T.os 1 7 0 ((a0.Puzzle.Seals.map (eInt true)).length)), (T.int .i64 a0.Puzzle.Salt), (T.str a0.Fill), (T.int .i64 a0.Open), (T.int .i64 a0.Close)])) (objs := [(Obj.rows 2 (a0.Puzzle.Clues.map (eClue true))), (Obj.rows 1 (a0.Puzzle.Seals.map (eInt true)))]) rfl (VEvs.cons (VEv.tmp (t := (T.agg (eIssue false a0))) rfl) VEvs.nil) (LendL.cons (Lend.agg (LendL.cons (Lend.pl rfl) (LendL.cons (Lend.pl rfl) (LendL.cons (Lend.pl rfl) (LendL.cons (Lend.pl rfl) (LendL.cons (Lend.pl rfl) (LendL.cons (Lend.pl rfl) (LendL.cons (Lend.pl rfl) (LendL.cons (Lend.pl rfl) (LendL.cons (Lend.pl rfl) (LendL.cons (Lend.pl rfl) (LendL.nil)))))))))))) (LendL.nil)) (W_laws_toIssue (n + 0) a0 (by first | assumption | omega | (simp only [List.length_map]; omega) | (simp only [List.length_map, List.length_append, List.length_cons, List.length_nil, List.length_replicate, List.length_set, List.length_drop, List.length_take, lim] at *; omega))) rfl) ?_
      refine VRunO.make VWant.always (B.alloc (t := (T.agg [(T.int .i64 0), (T.int .i64 0), (T.int .i64 0), (T.str ByteArray.empty), T.nils, T.nils, (T.int .i64 0), (T.str ByteArray.empty), (T.int .i64 0), (T.int .i64 0)])) (ts := [(T.int .i64 0), (T.int .i64 0), (T.int .i64 0), (T.str ByteArray.empty), T.nils, T.nils, (T.int .i64 0), (T.str ByteArray.empty), (T.int .i64 0), (T.int .i64 0)]) zo82 zc82 nofun (fun _ => .agg _ _ rfl (RLof (RL.cons (.int _ _) (RL.cons (.int _ _) (RL.cons (.int _ _) (RL.cons (.str _) (RL.cons (.nils) (RL.cons (.nils) (RL.cons (.int _ _) (RL.cons (.str _) (RL.cons (.int _ _) (RL.cons (.int _ _) (RL.nil _))))))))))))) rfl) ?_
      refine VRunO.chain VWant.always (B.storeO (us := [(T.int .i64 a0.Number), (T.int .i64 a0.Puzzle.Grid.Rows), (T.int .i64 a0.Puzzle.Grid.Cols), (T.str a0.Puzzle.Grid.Cells), (T.os 2 6 0 ((a0.Puzzle.Clues.map (eClue true)).length)), (T.os 1 7 0 ((a0.Puzzle.Seals.map (eInt true)).length)), (T.int .i64 a0.Puzzle.Salt), (T.str a0.Fill), (T.int .i64 a0.Open), (T.int .i64 a0.Close)]) (ws := [(T.int .i64 a0.Number), (T.int .i64 a0.Puzzle.Grid.Rows), (T.int .i64 a0.Puzzle.Grid.Cols), (T.str a0.Puzzle.Grid.Cells), (T.os 2 6 0 ((a0.Puzzle.Clues.map (eClue true)).length)), (T.os 1 7 0 ((a0.Puzzle.Seals.map (eInt true)).length)), (T.int .i64 a0.Puzzle.Salt), (T.str a0.Fill), (T.int .i64 a0.Open), (T.int .i64 a0.Close)]) (VEv.tmp (t := (T.op 8 0)) rfl) (VEv.tmp (t := (T.agg [(T.int .i64 a0.Number), (T.int .i64 a0.Puzzle.Grid.Rows), (T.int .i64 a0.Puzzle.Grid.Cols), (T.str a0.Puzzle.Grid.Cells), (T.os 2 6 0 ((a0.Puzzle.Clues.map (eClue true)).length)), (T.os 1 7 0 ((a0.Puzzle.Seals.map (eInt true)).length)), (T.int .i64 a0.Puzzle.Salt), (T.str a0.Fill), (T.int .i64 a0.Open), (T.int .i64 a0.Close)])) rfl) nofun rfl rfl (Nat.le_of_ble_eq_true rfl) if82 sz82 (ball_cons rfl (ball_cons rfl (ball_cons rfl (ball_cons rfl (ball_cons rfl (ball_cons rfl (ball_cons rfl (ball_cons rfl (ball_cons rfl (ball_cons rfl (ball_nil))))))))))) rfl) ?_
      refine VRunO.nil ?_
      refine vthn.n ?_
      refine VRun.seq ?_
      refine VRun.region ?_
      refine VRunO.look VWant.always (OL.loadOn (us := (eIssue false a1)) (VEv.tmp (t := (T.op 1 0)) rfl) rfl st76 sz76 (Nat.le_of_ble_eq_true rfl) rfl) ?_
      refine VRunO.chain VWant.always (OC.callF (us := [(T.agg (eIssue false a1))]) (r := (T.agg (eIssue true a1))) (r' := (T.agg [(T.int .i64 a1.Number), (T.int .i64 a1.Puzzle.Grid.Rows), (T.int .i64 a1.Puzzle.Grid.Cols), (T.str a1.Puzzle.Grid.Cells), (T.os 2 9 0 ((a1.Puzzle.Clues.map (eClue true)).length)), (T.os 1 10 0 ((a1.Puzzle.Seals.map (eInt true)).length)), (T.int .i64 a1.Puzzle.Salt), (T.str a1.Fill), (T.int .i64 a1.Open), (T.int .i64 a1.Close)])) (objs := [(Obj.rows 2 (a1.Puzzle.Clues.map (eClue true))), (Obj.rows 1 (a1.Puzzle.Seals.map (eInt true)))]) rfl (VEvs.cons (VEv.tmp (t := (T.agg (eIssue false a1))) rfl) VEvs.nil) (LendL.cons (Lend.agg (LendL.cons (Lend.pl rfl) (LendL.cons (Lend.pl rfl) (LendL.cons (Lend.pl rfl) (LendL.cons (Lend.pl rfl) (LendL.cons (Lend.pl rfl) (LendL.cons (Lend.pl rfl) (LendL.cons (Lend.pl rfl) (LendL.cons (Lend.pl rfl) (LendL.cons (Lend.pl rfl) (LendL.cons (Lend.pl rfl) (LendL.nil)))))))))))) (LendL.nil)) (W_laws_toIssue (n + 0) a1 (by first | assumption | omega | (simp only [List.length_map]; omega) | (simp only [List.length_map, List.length_append, List.length_cons, List.length_nil, List.length_replicate, List.length_set, List.length_drop, List.length_take, lim] at *; omega))) rfl) ?_
      refine VRunO.make VWant.always (B.alloc (t := (T.agg [(T.int .i64 0), (T.int .i64 0), (T.int .i64 0), (T.str ByteArray.empty), T.nils, T.nils, (T.int .i64 0), (T.str ByteArray.empty), (T.int .i64 0), (T.int .i64 0)])) (ts := [(T.int .i64 0), (T.int .i64 0), (T.int .i64 0), (T.str ByteArray.empty), T.nils, T.nils, (T.int .i64 0), (T.str ByteArray.empty), (T.int .i64 0), (T.int .i64 0)]) zo82 zc82 nofun (fun _ => .agg _ _ rfl (RLof (RL.cons (.int _ _) (RL.cons (.int _ _) (RL.cons (.int _ _) (RL.cons (.str _) (RL.cons (.nils) (RL.cons (.nils) (RL.cons (.int _ _) (RL.cons (.str _) (RL.cons (.int _ _) (RL.cons (.int _ _) (RL.nil _))))))))))))) rfl) ?_
      refine VRunO.chain VWant.always (B.storeO (us := [(T.int .i64 a1.Number), (T.int .i64 a1.Puzzle.Grid.Rows), (T.int .i64 a1.Puzzle.Grid.Cols), (T.str a1.Puzzle.Grid.Cells), (T.os 2 9 0 ((a1.Puzzle.Clues.map (eClue true)).length)), (T.os 1 10 0 ((a1.Puzzle.Seals.map (eInt true)).length)), (T.int .i64 a1.Puzzle.Salt), (T.str a1.Fill), (T.int .i64 a1.Open), (T.int .i64 a1.Close)]) (ws := [(T.int .i64 a1.Number), (T.int .i64 a1.Puzzle.Grid.Rows), (T.int .i64 a1.Puzzle.Grid.Cols), (T.str a1.Puzzle.Grid.Cells), (T.os 2 9 0 ((a1.Puzzle.Clues.map (eClue true)).length)), (T.os 1 10 0 ((a1.Puzzle.Seals.map (eInt true)).length)), (T.int .i64 a1.Puzzle.Salt), (T.str a1.Fill), (T.int .i64 a1.Open), (T.int .i64 a1.Close)]) (VEv.tmp (t := (T.op 11 0)) rfl) (VEv.tmp (t := (T.agg [(T.int .i64 a1.Number), (T.int .i64 a1.Puzzle.Grid.Rows), (T.int .i64 a1.Puzzle.Grid.Cols), (T.str a1.Puzzle.Grid.Cells), (T.os 2 9 0 ((a1.Puzzle.Clues.map (eClue true)).length)), (T.os 1 10 0 ((a1.Puzzle.Seals.map (eInt true)).length)), (T.int .i64 a1.Puzzle.Salt), (T.str a1.Fill), (T.int .i64 a1.Open), (T.int .i64 a1.Close)])) rfl) nofun rfl rfl (Nat.le_of_ble_eq_true rfl) if82 sz82 (ball_cons rfl (ball_cons rfl (ball_cons rfl (ball_cons rfl (ball_cons rfl (ball_cons rfl (ball_cons rfl (ball_cons rfl (ball_cons rfl (ball_cons rfl (ball_nil))))))))))) rfl) ?_
      refine VRunO.nil ?_
      refine vthn.n ?_
      refine VRun.seq ?_
      refine VRun.region ?_
      refine VRunO.look VWant.always (OL.loadOn (us := [(T.int .i64 a0.Number), (T.int .i64 a0.Puzzle.Grid.Rows), (T.int .i64 a0.Puzzle.Grid.Cols), (T.str a0.Puzzle.Grid.Cells), (T.os 2 6 0 ((a0.Puzzle.Clues.map (eClue true)).length)), (T.os 1 7 0 ((a0.Puzzle.Seals.map (eInt true)).length)), (T.int .i64 a0.Puzzle.Salt), (T.str a0.Fill), (T.int .i64 a0.Open), (T.int .i64 a0.Close)]) (VEv.tmp (t := (T.op 8 0)) rfl) rfl st82 sz82 (Nat.le_of_ble_eq_true rfl) rfl) ?_
      refine VRunO.look VWant.always (OL.loadOn (us := [(T.int .i64 a1.Number), (T.int .i64 a1.Puzzle.Grid.Rows), (T.int .i64 a1.Puzzle.Grid.Cols), (T.str a1.Puzzle.Grid.Cells), (T.os 2 9 0 ((a1.Puzzle.Clues.map (eClue true)).length)), (T.os 1 10 0 ((a1.Puzzle.Seals.map (eInt true)).length)), (T.int .i64 a1.Puzzle.Salt), (T.str a1.Fill), (T.int .i64 a1.Open), (T.int .i64 a1.Close)]) (VEv.tmp (t := (T.op 11 0)) rfl) rfl st82 sz82 (Nat.le_of_ble_eq_true rfl) rfl) ?_
      refine VRunO.chain VWant.always (OC.callF (us := [(T.agg (eIssue false a0)), (T.agg (eIssue false a1))]) (r := (T.bool (decide (a0 = a1)))) (r' := (T.bool (decide (a0 = a1)))) (objs := []) rfl (VEvs.cons (VEv.tmp (t := (T.agg [(T.int .i64 a0.Number), (T.int .i64 a0.Puzzle.Grid.Rows), (T.int .i64 a0.Puzzle.Grid.Cols), (T.str a0.Puzzle.Grid.Cells), (T.os 2 6 0 ((a0.Puzzle.Clues.map (eClue true)).length)), (T.os 1 7 0 ((a0.Puzzle.Seals.map (eInt true)).length)), (T.int .i64 a0.Puzzle.Salt), (T.str a0.Fill), (T.int .i64 a0.Open), (T.int .i64 a0.Close)])) rfl) (VEvs.cons (VEv.tmp (t := (T.agg [(T.int .i64 a1.Number), (T.int .i64 a1.Puzzle.Grid.Rows), (T.int .i64 a1.Puzzle.Grid.Cols), (T.str a1.Puzzle.Grid.Cells), (T.os 2 9 0 ((a1.Puzzle.Clues.map (eClue true)).length)), (T.os 1 10 0 ((a1.Puzzle.Seals.map (eInt true)).length)), (T.int .i64 a1.Puzzle.Salt), (T.str a1.Fill), (T.int .i64 a1.Open), (T.int .i64 a1.Close)])) rfl) VEvs.nil)) (LendL.cons (Lend.agg (LendL.cons (Lend.pl rfl) (LendL.cons (Lend.pl rfl) (LendL.cons (Lend.pl rfl) (LendL.cons (Lend.pl rfl) (LendL.cons (Lend.os rfl rfl (okeClue.fzMap _ _)) (LendL.cons (Lend.os rfl rfl (okInt.fzMap _ _)) (LendL.cons (Lend.pl rfl) (LendL.cons (Lend.pl rfl) (LendL.cons (Lend.pl rfl) (LendL.cons (Lend.pl rfl) (LendL.nil)))))))))))) (LendL.cons (Lend.agg (LendL.cons (Lend.pl rfl) (LendL.cons (Lend.pl rfl) (LendL.cons (Lend.pl rfl) (LendL.cons (Lend.pl rfl) (LendL.cons (Lend.os rfl rfl (okeClue.fzMap _ _)) (LendL.cons (Lend.os rfl rfl (okInt.fzMap _ _)) (LendL.cons (Lend.pl rfl) (LendL.cons (Lend.pl rfl) (LendL.cons (Lend.pl rfl) (LendL.cons (Lend.pl rfl) (LendL.nil)))))))))))) (LendL.nil))) (W_impl_EqualIssues (n + 1) a0 a1 (by first | assumption | omega | (simp only [List.length_map]; omega) | (simp only [List.length_map, List.length_append, List.length_cons, List.length_nil, List.length_replicate, List.length_set, List.length_drop, List.length_take, lim] at *; omega)) (by first | assumption | omega | (simp only [List.length_map]; omega) | (simp only [List.length_map, List.length_append, List.length_cons, List.length_nil, List.length_replicate, List.length_set, List.length_drop, List.length_take, lim] at *; omega))) rfl) ?_
      refine VRunO.free VWant.always (OF.assign (VEv.tmp (t := (T.bool (decide (a0 = a1)))) rfl)) ?_
      refine VRunO.nil ?_
      refine vthn.n ?_
      refine VRun.seq ?_
      refine VRun.seq ?_
      refine VRun.region ?_
      refine VRunO.free VWant.always (OF.move (VEv.tmp (t := (T.bool (decide (a0 = a1)))) rfl)) ?_
      refine VRunO.free VWant.always (OF.move (VEv.tmp (t := (T.bool (decide (a0 = a1)))) rfl)) ?_
      refine VRunO.free VWant.always (B.bneq Try.underlying4 (c := (!((decide (a0 = a1)) == (decide (a0 = a1))))) (VEv.tmp (t := (T.bool (decide (a0 = a1)))) rfl) (VEv.tmp (t := (T.bool (decide (a0 = a1)))) rfl) rfl) ?_
      refine VRunO.nil ?_
      refine vthn.n ?_
      refine VRun.cond (VEv.tmp (t := (T.bool (!((decide (a0 = a1)) == (decide (a0 = a1)))))) rfl) (fun hc2 => ?_) (fun hc2 => ?_)
      · have fhc2 : (!((decide (a0 = a1)) == (decide (a0 = a1)))) = true := hc2
        refine VRun.seq ?_
        refine VRun.region ?_
        refine VRunO.free VWant.always (OF.assign (VEv.bool false)) ?_
        refine VRunO.nil ?_
        refine vthn.n ?_
        refine VRun.ret ?_
        refine vthn.r ?_
        refine vfin.eq (r' := (T.bool false)) ?_ (vfin.r (VRes.tmp (t := (T.bool false)) rfl VRes.nil) (Give.bool _))
        show (T.bool false) = (T.bool true)
        refine congrArg T.bool ?_
        first | rfl | (exfalso; simp_all; done) | (exfalso; omega)
      · have fhc2 : (!((decide (a0 = a1)) == (decide (a0 = a1)))) = false := hc2
        first | (have hz2 := szR_pos fhc2) | skip
        refine VRun.skip ?_
        refine vthn.n ?_
        refine VRun.seq ?_
        refine VRun.seq ?_
        refine VRun.draw (B := [[], [], [1], [1, 2, 0], [0, 2, 1, 3]]) (by kernel_rfl) (by kernel_rfl) ?_
        refine VRunD.look rfl VWant.always rfl (OL.loadOn (us := [(T.int .i64 a0.Number), (T.int .i64 a0.Puzzle.Grid.Rows), (T.int .i64 a0.Puzzle.Grid.Cols), (T.str a0.Puzzle.Grid.Cells), (T.os 2 6 0 ((a0.Puzzle.Clues.map (eClue true)).length)), (T.os 1 7 0 ((a0.Puzzle.Seals.map (eInt true)).length)), (T.int .i64 a0.Puzzle.Salt), (T.str a0.Fill), (T.int .i64 a0.Open), (T.int .i64 a0.Close)]) (VEv.tmp (t := (T.op 8 0)) rfl) rfl st82 sz82 (Nat.le_of_ble_eq_true rfl) rfl) ?_
        refine VRunD.look rfl VWant.always rfl (OL.loadOn (us := (eIssue false a0)) (VEv.tmp (t := (T.op 0 0)) rfl) rfl st76 sz76 (Nat.le_of_ble_eq_true rfl) rfl) ?_
        refine VRunD.quiet (bi := [1]) rfl VWant.always rfl rfl rfl (ball_nil) (OC.callF (us := [(T.agg (eIssue false a0))]) (r := (T.agg (eIssue true a0))) (r' := (T.agg [(T.int .i64 a0.Number), (T.int .i64 a0.Puzzle.Grid.Rows), (T.int .i64 a0.Puzzle.Grid.Cols), (T.str a0.Puzzle.Grid.Cells), (T.os 2 12 0 ((a0.Puzzle.Clues.map (eClue true)).length)), (T.os 1 13 0 ((a0.Puzzle.Seals.map (eInt true)).length)), (T.int .i64 a0.Puzzle.Salt), (T.str a0.Fill), (T.int .i64 a0.Open), (T.int .i64 a0.Close)])) (objs := [(Obj.rows 2 (a0.Puzzle.Clues.map (eClue true))), (Obj.rows 1 (a0.Puzzle.Seals.map (eInt true)))]) rfl (VEvs.cons (VEv.tmp (t := (T.agg (eIssue false a0))) rfl) VEvs.nil) (LendL.cons (Lend.agg (LendL.cons (Lend.pl rfl) (LendL.cons (Lend.pl rfl) (LendL.cons (Lend.pl rfl) (LendL.cons (Lend.pl rfl) (LendL.cons (Lend.pl rfl) (LendL.cons (Lend.pl rfl) (LendL.cons (Lend.pl rfl) (LendL.cons (Lend.pl rfl) (LendL.cons (Lend.pl rfl) (LendL.cons (Lend.pl rfl) (LendL.nil)))))))))))) (LendL.nil)) (W_laws_toIssue (n + 0) a0 (by first | assumption | omega | (simp only [List.length_map]; omega) | (simp only [List.length_map, List.length_append, List.length_cons, List.length_nil, List.length_replicate, List.length_set, List.length_drop, List.length_take, lim] at *; omega))) rfl) ?_
        refine VRunD.quiet (bi := [1, 2, 0]) rfl VWant.always rfl rfl rfl (ball_nil) (OC.callF (us := [(T.agg (eIssue false a0)), (T.agg (eIssue false a0))]) (r := (T.bool (decide (a0 = a0)))) (r' := (T.bool (decide (a0 = a0)))) (objs := []) rfl (VEvs.cons (VEv.tmp (t := (T.agg [(T.int .i64 a0.Number), (T.int .i64 a0.Puzzle.Grid.Rows), (T.int .i64 a0.Puzzle.Grid.Cols), (T.str a0.Puzzle.Grid.Cells), (T.os 2 6 0 ((a0.Puzzle.Clues.map (eClue true)).length)), (T.os 1 7 0 ((a0.Puzzle.Seals.map (eInt true)).length)), (T.int .i64 a0.Puzzle.Salt), (T.str a0.Fill), (T.int .i64 a0.Open), (T.int .i64 a0.Close)])) rfl) (VEvs.cons (VEv.tmp (t := (T.agg [(T.int .i64 a0.Number), (T.int .i64 a0.Puzzle.Grid.Rows), (T.int .i64 a0.Puzzle.Grid.Cols), (T.str a0.Puzzle.Grid.Cells), (T.os 2 12 0 ((a0.Puzzle.Clues.map (eClue true)).length)), (T.os 1 13 0 ((a0.Puzzle.Seals.map (eInt true)).length)), (T.int .i64 a0.Puzzle.Salt), (T.str a0.Fill), (T.int .i64 a0.Open), (T.int .i64 a0.Close)])) rfl) VEvs.nil)) (LendL.cons (Lend.agg (LendL.cons (Lend.pl rfl) (LendL.cons (Lend.pl rfl) (LendL.cons (Lend.pl rfl) (LendL.cons (Lend.pl rfl) (LendL.cons (Lend.os rfl rfl (okeClue.fzMap _ _)) (LendL.cons (Lend.os rfl rfl (okInt.fzMap _ _)) (LendL.cons (Lend.pl rfl) (LendL.cons (Lend.pl rfl) (LendL.cons (Lend.pl rfl) (LendL.cons (Lend.pl rfl) (LendL.nil)))))))))))) (LendL.cons (Lend.agg (LendL.cons (Lend.pl rfl) (LendL.cons (Lend.pl rfl) (LendL.cons (Lend.pl rfl) (LendL.cons (Lend.pl rfl) (LendL.cons (Lend.os rfl rfl (okeClue.fzMap _ _)) (LendL.cons (Lend.os rfl rfl (okInt.fzMap _ _)) (LendL.cons (Lend.pl rfl) (LendL.cons (Lend.pl rfl) (LendL.cons (Lend.pl rfl) (LendL.cons (Lend.pl rfl) (LendL.nil)))))))))))) (LendL.nil))) (W_laws_eqIssue (n + 0) a0 a0 (by first | assumption | omega | (simp only [List.length_map]; omega) | (simp only [List.length_map, List.length_append, List.length_cons, List.length_nil, List.length_replicate, List.length_set, List.length_drop, List.length_take, lim] at *; omega)) (by first | assumption | omega | (simp only [List.length_map]; omega) | (simp only [List.length_map, List.length_append, List.length_cons, List.length_nil, List.length_replicate, List.length_set, List.length_drop, List.length_take, lim] at *; omega))) rfl) ?_
        refine VRunD.free rfl VWant.always rfl (B.not (c := (!(decide (a0 = a0)))) (VEv.tmp (t := (T.bool (decide (a0 = a0)))) rfl) rfl) ?_
        refine VRunD.nil ?_
        refine vthn.n ?_
        refine VRun.cond (VEv.tmp (t := (T.bool (!(decide (a0 = a0))))) rfl) (fun hc3 => ?_) (fun hc3 => ?_)
        · have fhc3 : ¬ (a0 = a0) := ndT hc3
          refine VRun.seq ?_
          refine VRun.region ?_
          refine VRunO.free VWant.always (OF.assign (VEv.bool false)) ?_
          refine VRunO.nil ?_
          refine vthn.n ?_
          refine VRun.ret ?_
          refine vthn.r ?_
          refine vfin.eq (r' := (T.bool false)) ?_ (vfin.r (VRes.tmp (t := (T.bool false)) rfl VRes.nil) (Give.bool _))
          show (T.bool false) = (T.bool true)
          refine congrArg T.bool ?_
          first | rfl | (exfalso; simp_all; done) | (exfalso; omega)
        · have fhc3 : a0 = a0 := ndF hc3
          first | (have hz3 := szR_pos fhc3) | skip
          refine VRun.skip ?_
          refine vthn.n ?_
          refine VRun.seq ?_
          refine VRun.seq ?_
          refine VRun.draw (B := [[], [], [1], [1, 2, 0], [0, 2, 1, 3]]) (by kernel_rfl) (by kernel_rfl) ?_
          refine VRunD.look rfl VWant.always rfl (OL.loadOn (us := [(T.int .i64 a1.Number), (T.int .i64 a1.Puzzle.Grid.Rows), (T.int .i64 a1.Puzzle.Grid.Cols), (T.str a1.Puzzle.Grid.Cells), (T.os 2 9 0 ((a1.Puzzle.Clues.map (eClue true)).length)), (T.os 1 10 0 ((a1.Puzzle.Seals.map (eInt true)).length)), (T.int .i64 a1.Puzzle.Salt), (T.str a1.Fill), (T.int .i64 a1.Open), (T.int .i64 a1.Close)]) (VEv.tmp (t := (T.op 11 0)) rfl) rfl st82 sz82 (Nat.le_of_ble_eq_true rfl) rfl) ?_
          refine VRunD.look rfl VWant.always rfl (OL.loadOn (us := (eIssue false a1)) (VEv.tmp (t := (T.op 1 0)) rfl) rfl st76 sz76 (Nat.le_of_ble_eq_true rfl) rfl) ?_
          refine VRunD.quiet (bi := [1]) rfl VWant.always rfl rfl rfl (ball_nil) (OC.callF (us := [(T.agg (eIssue false a1))]) (r := (T.agg (eIssue true a1))) (r' := (T.agg [(T.int .i64 a1.Number), (T.int .i64 a1.Puzzle.Grid.Rows), (T.int .i64 a1.Puzzle.Grid.Cols), (T.str a1.Puzzle.Grid.Cells), (T.os 2 14 0 ((a1.Puzzle.Clues.map (eClue true)).length)), (T.os 1 15 0 ((a1.Puzzle.Seals.map (eInt true)).length)), (T.int .i64 a1.Puzzle.Salt), (T.str a1.Fill), (T.int .i64 a1.Open), (T.int .i64 a1.Close)])) (objs := [(Obj.rows 2 (a1.Puzzle.Clues.map (eClue true))), (Obj.rows 1 (a1.Puzzle.Seals.map (eInt true)))]) rfl (VEvs.cons (VEv.tmp (t := (T.agg (eIssue false a1))) rfl) VEvs.nil) (LendL.cons (Lend.agg (LendL.cons (Lend.pl rfl) (LendL.cons (Lend.pl rfl) (LendL.cons (Lend.pl rfl) (LendL.cons (Lend.pl rfl) (LendL.cons (Lend.pl rfl) (LendL.cons (Lend.pl rfl) (LendL.cons (Lend.pl rfl) (LendL.cons (Lend.pl rfl) (LendL.cons (Lend.pl rfl) (LendL.cons (Lend.pl rfl) (LendL.nil)))))))))))) (LendL.nil)) (W_laws_toIssue (n + 0) a1 (by first | assumption | omega | (simp only [List.length_map]; omega) | (simp only [List.length_map, List.length_append, List.length_cons, List.length_nil, List.length_replicate, List.length_set, List.length_drop, List.length_take, lim] at *; omega))) rfl) ?_
          refine VRunD.quiet (bi := [1, 2, 0]) rfl VWant.always rfl rfl rfl (ball_nil) (OC.callF (us := [(T.agg (eIssue false a1)), (T.agg (eIssue false a1))]) (r := (T.bool (decide (a1 = a1)))) (r' := (T.bool (decide (a1 = a1)))) (objs := []) rfl (VEvs.cons (VEv.tmp (t := (T.agg [(T.int .i64 a1.Number), (T.int .i64 a1.Puzzle.Grid.Rows), (T.int .i64 a1.Puzzle.Grid.Cols), (T.str a1.Puzzle.Grid.Cells), (T.os 2 9 0 ((a1.Puzzle.Clues.map (eClue true)).length)), (T.os 1 10 0 ((a1.Puzzle.Seals.map (eInt true)).length)), (T.int .i64 a1.Puzzle.Salt), (T.str a1.Fill), (T.int .i64 a1.Open), (T.int .i64 a1.Close)])) rfl) (VEvs.cons (VEv.tmp (t := (T.agg [(T.int .i64 a1.Number), (T.int .i64 a1.Puzzle.Grid.Rows), (T.int .i64 a1.Puzzle.Grid.Cols), (T.str a1.Puzzle.Grid.Cells), (T.os 2 14 0 ((a1.Puzzle.Clues.map (eClue true)).length)), (T.os 1 15 0 ((a1.Puzzle.Seals.map (eInt true)).length)), (T.int .i64 a1.Puzzle.Salt), (T.str a1.Fill), (T.int .i64 a1.Open), (T.int .i64 a1.Close)])) rfl) VEvs.nil)) (LendL.cons (Lend.agg (LendL.cons (Lend.pl rfl) (LendL.cons (Lend.pl rfl) (LendL.cons (Lend.pl rfl) (LendL.cons (Lend.pl rfl) (LendL.cons (Lend.os rfl rfl (okeClue.fzMap _ _)) (LendL.cons (Lend.os rfl rfl (okInt.fzMap _ _)) (LendL.cons (Lend.pl rfl) (LendL.cons (Lend.pl rfl) (LendL.cons (Lend.pl rfl) (LendL.cons (Lend.pl rfl) (LendL.nil)))))))))))) (LendL.cons (Lend.agg (LendL.cons (Lend.pl rfl) (LendL.cons (Lend.pl rfl) (LendL.cons (Lend.pl rfl) (LendL.cons (Lend.pl rfl) (LendL.cons (Lend.os rfl rfl (okeClue.fzMap _ _)) (LendL.cons (Lend.os rfl rfl (okInt.fzMap _ _)) (LendL.cons (Lend.pl rfl) (LendL.cons (Lend.pl rfl) (LendL.cons (Lend.pl rfl) (LendL.cons (Lend.pl rfl) (LendL.nil)))))))))))) (LendL.nil))) (W_laws_eqIssue (n + 0) a1 a1 (by first | assumption | omega | (simp only [List.length_map]; omega) | (simp only [List.length_map, List.length_append, List.length_cons, List.length_nil, List.length_replicate, List.length_set, List.length_drop, List.length_take, lim] at *; omega)) (by first | assumption | omega | (simp only [List.length_map]; omega) | (simp only [List.length_map, List.length_append, List.length_cons, List.length_nil, List.length_replicate, List.length_set, List.length_drop, List.length_take, lim] at *; omega))) rfl) ?_
          refine VRunD.free rfl VWant.always rfl (B.not (c := (!(decide (a1 = a1)))) (VEv.tmp (t := (T.bool (decide (a1 = a1)))) rfl) rfl) ?_
          refine VRunD.nil ?_
          refine vthn.n ?_
          refine VRun.cond (VEv.tmp (t := (T.bool (!(decide (a1 = a1))))) rfl) (fun hc4 => ?_) (fun hc4 => ?_)
          · have fhc4 : ¬ (a1 = a1) := ndT hc4
            refine VRun.seq ?_
            refine VRun.region ?_
            refine VRunO.free VWant.always (OF.assign (VEv.bool false)) ?_
            refine VRunO.nil ?_
            refine vthn.n ?_
            refine VRun.ret ?_
            refine vthn.r ?_
            refine vfin.eq (r' := (T.bool false)) ?_ (vfin.r (VRes.tmp (t := (T.bool false)) rfl VRes.nil) (Give.bool _))
            show (T.bool false) = (T.bool true)
            refine congrArg T.bool ?_
            first | rfl | (exfalso; simp_all; done) | (exfalso; omega)
          · have fhc4 : a1 = a1 := ndF hc4
            first | (have hz4 := szR_pos fhc4) | skip
            refine VRun.skip ?_
            refine vthn.n ?_
            refine VRun.seq ?_
            refine VRun.region ?_
            refine VRunO.free VWant.always (OF.assign (VEv.bool true)) ?_
            refine VRunO.nil ?_
            refine vthn.n ?_
            refine VRun.ret ?_
            refine vfin.eq (r' := (T.bool true)) ?_ (vfin.r (VRes.tmp (t := (T.bool true)) rfl VRes.nil) (Give.bool _))
            rfl
end Go.Proofs.Ythdnjihmjdbdkaa.AE
