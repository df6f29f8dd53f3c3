/- Walks of the program's functions over trees. Conditions: as each theorem states. -/
import Derived.Test.YtfdefabncdddkaaKFnExactEqualHousesVhouse
namespace Go.Proofs.Ytfdefabncdddkaa.AE
open Go Go.RowKit
set_option linter.unusedVariables false
set_option linter.unusedSimpArgs false
set_option maxRecDepth 20000
set_option maxHeartbeats 2000000

theorem W_laws_FnExactEqualHouses (n : Nat) (a0 : D.House) (a1 : D.House) (g0 : GHouse a0) (g1 : GHouse a1) : Pure (acall Try.prog (n + 9)) 4 [(T.agg (eHouse false a0)), (T.agg (eHouse false a1))] (tB true) := by
  refine Pure.intro (rs := [ResultVar.tmp 4]) Try.func4 rfl rfl rfl (E0 := [(0, (T.agg (eHouse false a0))), (1, (T.agg (eHouse false a1)))]) rfl ?_
  have hlim : lim = 1099511627776 := rfl
  have hmx : mx = 1048576 := rfl
  have hmax : maxLen = 9223372036854775807 := rfl
  have hl0_0 := zL_len (z := zListed) a0.List
  have hl0_1 := zL_len (z := zMeaning) a0.Dict
  have hl0_2 := zL_len (z := zClue) a0.Desk.Clues
  have hl0_3 := zL_len (z := zIssue) a0.Issues
  have hl0_4 := zL_len (z := zUsed) a0.Uses
  have hl0_5 := zL_len (z := zCorrection) a0.Corrections
  have hl0_6 := zL_len (z := zEntry) a0.Entries
  have hl1_7 := zL_len (z := zListed) a1.List
  have hl1_8 := zL_len (z := zMeaning) a1.Dict
  have hl1_9 := zL_len (z := zClue) a1.Desk.Clues
  have hl1_10 := zL_len (z := zIssue) a1.Issues
  have hl1_11 := zL_len (z := zUsed) a1.Uses
  have hl1_12 := zL_len (z := zCorrection) a1.Corrections
  have hl1_13 := zL_len (z := zEntry) a1.Entries
  refine sr ?_
  refine kO (B.box (ts := (eHouse false a0)) (tv (T.agg (eHouse false a0)) rfl) nofun rfl) ?_
  refine kO (B.box (ts := (eHouse false a1)) (tv (T.agg (eHouse false a1)) rfl) nofun rfl) ?_
  refine fO (OF.assign (VEv.bool false)) ?_
  refine nt ?_
  refine sr ?_
  refine fO (OF.assign (VEv.int .i64 1048576)) ?_
  refine nt ?_
  refine sr ?_
  refine lO (OL.loadOn (us := (eHouse false a0)) (tv (T.op 0 0) rfl) rfl st43 sz43 (Nat.le_of_ble_eq_true rfl) rfl) ?_
  refine mO (tN 1048576) rfl ?_
  refine cO (cS (vc (tv (T.agg (eHouse false a0)) rfl) (vc (tv (tN 1048576) rfl) VEvs.nil)) (LendL.cons (lg okeHouse) (lp rfl (LendL.nil))) (W_laws_szHouse (n + 0) a0 1048576 (by first | assumption | omega) (by first | assumption | omega) (by first | assumption | omega)) rfl rfl) ?_
  refine aO (tI (szR (zHouse a0) 1048576)) rfl ?_
  refine nt ?_
  refine sq ?_
  refine sr ?_
  refine mO (tI (szR (zHouse a0) 1048576)) rfl ?_
  refine fO (B.lss (c := (decide (szR (zHouse a0) 1048576 < 0))) (tv (tI (szR (zHouse a0) 1048576)) rfl) (VEv.int .i64 0) rfl) ?_
  refine nt ?_
  refine VRun.cond (tv (tB (decide (szR (zHouse a0) 1048576 < 0))) rfl) (fun hc0 => ?_) (fun hc0 => ?_)
  · have fhc0 : szR (zHouse a0) 1048576 < 0 := of_decide_eq_true hc0
    refine sr ?_
    refine fO (OF.assign (VEv.bool true)) ?_
    refine nt ?_
    refine rt ?_
    refine tr ?_
    exact vb rfl rfl
  have fhc0 : ¬ (szR (zHouse a0) 1048576 < 0) := of_decide_eq_false hc0
  first | (have hz0 := szR_pos fhc0) | skip
  refine sk ?_
  refine tn ?_
  refine sr ?_
  refine lO (OL.loadOn (us := (eHouse false a1)) (tv (T.op 1 0) rfl) rfl st43 sz43 (Nat.le_of_ble_eq_true rfl) rfl) ?_
  refine mO (tI (szR (zHouse a0) 1048576)) rfl ?_
  refine cO (cS (vc (tv (T.agg (eHouse false a1)) rfl) (vc (tv (tI (szR (zHouse a0) 1048576)) rfl) VEvs.nil)) (LendL.cons (lg okeHouse) (lp rfl (LendL.nil))) (W_laws_szHouse (n + 0) a1 (szR (zHouse a0) 1048576) (by first | assumption | omega) (by first | assumption | omega) (by first | assumption | omega)) rfl rfl) ?_
  refine aO (tI (szR (zHouse a1) (szR (zHouse a0) 1048576))) rfl ?_
  refine nt ?_
  refine sq ?_
  refine sr ?_
  refine mO (tI (szR (zHouse a1) (szR (zHouse a0) 1048576))) rfl ?_
  refine fO (B.lss (c := (decide (szR (zHouse a1) (szR (zHouse a0) 1048576) < 0))) (tv (tI (szR (zHouse a1) (szR (zHouse a0) 1048576))) rfl) (VEv.int .i64 0) rfl) ?_
  refine nt ?_
  refine VRun.cond (tv (tB (decide (szR (zHouse a1) (szR (zHouse a0) 1048576) < 0))) rfl) (fun hc1 => ?_) (fun hc1 => ?_)
  · have fhc1 : szR (zHouse a1) (szR (zHouse a0) 1048576) < 0 := of_decide_eq_true hc1
    refine sr ?_
    refine fO (OF.assign (VEv.bool true)) ?_
    refine nt ?_
    refine rt ?_
    refine tr ?_
    exact vb rfl rfl
  have fhc1 : ¬ (szR (zHouse a1) (szR (zHouse a0) 1048576) < 0) := of_decide_eq_false hc1
  first | (have hz1 := szR_pos fhc1) | skip
  refine sk ?_
  refine tn ?_
  refine sq ?_
  refine VRun.draw (B := [[], [0], [], [0, 1, 2], [2, 3, 0, 1], [1, 0, 3, 2, 4]]) (by kernel_rfl) (by kernel_rfl) ?_
  refine lD (OL.loadOn (us := (eHouse false a0)) (tv (T.op 0 0) rfl) rfl st43 sz43 (Nat.le_of_ble_eq_true rfl) rfl) rfl rfl ?_
  refine VRunD.quiet (bi := [0]) rfl VWant.always rfl rfl rfl (ball_nil) (OC.callF (us := [(T.agg (eHouse false a0))]) (r := (T.agg (eHouse true a0))) (r' := (T.agg [(T.os 4 2 0 ((a0.List.map (eListed true)).length)), (T.os 2 3 0 ((a0.Dict.map (eMeaning true)).length)), (tI a0.Desk.Grid.Rows), (tI a0.Desk.Grid.Cols), (tS a0.Desk.Grid.Cells), (tS a0.Desk.Fill), (T.os 2 4 0 ((a0.Desk.Clues.map (eClue true)).length)), (tI a0.Desk.Version), (T.os 10 5 0 ((a0.Issues.map (eIssue true)).length)), (T.os 2 6 0 ((a0.Uses.map (eUsed true)).length)), (T.os 5 7 0 ((a0.Corrections.map (eCorrection true)).length)), (T.os 4 8 0 ((a0.Entries.map (eEntry true)).length)), (tI a0.Now)])) (objs := [(Obj.rows 4 (a0.List.map (eListed true))), (Obj.rows 2 (a0.Dict.map (eMeaning true))), (Obj.rows 2 (a0.Desk.Clues.map (eClue true))), (Obj.rows 10 (a0.Issues.map (eIssue true))), (Obj.rows 2 (a0.Uses.map (eUsed true))), (Obj.rows 5 (a0.Corrections.map (eCorrection true))), (Obj.rows 4 (a0.Entries.map (eEntry true)))]) rfl (vc (tv (T.agg (eHouse false a0)) rfl) VEvs.nil) (LendL.cons (lg okeHouse) (LendL.nil)) (W_laws_toHouse (n + 0) a0 (by first | assumption | omega)) rfl) ?_
  refine lD (OL.loadOn (us := (eHouse false a1)) (tv (T.op 1 0) rfl) rfl st43 sz43 (Nat.le_of_ble_eq_true rfl) rfl) rfl rfl ?_
  refine VRunD.quiet (bi := [0, 1, 2]) rfl VWant.always rfl rfl rfl (ball_nil) (OC.callF (us := [(T.agg (eHouse false a1))]) (r := (T.agg (eHouse true a1))) (r' := (T.agg [(T.os 4 9 0 ((a1.List.map (eListed true)).length)), (T.os 2 10 0 ((a1.Dict.map (eMeaning true)).length)), (tI a1.Desk.Grid.Rows), (tI a1.Desk.Grid.Cols), (tS a1.Desk.Grid.Cells), (tS a1.Desk.Fill), (T.os 2 11 0 ((a1.Desk.Clues.map (eClue true)).length)), (tI a1.Desk.Version), (T.os 10 12 0 ((a1.Issues.map (eIssue true)).length)), (T.os 2 13 0 ((a1.Uses.map (eUsed true)).length)), (T.os 5 14 0 ((a1.Corrections.map (eCorrection true)).length)), (T.os 4 15 0 ((a1.Entries.map (eEntry true)).length)), (tI a1.Now)])) (objs := [(Obj.rows 4 (a1.List.map (eListed true))), (Obj.rows 2 (a1.Dict.map (eMeaning true))), (Obj.rows 2 (a1.Desk.Clues.map (eClue true))), (Obj.rows 10 (a1.Issues.map (eIssue true))), (Obj.rows 2 (a1.Uses.map (eUsed true))), (Obj.rows 5 (a1.Corrections.map (eCorrection true))), (Obj.rows 4 (a1.Entries.map (eEntry true)))]) rfl (vc (tv (T.agg (eHouse false a1)) rfl) VEvs.nil) (LendL.cons (lg okeHouse) (LendL.nil)) (W_laws_toHouse (n + 0) a1 (by first | assumption | omega)) rfl) ?_
  refine VRunD.quiet (bi := [2, 3, 0, 1]) rfl VWant.always rfl rfl rfl (ball_nil) (cS (us := [(T.agg (eHouse false a0)), (T.agg (eHouse false a1))]) (vc (tv (T.agg [(T.os 4 2 0 ((a0.List.map (eListed true)).length)), (T.os 2 3 0 ((a0.Dict.map (eMeaning true)).length)), (tI a0.Desk.Grid.Rows), (tI a0.Desk.Grid.Cols), (tS a0.Desk.Grid.Cells), (tS a0.Desk.Fill), (T.os 2 4 0 ((a0.Desk.Clues.map (eClue true)).length)), (tI a0.Desk.Version), (T.os 10 5 0 ((a0.Issues.map (eIssue true)).length)), (T.os 2 6 0 ((a0.Uses.map (eUsed true)).length)), (T.os 5 7 0 ((a0.Corrections.map (eCorrection true)).length)), (T.os 4 8 0 ((a0.Entries.map (eEntry true)).length)), (tI a0.Now)]) rfl) (vc (tv (T.agg [(T.os 4 9 0 ((a1.List.map (eListed true)).length)), (T.os 2 10 0 ((a1.Dict.map (eMeaning true)).length)), (tI a1.Desk.Grid.Rows), (tI a1.Desk.Grid.Cols), (tS a1.Desk.Grid.Cells), (tS a1.Desk.Fill), (T.os 2 11 0 ((a1.Desk.Clues.map (eClue true)).length)), (tI a1.Desk.Version), (T.os 10 12 0 ((a1.Issues.map (eIssue true)).length)), (T.os 2 13 0 ((a1.Uses.map (eUsed true)).length)), (T.os 5 14 0 ((a1.Corrections.map (eCorrection true)).length)), (T.os 4 15 0 ((a1.Entries.map (eEntry true)).length)), (tI a1.Now)]) rfl) VEvs.nil)) (LendL.cons (Lend.agg (LendL.cons (Lend.os rfl rfl (okeListed.fzMap _ _)) (LendL.cons (Lend.os rfl rfl (okeMeaning.fzMap _ _)) (LendL.cons (Lend.pl rfl) (LendL.cons (Lend.pl rfl) (LendL.cons (Lend.pl rfl) (LendL.cons (Lend.pl rfl) (LendL.cons (Lend.os rfl rfl (okeClue.fzMap _ _)) (LendL.cons (Lend.pl rfl) (LendL.cons (Lend.os rfl rfl (okeIssue.fzMap _ _)) (LendL.cons (Lend.os rfl rfl (okeUsed.fzMap _ _)) (LendL.cons (Lend.os rfl rfl (okeCorrection.fzMap _ _)) (LendL.cons (Lend.os rfl rfl (okeEntry.fzMap _ _)) (LendL.cons (Lend.pl rfl) (LendL.nil))))))))))))))) (LendL.cons (Lend.agg (LendL.cons (Lend.os rfl rfl (okeListed.fzMap _ _)) (LendL.cons (Lend.os rfl rfl (okeMeaning.fzMap _ _)) (LendL.cons (Lend.pl rfl) (LendL.cons (Lend.pl rfl) (LendL.cons (Lend.pl rfl) (LendL.cons (Lend.pl rfl) (LendL.cons (Lend.os rfl rfl (okeClue.fzMap _ _)) (LendL.cons (Lend.pl rfl) (LendL.cons (Lend.os rfl rfl (okeIssue.fzMap _ _)) (LendL.cons (Lend.os rfl rfl (okeUsed.fzMap _ _)) (LendL.cons (Lend.os rfl rfl (okeCorrection.fzMap _ _)) (LendL.cons (Lend.os rfl rfl (okeEntry.fzMap _ _)) (LendL.cons (Lend.pl rfl) (LendL.nil))))))))))))))) (LendL.nil))) (W_spec_EqualHouses (n + 4) a0 a1 (by first | assumption | omega) (by first | assumption | omega)) rfl rfl) ?_
  refine fD (OF.assign (tv (tB (decide (a0 = a1))) rfl)) rfl rfl ?_
  refine VRunD.nil ?_
  refine tn ?_
  refine sr ?_
  refine lO (OL.loadOn (us := (eHouse false a0)) (tv (T.op 0 0) rfl) rfl st43 sz43 (Nat.le_of_ble_eq_true rfl) rfl) ?_
  refine cO (OC.callF (us := [(T.agg (eHouse false a0))]) (r := (T.agg (eHouse true a0))) (r' := (T.agg [(T.os 4 16 0 ((a0.List.map (eListed true)).length)), (T.os 2 17 0 ((a0.Dict.map (eMeaning true)).length)), (tI a0.Desk.Grid.Rows), (tI a0.Desk.Grid.Cols), (tS a0.Desk.Grid.Cells), (tS a0.Desk.Fill), (T.os 2 18 0 ((a0.Desk.Clues.map (eClue true)).length)), (tI a0.Desk.Version), (T.os 10 19 0 ((a0.Issues.map (eIssue true)).length)), (T.os 2 20 0 ((a0.Uses.map (eUsed true)).length)), (T.os 5 21 0 ((a0.Corrections.map (eCorrection true)).length)), (T.os 4 22 0 ((a0.Entries.map (eEntry true)).length)), (tI a0.Now)])) (objs := [(Obj.rows 4 (a0.List.map (eListed true))), (Obj.rows 2 (a0.Dict.map (eMeaning true))), (Obj.rows 2 (a0.Desk.Clues.map (eClue true))), (Obj.rows 10 (a0.Issues.map (eIssue true))), (Obj.rows 2 (a0.Uses.map (eUsed true))), (Obj.rows 5 (a0.Corrections.map (eCorrection true))), (Obj.rows 4 (a0.Entries.map (eEntry true)))]) rfl (vc (tv (T.agg (eHouse false a0)) rfl) VEvs.nil) (LendL.cons (lg okeHouse) (LendL.nil)) (W_laws_toHouse (n + 0) a0 (by first | assumption | omega)) rfl) ?_
  refine kO (B.alloc (t := (T.agg [T.nils, T.nils, (tN 0), (tN 0), (tS ByteArray.empty), (tS ByteArray.empty), T.nils, (tN 0), T.nils, T.nils, T.nils, T.nils, (tN 0)])) (ts := [T.nils, T.nils, (tN 0), (tN 0), (tS ByteArray.empty), (tS ByteArray.empty), T.nils, (tN 0), T.nils, T.nils, T.nils, T.nils, (tN 0)]) zo53 zc53 nofun (fun _ => .agg _ _ rfl (RLof (RL.cons (.nils) (RL.cons (.nils) (RL.cons (.int _ _) (RL.cons (.int _ _) (RL.cons (.str _) (RL.cons (.str _) (RL.cons (.nils) (RL.cons (.int _ _) (RL.cons (.nils) (RL.cons (.nils) (RL.cons (.nils) (RL.cons (.nils) (RL.cons (.int _ _) (RL.nil _)))))))))))))))) rfl) ?_
  refine cO (B.storeO (us := [(T.os 4 16 0 ((a0.List.map (eListed true)).length)), (T.os 2 17 0 ((a0.Dict.map (eMeaning true)).length)), (tI a0.Desk.Grid.Rows), (tI a0.Desk.Grid.Cols), (tS a0.Desk.Grid.Cells), (tS a0.Desk.Fill), (T.os 2 18 0 ((a0.Desk.Clues.map (eClue true)).length)), (tI a0.Desk.Version), (T.os 10 19 0 ((a0.Issues.map (eIssue true)).length)), (T.os 2 20 0 ((a0.Uses.map (eUsed true)).length)), (T.os 5 21 0 ((a0.Corrections.map (eCorrection true)).length)), (T.os 4 22 0 ((a0.Entries.map (eEntry true)).length)), (tI a0.Now)]) (ws := [(T.os 4 16 0 ((a0.List.map (eListed true)).length)), (T.os 2 17 0 ((a0.Dict.map (eMeaning true)).length)), (tI a0.Desk.Grid.Rows), (tI a0.Desk.Grid.Cols), (tS a0.Desk.Grid.Cells), (tS a0.Desk.Fill), (T.os 2 18 0 ((a0.Desk.Clues.map (eClue true)).length)), (tI a0.Desk.Version), (T.os 10 19 0 ((a0.Issues.map (eIssue true)).length)), (T.os 2 20 0 ((a0.Uses.map (eUsed true)).length)), (T.os 5 21 0 ((a0.Corrections.map (eCorrection true)).length)), (T.os 4 22 0 ((a0.Entries.map (eEntry true)).length)), (tI a0.Now)]) (tv (T.op 23 0) rfl) (tv (T.agg [(T.os 4 16 0 ((a0.List.map (eListed true)).length)), (T.os 2 17 0 ((a0.Dict.map (eMeaning true)).length)), (tI a0.Desk.Grid.Rows), (tI a0.Desk.Grid.Cols), (tS a0.Desk.Grid.Cells), (tS a0.Desk.Fill), (T.os 2 18 0 ((a0.Desk.Clues.map (eClue true)).length)), (tI a0.Desk.Version), (T.os 10 19 0 ((a0.Issues.map (eIssue true)).length)), (T.os 2 20 0 ((a0.Uses.map (eUsed true)).length)), (T.os 5 21 0 ((a0.Corrections.map (eCorrection true)).length)), (T.os 4 22 0 ((a0.Entries.map (eEntry true)).length)), (tI a0.Now)]) rfl) nofun rfl rfl (Nat.le_of_ble_eq_true rfl) if53 sz53 (ball_cons rfl (ball_cons rfl (ball_cons rfl (ball_cons rfl (ball_cons rfl (ball_cons rfl (ball_cons rfl (ball_cons rfl (ball_cons rfl (ball_cons rfl (ball_cons rfl (ball_cons rfl (ball_cons rfl (ball_nil)))))))))))))) rfl) ?_
  refine nt ?_
  refine sr ?_
  refine lO (OL.loadOn (us := (eHouse false a1)) (tv (T.op 1 0) rfl) rfl st43 sz43 (Nat.le_of_ble_eq_true rfl) rfl) ?_
  refine cO (OC.callF (us := [(T.agg (eHouse false a1))]) (r := (T.agg (eHouse true a1))) (r' := (T.agg [(T.os 4 24 0 ((a1.List.map (eListed true)).length)), (T.os 2 25 0 ((a1.Dict.map (eMeaning true)).length)), (tI a1.Desk.Grid.Rows), (tI a1.Desk.Grid.Cols), (tS a1.Desk.Grid.Cells), (tS a1.Desk.Fill), (T.os 2 26 0 ((a1.Desk.Clues.map (eClue true)).length)), (tI a1.Desk.Version), (T.os 10 27 0 ((a1.Issues.map (eIssue true)).length)), (T.os 2 28 0 ((a1.Uses.map (eUsed true)).length)), (T.os 5 29 0 ((a1.Corrections.map (eCorrection true)).length)), (T.os 4 30 0 ((a1.Entries.map (eEntry true)).length)), (tI a1.Now)])) (objs := [(Obj.rows 4 (a1.List.map (eListed true))), (Obj.rows 2 (a1.Dict.map (eMeaning true))), (Obj.rows 2 (a1.Desk.Clues.map (eClue true))), (Obj.rows 10 (a1.Issues.map (eIssue true))), (Obj.rows 2 (a1.Uses.map (eUsed true))), (Obj.rows 5 (a1.Corrections.map (eCorrection true))), (Obj.rows 4 (a1.Entries.map (eEntry true)))]) rfl (vc (tv (T.agg (eHouse false a1)) rfl) VEvs.nil) (LendL.cons (lg okeHouse) (LendL.nil)) (W_laws_toHouse (n + 0) a1 (by first | assumption | omega)) rfl) ?_
  refine kO (B.alloc (t := (T.agg [T.nils, T.nils, (tN 0), (tN 0), (tS ByteArray.empty), (tS ByteArray.empty), T.nils, (tN 0), T.nils, T.nils, T.nils, T.nils, (tN 0)])) (ts := [T.nils, T.nils, (tN 0), (tN 0), (tS ByteArray.empty), (tS ByteArray.empty), T.nils, (tN 0), T.nils, T.nils, T.nils, T.nils, (tN 0)]) zo53 zc53 nofun (fun _ => .agg _ _ rfl (RLof (RL.cons (.nils) (RL.cons (.nils) (RL.cons (.int _ _) (RL.cons (.int _ _) (RL.cons (.str _) (RL.cons (.str _) (RL.cons (.nils) (RL.cons (.int _ _) (RL.cons (.nils) (RL.cons (.nils) (RL.cons (.nils) (RL.cons (.nils) (RL.cons (.int _ _) (RL.nil _)))))))))))))))) rfl) ?_
  refine cO (B.storeO (us := [(T.os 4 24 0 ((a1.List.map (eListed true)).length)), (T.os 2 25 0 ((a1.Dict.map (eMeaning true)).length)), (tI a1.Desk.Grid.Rows), (tI a1.Desk.Grid.Cols), (tS a1.Desk.Grid.Cells), (tS a1.Desk.Fill), (T.os 2 26 0 ((a1.Desk.Clues.map (eClue true)).length)), (tI a1.Desk.Version), (T.os 10 27 0 ((a1.Issues.map (eIssue true)).length)), (T.os 2 28 0 ((a1.Uses.map (eUsed true)).length)), (T.os 5 29 0 ((a1.Corrections.map (eCorrection true)).length)), (T.os 4 30 0 ((a1.Entries.map (eEntry true)).length)), (tI a1.Now)]) (ws := [(T.os 4 24 0 ((a1.List.map (eListed true)).length)), (T.os 2 25 0 ((a1.Dict.map (eMeaning true)).length)), (tI a1.Desk.Grid.Rows), (tI a1.Desk.Grid.Cols), (tS a1.Desk.Grid.Cells), (tS a1.Desk.Fill), (T.os 2 26 0 ((a1.Desk.Clues.map (eClue true)).length)), (tI a1.Desk.Version), (T.os 10 27 0 ((a1.Issues.map (eIssue true)).length)), (T.os 2 28 0 ((a1.Uses.map (eUsed true)).length)), (T.os 5 29 0 ((a1.Corrections.map (eCorrection true)).length)), (T.os 4 30 0 ((a1.Entries.map (eEntry true)).length)), (tI a1.Now)]) (tv (T.op 31 0) rfl) (tv (T.agg [(T.os 4 24 0 ((a1.List.map (eListed true)).length)), (T.os 2 25 0 ((a1.Dict.map (eMeaning true)).length)), (tI a1.Desk.Grid.Rows), (tI a1.Desk.Grid.Cols), (tS a1.Desk.Grid.Cells), (tS a1.Desk.Fill), (T.os 2 26 0 ((a1.Desk.Clues.map (eClue true)).length)), (tI a1.Desk.Version), (T.os 10 27 0 ((a1.Issues.map (eIssue true)).length)), (T.os 2 28 0 ((a1.Uses.map (eUsed true)).length)), (T.os 5 29 0 ((a1.Corrections.map (eCorrection true)).length)), (T.os 4 30 0 ((a1.Entries.map (eEntry true)).length)), (tI a1.Now)]) rfl) nofun rfl rfl (Nat.le_of_ble_eq_true rfl) if53 sz53 (ball_cons rfl (ball_cons rfl (ball_cons rfl (ball_cons rfl (ball_cons rfl (ball_cons rfl (ball_cons rfl (ball_cons rfl (ball_cons rfl (ball_cons rfl (ball_cons rfl (ball_cons rfl (ball_cons rfl (ball_nil)))))))))))))) rfl) ?_
  refine nt ?_
  refine sr ?_
  refine lO (OL.loadOn (us := [(T.os 4 16 0 ((a0.List.map (eListed true)).length)), (T.os 2 17 0 ((a0.Dict.map (eMeaning true)).length)), (tI a0.Desk.Grid.Rows), (tI a0.Desk.Grid.Cols), (tS a0.Desk.Grid.Cells), (tS a0.Desk.Fill), (T.os 2 18 0 ((a0.Desk.Clues.map (eClue true)).length)), (tI a0.Desk.Version), (T.os 10 19 0 ((a0.Issues.map (eIssue true)).length)), (T.os 2 20 0 ((a0.Uses.map (eUsed true)).length)), (T.os 5 21 0 ((a0.Corrections.map (eCorrection true)).length)), (T.os 4 22 0 ((a0.Entries.map (eEntry true)).length)), (tI a0.Now)]) (tv (T.op 23 0) rfl) rfl st53 sz53 (Nat.le_of_ble_eq_true rfl) rfl) ?_
  refine lO (OL.loadOn (us := [(T.os 4 24 0 ((a1.List.map (eListed true)).length)), (T.os 2 25 0 ((a1.Dict.map (eMeaning true)).length)), (tI a1.Desk.Grid.Rows), (tI a1.Desk.Grid.Cols), (tS a1.Desk.Grid.Cells), (tS a1.Desk.Fill), (T.os 2 26 0 ((a1.Desk.Clues.map (eClue true)).length)), (tI a1.Desk.Version), (T.os 10 27 0 ((a1.Issues.map (eIssue true)).length)), (T.os 2 28 0 ((a1.Uses.map (eUsed true)).length)), (T.os 5 29 0 ((a1.Corrections.map (eCorrection true)).length)), (T.os 4 30 0 ((a1.Entries.map (eEntry true)).length)), (tI a1.Now)]) (tv (T.op 31 0) rfl) rfl st53 sz53 (Nat.le_of_ble_eq_true rfl) rfl) ?_
  refine cO (cS (us := [(T.agg (eHouse false a0)), (T.agg (eHouse false a1))]) (vc (tv (T.agg [(T.os 4 16 0 ((a0.List.map (eListed true)).length)), (T.os 2 17 0 ((a0.Dict.map (eMeaning true)).length)), (tI a0.Desk.Grid.Rows), (tI a0.Desk.Grid.Cols), (tS a0.Desk.Grid.Cells), (tS a0.Desk.Fill), (T.os 2 18 0 ((a0.Desk.Clues.map (eClue true)).length)), (tI a0.Desk.Version), (T.os 10 19 0 ((a0.Issues.map (eIssue true)).length)), (T.os 2 20 0 ((a0.Uses.map (eUsed true)).length)), (T.os 5 21 0 ((a0.Corrections.map (eCorrection true)).length)), (T.os 4 22 0 ((a0.Entries.map (eEntry true)).length)), (tI a0.Now)]) rfl) (vc (tv (T.agg [(T.os 4 24 0 ((a1.List.map (eListed true)).length)), (T.os 2 25 0 ((a1.Dict.map (eMeaning true)).length)), (tI a1.Desk.Grid.Rows), (tI a1.Desk.Grid.Cols), (tS a1.Desk.Grid.Cells), (tS a1.Desk.Fill), (T.os 2 26 0 ((a1.Desk.Clues.map (eClue true)).length)), (tI a1.Desk.Version), (T.os 10 27 0 ((a1.Issues.map (eIssue true)).length)), (T.os 2 28 0 ((a1.Uses.map (eUsed true)).length)), (T.os 5 29 0 ((a1.Corrections.map (eCorrection true)).length)), (T.os 4 30 0 ((a1.Entries.map (eEntry true)).length)), (tI a1.Now)]) rfl) VEvs.nil)) (LendL.cons (Lend.agg (LendL.cons (Lend.os rfl rfl (okeListed.fzMap _ _)) (LendL.cons (Lend.os rfl rfl (okeMeaning.fzMap _ _)) (LendL.cons (Lend.pl rfl) (LendL.cons (Lend.pl rfl) (LendL.cons (Lend.pl rfl) (LendL.cons (Lend.pl rfl) (LendL.cons (Lend.os rfl rfl (okeClue.fzMap _ _)) (LendL.cons (Lend.pl rfl) (LendL.cons (Lend.os rfl rfl (okeIssue.fzMap _ _)) (LendL.cons (Lend.os rfl rfl (okeUsed.fzMap _ _)) (LendL.cons (Lend.os rfl rfl (okeCorrection.fzMap _ _)) (LendL.cons (Lend.os rfl rfl (okeEntry.fzMap _ _)) (LendL.cons (Lend.pl rfl) (LendL.nil))))))))))))))) (LendL.cons (Lend.agg (LendL.cons (Lend.os rfl rfl (okeListed.fzMap _ _)) (LendL.cons (Lend.os rfl rfl (okeMeaning.fzMap _ _)) (LendL.cons (Lend.pl rfl) (LendL.cons (Lend.pl rfl) (LendL.cons (Lend.pl rfl) (LendL.cons (Lend.pl rfl) (LendL.cons (Lend.os rfl rfl (okeClue.fzMap _ _)) (LendL.cons (Lend.pl rfl) (LendL.cons (Lend.os rfl rfl (okeIssue.fzMap _ _)) (LendL.cons (Lend.os rfl rfl (okeUsed.fzMap _ _)) (LendL.cons (Lend.os rfl rfl (okeCorrection.fzMap _ _)) (LendL.cons (Lend.os rfl rfl (okeEntry.fzMap _ _)) (LendL.cons (Lend.pl rfl) (LendL.nil))))))))))))))) (LendL.nil))) (W_impl_EqualHouses (n + 1) a0 a1 (by first | assumption | omega) (by first | assumption | omega)) rfl rfl) ?_
  refine aO (tB (decide (a0 = a1))) rfl ?_
  refine nt ?_
  refine sq ?_
  refine sr ?_
  refine mO (tB (decide (a0 = a1))) rfl ?_
  refine mO (tB (decide (a0 = a1))) rfl ?_
  refine fO (B.bneq Try.underlying4 (c := (!((decide (a0 = a1)) == (decide (a0 = a1))))) (tv (tB (decide (a0 = a1))) rfl) (tv (tB (decide (a0 = a1))) rfl) rfl) ?_
  refine nt ?_
  refine VRun.cond (tv (tB (!((decide (a0 = a1)) == (decide (a0 = a1))))) rfl) (fun hc2 => ?_) (fun hc2 => ?_)
  · have fhc2 : (!((decide (a0 = a1)) == (decide (a0 = a1)))) = true := hc2
    refine sr ?_
    refine fO (OF.assign (VEv.bool false)) ?_
    refine nt ?_
    refine rt ?_
    refine tr ?_
    refine vb (b' := false) rfl ?_
    first | rfl | (exfalso; simp_all; done) | (exfalso; omega)
  have fhc2 : (!((decide (a0 = a1)) == (decide (a0 = a1)))) = false := hc2
  first | (have hz2 := szR_pos fhc2) | skip
  refine sk ?_
  refine tn ?_
  refine sq ?_
  refine sq ?_
  refine VRun.draw (B := [[], [], [1], [1, 2, 0], [0, 2, 1, 3]]) (by kernel_rfl) (by kernel_rfl) ?_
  refine lD (OL.loadOn (us := [(T.os 4 16 0 ((a0.List.map (eListed true)).length)), (T.os 2 17 0 ((a0.Dict.map (eMeaning true)).length)), (tI a0.Desk.Grid.Rows), (tI a0.Desk.Grid.Cols), (tS a0.Desk.Grid.Cells), (tS a0.Desk.Fill), (T.os 2 18 0 ((a0.Desk.Clues.map (eClue true)).length)), (tI a0.Desk.Version), (T.os 10 19 0 ((a0.Issues.map (eIssue true)).length)), (T.os 2 20 0 ((a0.Uses.map (eUsed true)).length)), (T.os 5 21 0 ((a0.Corrections.map (eCorrection true)).length)), (T.os 4 22 0 ((a0.Entries.map (eEntry true)).length)), (tI a0.Now)]) (tv (T.op 23 0) rfl) rfl st53 sz53 (Nat.le_of_ble_eq_true rfl) rfl) rfl rfl ?_
  refine lD (OL.loadOn (us := (eHouse false a0)) (tv (T.op 0 0) rfl) rfl st43 sz43 (Nat.le_of_ble_eq_true rfl) rfl) rfl rfl ?_
  refine VRunD.quiet (bi := [1]) rfl VWant.always rfl rfl rfl (ball_nil) (OC.callF (us := [(T.agg (eHouse false a0))]) (r := (T.agg (eHouse true a0))) (r' := (T.agg [(T.os 4 32 0 ((a0.List.map (eListed true)).length)), (T.os 2 33 0 ((a0.Dict.map (eMeaning true)).length)), (tI a0.Desk.Grid.Rows), (tI a0.Desk.Grid.Cols), (tS a0.Desk.Grid.Cells), (tS a0.Desk.Fill), (T.os 2 34 0 ((a0.Desk.Clues.map (eClue true)).length)), (tI a0.Desk.Version), (T.os 10 35 0 ((a0.Issues.map (eIssue true)).length)), (T.os 2 36 0 ((a0.Uses.map (eUsed true)).length)), (T.os 5 37 0 ((a0.Corrections.map (eCorrection true)).length)), (T.os 4 38 0 ((a0.Entries.map (eEntry true)).length)), (tI a0.Now)])) (objs := [(Obj.rows 4 (a0.List.map (eListed true))), (Obj.rows 2 (a0.Dict.map (eMeaning true))), (Obj.rows 2 (a0.Desk.Clues.map (eClue true))), (Obj.rows 10 (a0.Issues.map (eIssue true))), (Obj.rows 2 (a0.Uses.map (eUsed true))), (Obj.rows 5 (a0.Corrections.map (eCorrection true))), (Obj.rows 4 (a0.Entries.map (eEntry true)))]) rfl (vc (tv (T.agg (eHouse false a0)) rfl) VEvs.nil) (LendL.cons (lg okeHouse) (LendL.nil)) (W_laws_toHouse (n + 0) a0 (by first | assumption | omega)) rfl) ?_
  refine VRunD.quiet (bi := [1, 2, 0]) rfl VWant.always rfl rfl rfl (ball_nil) (cS (us := [(T.agg (eHouse false a0)), (T.agg (eHouse false a0))]) (vc (tv (T.agg [(T.os 4 16 0 ((a0.List.map (eListed true)).length)), (T.os 2 17 0 ((a0.Dict.map (eMeaning true)).length)), (tI a0.Desk.Grid.Rows), (tI a0.Desk.Grid.Cols), (tS a0.Desk.Grid.Cells), (tS a0.Desk.Fill), (T.os 2 18 0 ((a0.Desk.Clues.map (eClue true)).length)), (tI a0.Desk.Version), (T.os 10 19 0 ((a0.Issues.map (eIssue true)).length)), (T.os 2 20 0 ((a0.Uses.map (eUsed true)).length)), (T.os 5 21 0 ((a0.Corrections.map (eCorrection true)).length)), (T.os 4 22 0 ((a0.Entries.map (eEntry true)).length)), (tI a0.Now)]) rfl) (vc (tv (T.agg [(T.os 4 32 0 ((a0.List.map (eListed true)).length)), (T.os 2 33 0 ((a0.Dict.map (eMeaning true)).length)), (tI a0.Desk.Grid.Rows), (tI a0.Desk.Grid.Cols), (tS a0.Desk.Grid.Cells), (tS a0.Desk.Fill), (T.os 2 34 0 ((a0.Desk.Clues.map (eClue true)).length)), (tI a0.Desk.Version), (T.os 10 35 0 ((a0.Issues.map (eIssue true)).length)), (T.os 2 36 0 ((a0.Uses.map (eUsed true)).length)), (T.os 5 37 0 ((a0.Corrections.map (eCorrection true)).length)), (T.os 4 38 0 ((a0.Entries.map (eEntry true)).length)), (tI a0.Now)]) rfl) VEvs.nil)) (LendL.cons (Lend.agg (LendL.cons (Lend.os rfl rfl (okeListed.fzMap _ _)) (LendL.cons (Lend.os rfl rfl (okeMeaning.fzMap _ _)) (LendL.cons (Lend.pl rfl) (LendL.cons (Lend.pl rfl) (LendL.cons (Lend.pl rfl) (LendL.cons (Lend.pl rfl) (LendL.cons (Lend.os rfl rfl (okeClue.fzMap _ _)) (LendL.cons (Lend.pl rfl) (LendL.cons (Lend.os rfl rfl (okeIssue.fzMap _ _)) (LendL.cons (Lend.os rfl rfl (okeUsed.fzMap _ _)) (LendL.cons (Lend.os rfl rfl (okeCorrection.fzMap _ _)) (LendL.cons (Lend.os rfl rfl (okeEntry.fzMap _ _)) (LendL.cons (Lend.pl rfl) (LendL.nil))))))))))))))) (LendL.cons (Lend.agg (LendL.cons (Lend.os rfl rfl (okeListed.fzMap _ _)) (LendL.cons (Lend.os rfl rfl (okeMeaning.fzMap _ _)) (LendL.cons (Lend.pl rfl) (LendL.cons (Lend.pl rfl) (LendL.cons (Lend.pl rfl) (LendL.cons (Lend.pl rfl) (LendL.cons (Lend.os rfl rfl (okeClue.fzMap _ _)) (LendL.cons (Lend.pl rfl) (LendL.cons (Lend.os rfl rfl (okeIssue.fzMap _ _)) (LendL.cons (Lend.os rfl rfl (okeUsed.fzMap _ _)) (LendL.cons (Lend.os rfl rfl (okeCorrection.fzMap _ _)) (LendL.cons (Lend.os rfl rfl (okeEntry.fzMap _ _)) (LendL.cons (Lend.pl rfl) (LendL.nil))))))))))))))) (LendL.nil))) (W_laws_eqHouse (n + 0) a0 a0 (by first | assumption | omega) (by first | assumption | omega)) rfl rfl) ?_
  refine fD (B.not (c := (!(decide (a0 = a0)))) (tv (tB (decide (a0 = a0))) rfl) rfl) rfl rfl ?_
  refine VRunD.nil ?_
  refine tn ?_
  refine VRun.cond (tv (tB (!(decide (a0 = a0)))) rfl) (fun hc3 => ?_) (fun hc3 => ?_)
  · have fhc3 : ¬ (a0 = a0) := ndT hc3
    refine sr ?_
    refine fO (OF.assign (VEv.bool false)) ?_
    refine nt ?_
    refine rt ?_
    refine tr ?_
    refine vb (b' := false) rfl ?_
    first | rfl | (exfalso; simp_all; done) | (exfalso; omega)
  have fhc3 : a0 = a0 := ndF hc3
  first | (have hz3 := szR_pos fhc3) | skip
  refine sk ?_
  refine tn ?_
  refine sq ?_
  refine sq ?_
  refine VRun.draw (B := [[], [], [1], [1, 2, 0], [0, 2, 1, 3]]) (by kernel_rfl) (by kernel_rfl) ?_
  refine lD (OL.loadOn (us := [(T.os 4 24 0 ((a1.List.map (eListed true)).length)), (T.os 2 25 0 ((a1.Dict.map (eMeaning true)).length)), (tI a1.Desk.Grid.Rows), (tI a1.Desk.Grid.Cols), (tS a1.Desk.Grid.Cells), (tS a1.Desk.Fill), (T.os 2 26 0 ((a1.Desk.Clues.map (eClue true)).length)), (tI a1.Desk.Version), (T.os 10 27 0 ((a1.Issues.map (eIssue true)).length)), (T.os 2 28 0 ((a1.Uses.map (eUsed true)).length)), (T.os 5 29 0 ((a1.Corrections.map (eCorrection true)).length)), (T.os 4 30 0 ((a1.Entries.map (eEntry true)).length)), (tI a1.Now)]) (tv (T.op 31 0) rfl) rfl st53 sz53 (Nat.le_of_ble_eq_true rfl) rfl) rfl rfl ?_
  refine lD (OL.loadOn (us := (eHouse false a1)) (tv (T.op 1 0) rfl) rfl st43 sz43 (Nat.le_of_ble_eq_true rfl) rfl) rfl rfl ?_
  refine VRunD.quiet (bi := [1]) rfl VWant.always rfl rfl rfl (ball_nil) (OC.callF (us := [(T.agg (eHouse false a1))]) (r := (T.agg (eHouse true a1))) (r' := (T.agg [(T.os 4 39 0 ((a1.List.map (eListed true)).length)), (T.os 2 40 0 ((a1.Dict.map (eMeaning true)).length)), (tI a1.Desk.Grid.Rows), (tI a1.Desk.Grid.Cols), (tS a1.Desk.Grid.Cells), (tS a1.Desk.Fill), (T.os 2 41 0 ((a1.Desk.Clues.map (eClue true)).length)), (tI a1.Desk.Version), (T.os 10 42 0 ((a1.Issues.map (eIssue true)).length)), (T.os 2 43 0 ((a1.Uses.map (eUsed true)).length)), (T.os 5 44 0 ((a1.Corrections.map (eCorrection true)).length)), (T.os 4 45 0 ((a1.Entries.map (eEntry true)).length)), (tI a1.Now)])) (objs := [(Obj.rows 4 (a1.List.map (eListed true))), (Obj.rows 2 (a1.Dict.map (eMeaning true))), (Obj.rows 2 (a1.Desk.Clues.map (eClue true))), (Obj.rows 10 (a1.Issues.map (eIssue true))), (Obj.rows 2 (a1.Uses.map (eUsed true))), (Obj.rows 5 (a1.Corrections.map (eCorrection true))), (Obj.rows 4 (a1.Entries.map (eEntry true)))]) rfl (vc (tv (T.agg (eHouse false a1)) rfl) VEvs.nil) (LendL.cons (lg okeHouse) (LendL.nil)) (W_laws_toHouse (n + 0) a1 (by first | assumption | omega)) rfl) ?_
  refine VRunD.quiet (bi := [1, 2, 0]) rfl VWant.always rfl rfl rfl (ball_nil) (cS (us := [(T.agg (eHouse false a1)), (T.agg (eHouse false a1))]) (vc (tv (T.agg [(T.os 4 24 0 ((a1.List.map (eListed true)).length)), (T.os 2 25 0 ((a1.Dict.map (eMeaning true)).length)), (tI a1.Desk.Grid.Rows), (tI a1.Desk.Grid.Cols), (tS a1.Desk.Grid.Cells), (tS a1.Desk.Fill), (T.os 2 26 0 ((a1.Desk.Clues.map (eClue true)).length)), (tI a1.Desk.Version), (T.os 10 27 0 ((a1.Issues.map (eIssue true)).length)), (T.os 2 28 0 ((a1.Uses.map (eUsed true)).length)), (T.os 5 29 0 ((a1.Corrections.map (eCorrection true)).length)), (T.os 4 30 0 ((a1.Entries.map (eEntry true)).length)), (tI a1.Now)]) rfl) (vc (tv (T.agg [(T.os 4 39 0 ((a1.List.map (eListed true)).length)), (T.os 2 40 0 ((a1.Dict.map (eMeaning true)).length)), (tI a1.Desk.Grid.Rows), (tI a1.Desk.Grid.Cols), (tS a1.Desk.Grid.Cells), (tS a1.Desk.Fill), (T.os 2 41 0 ((a1.Desk.Clues.map (eClue true)).length)), (tI a1.Desk.Version), (T.os 10 42 0 ((a1.Issues.map (eIssue true)).length)), (T.os 2 43 0 ((a1.Uses.map (eUsed true)).length)), (T.os 5 44 0 ((a1.Corrections.map (eCorrection true)).length)), (T.os 4 45 0 ((a1.Entries.map (eEntry true)).length)), (tI a1.Now)]) rfl) VEvs.nil)) (LendL.cons (Lend.agg (LendL.cons (Lend.os rfl rfl (okeListed.fzMap _ _)) (LendL.cons (Lend.os rfl rfl (okeMeaning.fzMap _ _)) (LendL.cons (Lend.pl rfl) (LendL.cons (Lend.pl rfl) (LendL.cons (Lend.pl rfl) (LendL.cons (Lend.pl rfl) (LendL.cons (Lend.os rfl rfl (okeClue.fzMap _ _)) (LendL.cons (Lend.pl rfl) (LendL.cons (Lend.os rfl rfl (okeIssue.fzMap _ _)) (LendL.cons (Lend.os rfl rfl (okeUsed.fzMap _ _)) (LendL.cons (Lend.os rfl rfl (okeCorrection.fzMap _ _)) (LendL.cons (Lend.os rfl rfl (okeEntry.fzMap _ _)) (LendL.cons (Lend.pl rfl) (LendL.nil))))))))))))))) (LendL.cons (Lend.agg (LendL.cons (Lend.os rfl rfl (okeListed.fzMap _ _)) (LendL.cons (Lend.os rfl rfl (okeMeaning.fzMap _ _)) (LendL.cons (Lend.pl rfl) (LendL.cons (Lend.pl rfl) (LendL.cons (Lend.pl rfl) (LendL.cons (Lend.pl rfl) (LendL.cons (Lend.os rfl rfl (okeClue.fzMap _ _)) (LendL.cons (Lend.pl rfl) (LendL.cons (Lend.os rfl rfl (okeIssue.fzMap _ _)) (LendL.cons (Lend.os rfl rfl (okeUsed.fzMap _ _)) (LendL.cons (Lend.os rfl rfl (okeCorrection.fzMap _ _)) (LendL.cons (Lend.os rfl rfl (okeEntry.fzMap _ _)) (LendL.cons (Lend.pl rfl) (LendL.nil))))))))))))))) (LendL.nil))) (W_laws_eqHouse (n + 0) a1 a1 (by first | assumption | omega) (by first | assumption | omega)) rfl rfl) ?_
  refine fD (B.not (c := (!(decide (a1 = a1)))) (tv (tB (decide (a1 = a1))) rfl) rfl) rfl rfl ?_
  refine VRunD.nil ?_
  refine tn ?_
  refine VRun.cond (tv (tB (!(decide (a1 = a1)))) rfl) (fun hc4 => ?_) (fun hc4 => ?_)
  · have fhc4 : ¬ (a1 = a1) := ndT hc4
    refine sr ?_
    refine fO (OF.assign (VEv.bool false)) ?_
    refine nt ?_
    refine rt ?_
    refine tr ?_
    refine vb (b' := false) rfl ?_
    first | rfl | (exfalso; simp_all; done) | (exfalso; omega)
  have fhc4 : a1 = a1 := ndF hc4
  first | (have hz4 := szR_pos fhc4) | skip
  refine sk ?_
  refine tn ?_
  refine sr ?_
  refine fO (OF.assign (VEv.bool true)) ?_
  refine nt ?_
  refine rt ?_
  exact vb rfl rfl
end Go.Proofs.Ytfdefabncdddkaa.AE
