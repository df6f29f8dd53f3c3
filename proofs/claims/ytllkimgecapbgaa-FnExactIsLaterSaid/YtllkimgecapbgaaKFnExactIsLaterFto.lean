/- Walks of the program's functions over trees. Conditions: as each theorem states. -/
import Derived.Test.YtllkimgecapbgaaKFnExactIsLaterFsz
namespace Go.Proofs.Ytllkimgecapbgaa.AE
open Go Go.RowKit
set_option linter.unusedVariables false
set_option linter.unusedSimpArgs false
set_option maxRecDepth 20000
set_option maxHeartbeats 2000000

theorem W_laws_toNote (n : Nat) (a : D.Note)  : Pure (acall Try.prog (n + 1)) 11 [(T.agg (eNote false a))] (T.agg (eNote true a)) := by
  refine Pure.intro (rs := [ResultVar.cell 2 26]) Try.func11 rfl rfl rfl (E0 := [(0, (T.agg (eNote false a)))]) rfl ?_
  have hlim : lim = 1099511627776 := rfl
  have hmx : mx = 1048576 := rfl
  have hmax : maxLen = 9223372036854775807 := rfl
  refine VRun.seq ?_
  refine VRun.region ?_
  refine VRunO.make VWant.always (B.box (ts := [(T.int .i64 a.Cell), (T.str a.Letter), (T.int .i64 a.Tick), (T.int .i64 a.Who)]) (VEv.tmp (t := (T.agg (eNote false a))) rfl) nofun rfl) ?_
  refine VRunO.make VWant.always (B.alloc (t := (T.agg [(T.int .i64 0), (T.str ByteArray.empty), (T.int .i64 0), (T.int .i64 0)])) (ts := [(T.int .i64 0), (T.str ByteArray.empty), (T.int .i64 0), (T.int .i64 0)]) zo26 zc26 nofun (fun _ => .agg _ _ rfl (RLof (RL.cons (.int _ _) (RL.cons (.str _) (RL.cons (.int _ _) (RL.cons (.int _ _) (RL.nil _))))))) rfl) ?_
  refine VRunO.nil ?_
  refine vthn.n ?_
  refine VRun.seq ?_
  refine VRun.region ?_
  refine VRunO.make VWant.always (B.alloc (t := (T.agg [(T.int .i64 0), (T.str ByteArray.empty), (T.int .i64 0), (T.int .i64 0)])) (ts := [(T.int .i64 0), (T.str ByteArray.empty), (T.int .i64 0), (T.int .i64 0)]) zo26 zc26 nofun (fun _ => .agg _ _ rfl (RLof (RL.cons (.int _ _) (RL.cons (.str _) (RL.cons (.int _ _) (RL.cons (.int _ _) (RL.nil _))))))) rfl) ?_
  refine VRunO.nil ?_
  refine vthn.n ?_
  refine VRun.seq ?_
  refine VRun.region ?_
  refine VRunO.free VWant.always (OF.fieldAddrO (VEv.tmp (t := (T.op 0 0)) rfl) fa23_0) ?_
  refine VRunO.look VWant.always (OL.loadO1 (t := (T.int .i64 a.Cell)) (VEv.tmp (t := (T.op 0 0)) rfl) rfl rfl st3) ?_
  refine VRunO.free VWant.always (OF.fieldAddrO (VEv.tmp (t := (T.op 2 0)) rfl) fa26_0) ?_
  refine VRunO.chain VWant.always (B.storeO (us := [(T.int .i64 a.Cell)]) (ws := [(T.int .i64 a.Cell), (T.str ByteArray.empty), (T.int .i64 0), (T.int .i64 0)]) (VEv.tmp (t := (T.op 2 0)) rfl) (VEv.tmp (t := (T.int .i64 a.Cell)) rfl) nofun rfl rfl (Nat.le_of_ble_eq_true rfl) if3 sz3 (ball_cons rfl (ball_nil)) rfl) ?_
  refine VRunO.nil ?_
  refine vthn.n ?_
  refine VRun.seq ?_
  refine VRun.region ?_
  refine VRunO.free VWant.always (OF.fieldAddrO (VEv.tmp (t := (T.op 0 0)) rfl) fa23_1) ?_
  refine VRunO.look VWant.always (OL.loadO1 (t := (T.str a.Letter)) (VEv.tmp (t := (T.op 0 1)) rfl) rfl rfl st9) ?_
  refine VRunO.free VWant.always (OF.fieldAddrO (VEv.tmp (t := (T.op 2 0)) rfl) fa26_1) ?_
  refine VRunO.chain VWant.always (B.storeO (us := [(T.str a.Letter)]) (ws := [(T.int .i64 a.Cell), (T.str a.Letter), (T.int .i64 0), (T.int .i64 0)]) (VEv.tmp (t := (T.op 2 1)) rfl) (VEv.tmp (t := (T.str a.Letter)) rfl) nofun rfl rfl (Nat.le_of_ble_eq_true rfl) if9 sz9 (ball_cons rfl (ball_nil)) rfl) ?_
  refine VRunO.nil ?_
  refine vthn.n ?_
  refine VRun.seq ?_
  refine VRun.region ?_
  refine VRunO.free VWant.always (OF.fieldAddrO (VEv.tmp (t := (T.op 0 0)) rfl) fa23_2) ?_
  refine VRunO.look VWant.always (OL.loadO1 (t := (T.int .i64 a.Tick)) (VEv.tmp (t := (T.op 0 2)) rfl) rfl rfl st3) ?_
  refine VRunO.free VWant.always (OF.fieldAddrO (VEv.tmp (t := (T.op 2 0)) rfl) fa26_2) ?_
  refine VRunO.chain VWant.always (B.storeO (us := [(T.int .i64 a.Tick)]) (ws := [(T.int .i64 a.Cell), (T.str a.Letter), (T.int .i64 a.Tick), (T.int .i64 0)]) (VEv.tmp (t := (T.op 2 2)) rfl) (VEv.tmp (t := (T.int .i64 a.Tick)) rfl) nofun rfl rfl (Nat.le_of_ble_eq_true rfl) if3 sz3 (ball_cons rfl (ball_nil)) rfl) ?_
  refine VRunO.nil ?_
  refine vthn.n ?_
  refine VRun.seq ?_
  refine VRun.region ?_
  refine VRunO.free VWant.always (OF.fieldAddrO (VEv.tmp (t := (T.op 0 0)) rfl) fa23_3) ?_
  refine VRunO.look VWant.always (OL.loadO1 (t := (T.int .i64 a.Who)) (VEv.tmp (t := (T.op 0 3)) rfl) rfl rfl st3) ?_
  refine VRunO.free VWant.always (OF.fieldAddrO (VEv.tmp (t := (T.op 2 0)) rfl) fa26_3) ?_
  refine VRunO.chain VWant.always (B.storeO (us := [(T.int .i64 a.Who)]) (ws := [(T.int .i64 a.Cell), (T.str a.Letter), (T.int .i64 a.Tick), (T.int .i64 a.Who)]) (VEv.tmp (t := (T.op 2 3)) rfl) (VEv.tmp (t := (T.int .i64 a.Who)) rfl) nofun rfl rfl (Nat.le_of_ble_eq_true rfl) if3 sz3 (ball_cons rfl (ball_nil)) rfl) ?_
  refine VRunO.nil ?_
  refine vthn.n ?_
  refine VRun.seq ?_
  refine VRun.region ?_
  refine VRunO.look VWant.always (OL.loadOn (us := (eNote false a)) (VEv.tmp (t := (T.op 2 0)) rfl) rfl st26 sz26 (Nat.le_of_ble_eq_true rfl) rfl) ?_
  refine VRunO.chain VWant.always (B.storeO (us := [(T.int .i64 a.Cell), (T.str a.Letter), (T.int .i64 a.Tick), (T.int .i64 a.Who)]) (ws := [(T.int .i64 a.Cell), (T.str a.Letter), (T.int .i64 a.Tick), (T.int .i64 a.Who)]) (VEv.tmp (t := (T.op 1 0)) rfl) (VEv.tmp (t := (T.agg (eNote false a))) rfl) nofun rfl rfl (Nat.le_of_ble_eq_true rfl) if26 sz26 (ball_cons rfl (ball_cons rfl (ball_cons rfl (ball_cons rfl (ball_nil))))) rfl) ?_
  refine VRunO.nil ?_
  refine vthn.n ?_
  refine VRun.ret ?_
  refine vfin.eq (r' := (T.agg (eNote false a))) ?_ (vfin.r (VRes.celln (ws := (eNote false a)) rfl rfl st26 sz26 (Nat.le_of_ble_eq_true rfl) rfl VRes.nil) (Give.agg (GiveL.cons (Give.int _ _) (GiveL.cons (Give.str _) (GiveL.cons (Give.int _ _) (GiveL.cons (Give.int _ _) GiveL.nil (by decide)) (by decide)) (by decide)) (by decide))))
  show (T.agg (eNote false a)) = (T.agg (eNote true a))
  first | rfl | (exact decN (by omega)) | (symm; rw [decide_eq_false_iff_not]; omega) | (symm; rw [decide_eq_true_eq]; omega) | (simp_all; done)
end Go.Proofs.Ytllkimgecapbgaa.AE
