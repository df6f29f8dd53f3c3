/- Walks of the program's functions over trees. Conditions: as each theorem states. -/
import Derived.Test.YtllkimgecapbgaaKFnExactIsLaterVnote
namespace Go.Proofs.Ytllkimgecapbgaa.AE
open Go Go.RowKit
set_option linter.unusedVariables false
set_option linter.unusedSimpArgs false
set_option maxRecDepth 20000
set_option maxHeartbeats 2000000

theorem W_laws_FnExactIsLater (n : Nat) (a0 : D.Note) (a1 : D.Note) (g0 : GNote a0) (g1 : GNote a1) : Pure (acall Try.prog (n + 2)) 3 [(T.agg (eNote false a0)), (T.agg (eNote false a1))] (T.bool true) := by
  refine Pure.intro (rs := [ResultVar.tmp 4]) Try.func3 rfl rfl rfl (E0 := [(0, (T.agg (eNote false a0))), (1, (T.agg (eNote false a1)))]) rfl ?_
  have hlim : lim = 1099511627776 := rfl
  have hmx : mx = 1048576 := rfl
  have hmax : maxLen = 9223372036854775807 := rfl
  refine VRun.seq ?_
  refine VRun.region ?_
  refine VRunO.make VWant.always (B.box (ts := [(T.int .i64 a0.Cell), (T.str a0.Letter), (T.int .i64 a0.Tick), (T.int .i64 a0.Who)]) (VEv.tmp (t := (T.agg (eNote false a0))) rfl) nofun rfl) ?_
  refine VRunO.make VWant.always (B.box (ts := [(T.int .i64 a1.Cell), (T.str a1.Letter), (T.int .i64 a1.Tick), (T.int .i64 a1.Who)]) (VEv.tmp (t := (T.agg (eNote false a1))) rfl) nofun rfl) ?_
  refine VRunO.free VWant.always (OF.assign (VEv.bool false)) ?_
  refine VRunO.nil ?_
  refine vthn.n ?_
  refine VRun.seq ?_
  refine VRun.region ?_
  refine VRunO.free VWant.always (OF.assign (VEv.int .i64 1048576)) ?_
  refine VRunO.nil ?_
  refine vthn.n ?_
  refine VRun.seq ?_
  refine VRun.region ?_
  refine VRunO.look VWant.always (OL.loadOn (us := (eNote false a0)) (VEv.tmp (t := (T.op 0 0)) rfl) rfl st23 sz23 (Nat.le_of_ble_eq_true rfl) rfl) ?_
  refine VRunO.free VWant.always (OF.move (VEv.tmp (t := (T.int .i64 1048576)) rfl)) ?_
  refine VRunO.chain VWant.always (OC.callF (us := [(T.agg (eNote false a0)), (T.int .i64 1048576)]) (r := (T.int .i64 (szR (zNote a0) 1048576))) (r' := (T.int .i64 (szR (zNote a0) 1048576))) (objs := []) rfl (VEvs.cons (VEv.tmp (t := (T.agg (eNote false a0))) rfl) (VEvs.cons (VEv.tmp (t := (T.int .i64 1048576)) rfl) VEvs.nil)) (LendL.cons (Lend.agg (LendL.cons (Lend.pl rfl) (LendL.cons (Lend.pl rfl) (LendL.cons (Lend.pl rfl) (LendL.cons (Lend.pl rfl) (LendL.nil)))))) (LendL.cons (Lend.pl rfl) (LendL.nil))) (W_laws_szNote (n + 0) a0 1048576 (by first | assumption | omega | (simp only [List.length_map]; omega) | (simp only [List.length_map, List.length_append, List.length_cons, List.length_nil, List.length_replicate, List.length_set, List.length_drop, List.length_take, lim] at *; omega)) (by first | assumption | omega | (simp only [List.length_map]; omega) | (simp only [List.length_map, List.length_append, List.length_cons, List.length_nil, List.length_replicate, List.length_set, List.length_drop, List.length_take, lim] at *; omega)) (by first | assumption | omega | (simp only [List.length_map]; omega) | (simp only [List.length_map, List.length_append, List.length_cons, List.length_nil, List.length_replicate, List.length_set, List.length_drop, List.length_take, lim] at *; omega))) rfl) ?_
  refine VRunO.free VWant.always (OF.assign (VEv.tmp (t := (T.int .i64 (szR (zNote a0) 1048576))) rfl)) ?_
  refine VRunO.nil ?_
  refine vthn.n ?_
  refine VRun.seq ?_
  refine VRun.seq ?_
  refine VRun.region ?_
  refine VRunO.free VWant.always (OF.move (VEv.tmp (t := (T.int .i64 (szR (zNote a0) 1048576))) rfl)) ?_
  refine VRunO.free VWant.always (B.lss (c := (decide (szR (zNote a0) 1048576 < 0))) (VEv.tmp (t := (T.int .i64 (szR (zNote a0) 1048576))) rfl) (VEv.int .i64 0) rfl) ?_
  refine VRunO.nil ?_
  refine vthn.n ?_
  refine VRun.cond (VEv.tmp (t := (T.bool (decide (szR (zNote a0) 1048576 < 0)))) rfl) (fun hc0 => ?_) (fun hc0 => ?_)
  · have fhc0 : szR (zNote a0) 1048576 < 0 := of_decide_eq_true hc0
    refine VRun.seq ?_
    refine VRun.region ?_
    refine VRunO.free VWant.always (OF.assign (VEv.bool true)) ?_
    refine VRunO.nil ?_
    refine vthn.n ?_
    refine VRun.ret ?_
    refine vthn.r ?_
    refine vfin.eq (r' := (T.bool true)) ?_ (vfin.r (VRes.tmp (t := (T.bool true)) rfl VRes.nil) (Give.bool _))
    rfl
  · have fhc0 : ¬ (szR (zNote a0) 1048576 < 0) := of_decide_eq_false hc0
    first | (have hz0 := szR_pos fhc0) | skip
    refine VRun.skip ?_
    refine vthn.n ?_
    refine VRun.seq ?_
    refine VRun.region ?_
    refine VRunO.look VWant.always (OL.loadOn (us := (eNote false a1)) (VEv.tmp (t := (T.op 1 0)) rfl) rfl st23 sz23 (Nat.le_of_ble_eq_true rfl) rfl) ?_
    refine VRunO.free VWant.always (OF.move (VEv.tmp (t := (T.int .i64 (szR (zNote a0) 1048576))) rfl)) ?_
    refine VRunO.chain VWant.always (OC.callF (us := [(T.agg (eNote false a1)), (T.int .i64 (szR (zNote a0) 1048576))]) (r := (T.int .i64 (szR (zNote a1) (szR (zNote a0) 1048576)))) (r' := (T.int .i64 (szR (zNote a1) (szR (zNote a0) 1048576)))) (objs := []) rfl (VEvs.cons (VEv.tmp (t := (T.agg (eNote false a1))) rfl) (VEvs.cons (VEv.tmp (t := (T.int .i64 (szR (zNote a0) 1048576))) rfl) VEvs.nil)) (LendL.cons (Lend.agg (LendL.cons (Lend.pl rfl) (LendL.cons (Lend.pl rfl) (LendL.cons (Lend.pl rfl) (LendL.cons (Lend.pl rfl) (LendL.nil)))))) (LendL.cons (Lend.pl rfl) (LendL.nil))) (W_laws_szNote (n + 0) a1 (szR (zNote a0) 1048576) (by first | assumption | omega | (simp only [List.length_map]; omega) | (simp only [List.length_map, List.length_append, List.length_cons, List.length_nil, List.length_replicate, List.length_set, List.length_drop, List.length_take, lim] at *; omega)) (by first | assumption | omega | (simp only [List.length_map]; omega) | (simp only [List.length_map, List.length_append, List.length_cons, List.length_nil, List.length_replicate, List.length_set, List.length_drop, List.length_take, lim] at *; omega)) (by first | assumption | omega | (simp only [List.length_map]; omega) | (simp only [List.length_map, List.length_append, List.length_cons, List.length_nil, List.length_replicate, List.length_set, List.length_drop, List.length_take, lim] at *; omega))) rfl) ?_
    refine VRunO.free VWant.always (OF.assign (VEv.tmp (t := (T.int .i64 (szR (zNote a1) (szR (zNote a0) 1048576)))) rfl)) ?_
    refine VRunO.nil ?_
    refine vthn.n ?_
    refine VRun.seq ?_
    refine VRun.seq ?_
    refine VRun.region ?_
    refine VRunO.free VWant.always (OF.move (VEv.tmp (t := (T.int .i64 (szR (zNote a1) (szR (zNote a0) 1048576)))) rfl)) ?_
    refine VRunO.free VWant.always (B.lss (c := (decide (szR (zNote a1) (szR (zNote a0) 1048576) < 0))) (VEv.tmp (t := (T.int .i64 (szR (zNote a1) (szR (zNote a0) 1048576)))) rfl) (VEv.int .i64 0) rfl) ?_
    refine VRunO.nil ?_
    refine vthn.n ?_
    refine VRun.cond (VEv.tmp (t := (T.bool (decide (szR (zNote a1) (szR (zNote a0) 1048576) < 0)))) rfl) (fun hc1 => ?_) (fun hc1 => ?_)
    · have fhc1 : szR (zNote a1) (szR (zNote a0) 1048576) < 0 := of_decide_eq_true hc1
      refine VRun.seq ?_
      refine VRun.region ?_
      refine VRunO.free VWant.always (OF.assign (VEv.bool true)) ?_
      refine VRunO.nil ?_
      refine vthn.n ?_
      refine VRun.ret ?_
      refine vthn.r ?_
      refine vfin.eq (r' := (T.bool true)) ?_ (vfin.r (VRes.tmp (t := (T.bool true)) rfl VRes.nil) (Give.bool _))
      rfl
    · have fhc1 : ¬ (szR (zNote a1) (szR (zNote a0) 1048576) < 0) := of_decide_eq_false hc1
      first | (have hz1 := szR_pos fhc1) | skip
      refine VRun.skip ?_
      refine vthn.n ?_
      refine VRun.seq ?_
      refine VRun.draw (B := [[], [0], [], [0, 1, 2], [2, 3, 0, 1], [1, 0, 3, 2, 4]]) (by kernel_rfl) (by kernel_rfl) ?_
      refine VRunD.look rfl VWant.always rfl (OL.loadOn (us := (eNote false a0)) (VEv.tmp (t := (T.op 0 0)) rfl) rfl st23 sz23 (Nat.le_of_ble_eq_true rfl) rfl) ?_
      refine VRunD.quiet (bi := [0]) rfl VWant.always rfl rfl rfl (ball_nil) (OC.callF (us := [(T.agg (eNote false a0))]) (r := (T.agg (eNote true a0))) (r' := (T.agg (eNote true a0))) (objs := []) rfl (VEvs.cons (VEv.tmp (t := (T.agg (eNote false a0))) rfl) VEvs.nil) (LendL.cons (Lend.agg (LendL.cons (Lend.pl rfl) (LendL.cons (Lend.pl rfl) (LendL.cons (Lend.pl rfl) (LendL.cons (Lend.pl rfl) (LendL.nil)))))) (LendL.nil)) (W_laws_toNote (n + 0) a0 ) rfl) ?_
      refine VRunD.look rfl VWant.always rfl (OL.loadOn (us := (eNote false a1)) (VEv.tmp (t := (T.op 1 0)) rfl) rfl st23 sz23 (Nat.le_of_ble_eq_true rfl) rfl) ?_
      refine VRunD.quiet (bi := [0, 1, 2]) rfl VWant.always rfl rfl rfl (ball_nil) (OC.callF (us := [(T.agg (eNote false a1))]) (r := (T.agg (eNote true a1))) (r' := (T.agg (eNote true a1))) (objs := []) rfl (VEvs.cons (VEv.tmp (t := (T.agg (eNote false a1))) rfl) VEvs.nil) (LendL.cons (Lend.agg (LendL.cons (Lend.pl rfl) (LendL.cons (Lend.pl rfl) (LendL.cons (Lend.pl rfl) (LendL.cons (Lend.pl rfl) (LendL.nil)))))) (LendL.nil)) (W_laws_toNote (n + 0) a1 ) rfl) ?_
      refine VRunD.quiet (bi := [2, 3, 0, 1]) rfl VWant.always rfl rfl rfl (ball_nil) (OC.callF (us := [(T.agg (eNote true a0)), (T.agg (eNote true a1))]) (r := (T.bool (laterN a0 a1))) (r' := (T.bool (laterN a0 a1))) (objs := []) rfl (VEvs.cons (VEv.tmp (t := (T.agg (eNote true a0))) rfl) (VEvs.cons (VEv.tmp (t := (T.agg (eNote true a1))) rfl) VEvs.nil)) (LendL.cons (Lend.agg (LendL.cons (Lend.pl rfl) (LendL.cons (Lend.pl rfl) (LendL.cons (Lend.pl rfl) (LendL.cons (Lend.pl rfl) (LendL.nil)))))) (LendL.cons (Lend.agg (LendL.cons (Lend.pl rfl) (LendL.cons (Lend.pl rfl) (LendL.cons (Lend.pl rfl) (LendL.cons (Lend.pl rfl) (LendL.nil)))))) (LendL.nil))) (W_spec_IsLater (n + 0) a0 a1 ) rfl) ?_
      refine VRunD.free rfl VWant.always rfl (OF.assign (VEv.tmp (t := (T.bool (laterN a0 a1))) rfl)) ?_
      refine VRunD.nil ?_
      refine vthn.n ?_
      refine VRun.seq ?_
      refine VRun.draw (B := [[], [0], [], [0, 1, 2], [2, 3, 0, 1], [1, 0, 3, 2, 4]]) (by kernel_rfl) (by kernel_rfl) ?_
      refine VRunD.look rfl VWant.always rfl (OL.loadOn (us := (eNote false a0)) (VEv.tmp (t := (T.op 0 0)) rfl) rfl st23 sz23 (Nat.le_of_ble_eq_true rfl) rfl) ?_
      refine VRunD.quiet (bi := [0]) rfl VWant.always rfl rfl rfl (ball_nil) (OC.callF (us := [(T.agg (eNote false a0))]) (r := (T.agg (eNote true a0))) (r' := (T.agg (eNote true a0))) (objs := []) rfl (VEvs.cons (VEv.tmp (t := (T.agg (eNote false a0))) rfl) VEvs.nil) (LendL.cons (Lend.agg (LendL.cons (Lend.pl rfl) (LendL.cons (Lend.pl rfl) (LendL.cons (Lend.pl rfl) (LendL.cons (Lend.pl rfl) (LendL.nil)))))) (LendL.nil)) (W_laws_toNote (n + 0) a0 ) rfl) ?_
      refine VRunD.look rfl VWant.always rfl (OL.loadOn (us := (eNote false a1)) (VEv.tmp (t := (T.op 1 0)) rfl) rfl st23 sz23 (Nat.le_of_ble_eq_true rfl) rfl) ?_
      refine VRunD.quiet (bi := [0, 1, 2]) rfl VWant.always rfl rfl rfl (ball_nil) (OC.callF (us := [(T.agg (eNote false a1))]) (r := (T.agg (eNote true a1))) (r' := (T.agg (eNote true a1))) (objs := []) rfl (VEvs.cons (VEv.tmp (t := (T.agg (eNote false a1))) rfl) VEvs.nil) (LendL.cons (Lend.agg (LendL.cons (Lend.pl rfl) (LendL.cons (Lend.pl rfl) (LendL.cons (Lend.pl rfl) (LendL.cons (Lend.pl rfl) (LendL.nil)))))) (LendL.nil)) (W_laws_toNote (n + 0) a1 ) rfl) ?_
      refine VRunD.quiet (bi := [2, 3, 0, 1]) rfl VWant.always rfl rfl rfl (ball_nil) (OC.callF (us := [(T.agg (eNote true a0)), (T.agg (eNote true a1))]) (r := (T.bool (laterN a0 a1))) (r' := (T.bool (laterN a0 a1))) (objs := []) rfl (VEvs.cons (VEv.tmp (t := (T.agg (eNote true a0))) rfl) (VEvs.cons (VEv.tmp (t := (T.agg (eNote true a1))) rfl) VEvs.nil)) (LendL.cons (Lend.agg (LendL.cons (Lend.pl rfl) (LendL.cons (Lend.pl rfl) (LendL.cons (Lend.pl rfl) (LendL.cons (Lend.pl rfl) (LendL.nil)))))) (LendL.cons (Lend.agg (LendL.cons (Lend.pl rfl) (LendL.cons (Lend.pl rfl) (LendL.cons (Lend.pl rfl) (LendL.cons (Lend.pl rfl) (LendL.nil)))))) (LendL.nil))) (W_impl_IsLater (n + 0) a0 a1 ) rfl) ?_
      refine VRunD.free rfl VWant.always rfl (OF.assign (VEv.tmp (t := (T.bool (laterN a0 a1))) rfl)) ?_
      refine VRunD.nil ?_
      refine vthn.n ?_
      refine VRun.seq ?_
      refine VRun.seq ?_
      refine VRun.region ?_
      refine VRunO.free VWant.always (OF.move (VEv.tmp (t := (T.bool (laterN a0 a1))) rfl)) ?_
      refine VRunO.free VWant.always (OF.move (VEv.tmp (t := (T.bool (laterN a0 a1))) rfl)) ?_
      refine VRunO.free VWant.always (B.bneq Try.underlying4 (c := (!((laterN a0 a1) == (laterN a0 a1)))) (VEv.tmp (t := (T.bool (laterN a0 a1))) rfl) (VEv.tmp (t := (T.bool (laterN a0 a1))) rfl) rfl) ?_
      refine VRunO.nil ?_
      refine vthn.n ?_
      refine VRun.cond (VEv.tmp (t := (T.bool (!((laterN a0 a1) == (laterN a0 a1))))) rfl) (fun hc2 => ?_) (fun hc2 => ?_)
      · have fhc2 : (!((laterN a0 a1) == (laterN a0 a1))) = true := hc2
        refine VRun.seq ?_
        refine VRun.region ?_
        refine VRunO.free VWant.always (OF.assign (VEv.bool false)) ?_
        refine VRunO.nil ?_
        refine vthn.n ?_
        refine VRun.ret ?_
        refine vthn.r ?_
        refine vfin.eq (r' := (T.bool false)) ?_ (vfin.r (VRes.tmp (t := (T.bool false)) rfl VRes.nil) (Give.bool _))
        show (T.bool false) = (T.bool true)
        refine congrArg T.bool ?_
        first | rfl | (exfalso; simp_all; done) | (exfalso; omega)
      · have fhc2 : (!((laterN a0 a1) == (laterN a0 a1))) = false := hc2
        first | (have hz2 := szR_pos fhc2) | skip
        refine VRun.skip ?_
        refine vthn.n ?_
        refine VRun.seq ?_
        refine VRun.region ?_
        refine VRunO.free VWant.always (OF.assign (VEv.bool true)) ?_
        refine VRunO.nil ?_
        refine vthn.n ?_
        refine VRun.ret ?_
        refine vfin.eq (r' := (T.bool true)) ?_ (vfin.r (VRes.tmp (t := (T.bool true)) rfl VRes.nil) (Give.bool _))
        rfl
end Go.Proofs.Ytllkimgecapbgaa.AE
