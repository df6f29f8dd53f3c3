/- Walks of the program's functions over trees. Conditions: as each theorem states. -/
import Derived.Test.YthdnjihmjdbdkaaKFnExactAddReportVrep
namespace Go.Proofs.Ythdnjihmjdbdkaa.AE
open Go Go.RowKit
set_option linter.unusedVariables false
set_option linter.unusedSimpArgs false
set_option maxRecDepth 20000
set_option maxHeartbeats 2000000

theorem W_laws_FnExactAddReport (n : Nat) (a0 : List D.Report) (a1 : D.Report) (g0 : (a0.length ≤ maxLen ∧ ∀ y ∈ a0, GReport y)) (g1 : GReport a1) : Pure (acall Try.prog (n + 5)) 6 [(rd 4 eReport a0), (T.agg (eReport false a1))] (tB true) := by
  refine Pure.intro (rs := [ResultVar.tmp 4]) Try.func6 rfl rfl rfl (E0 := [(0, (rd 4 eReport a0)), (1, (T.agg (eReport false a1)))]) rfl ?_
  have hlim : lim = 1099511627776 := rfl
  have hmx : mx = 1048576 := rfl
  have hmax : maxLen = 9223372036854775807 := rfl
  have hl0 := zL_len (z := zReport) a0
  have hx := addRep_len a0 a1
  have hy := zL_snoc zReport a0 a1
  refine sr ?_
  refine kO (B.box (ts := (eReport false a1)) (tv (T.agg (eReport false a1)) rfl) nofun rfl) ?_
  refine fO (OF.assign (VEv.bool false)) ?_
  refine nt ?_
  refine sr ?_
  refine fO (OF.assign (VEv.int .i64 1048576)) ?_
  refine nt ?_
  refine sr ?_
  refine mO (rd 4 eReport a0) rfl ?_
  refine mO (tN 1048576) rfl ?_
  refine cO (cS (vc (tv (rd 4 eReport a0) rfl) (vc (tv (tN 1048576) rfl) VEvs.nil)) (lp rfl (lp rfl (LendL.nil))) (W_laws_szReportS (n + 2) a0 1048576 (by first | exact g0.2 | exact mkN_self _ _ _ _ | (simp only [mkN_len]; omega) | assumption | omega | (simp only [List.length_map]; omega) | (simp only [List.length_map, List.length_append, List.length_cons, List.length_nil, List.length_replicate, List.length_set, List.length_drop, List.length_take, lim] at *; omega)) (by first | exact g0.2 | exact mkN_self _ _ _ _ | (simp only [mkN_len]; omega) | assumption | omega | (simp only [List.length_map]; omega) | (simp only [List.length_map, List.length_append, List.length_cons, List.length_nil, List.length_replicate, List.length_set, List.length_drop, List.length_take, lim] at *; omega)) (by first | exact g0.2 | exact mkN_self _ _ _ _ | (simp only [mkN_len]; omega) | assumption | omega | (simp only [List.length_map]; omega) | (simp only [List.length_map, List.length_append, List.length_cons, List.length_nil, List.length_replicate, List.length_set, List.length_drop, List.length_take, lim] at *; omega))) rfl rfl) ?_
  refine aO (tI (szR (zL zReport a0) 1048576)) rfl ?_
  refine nt ?_
  refine sq ?_
  refine sr ?_
  refine mO (tI (szR (zL zReport a0) 1048576)) rfl ?_
  refine fO (B.lss (c := (decide (szR (zL zReport a0) 1048576 < 0))) (tv (tI (szR (zL zReport a0) 1048576)) rfl) (VEv.int .i64 0) rfl) ?_
  refine nt ?_
  refine VRun.cond (tv (tB (decide (szR (zL zReport a0) 1048576 < 0))) rfl) (fun hc0 => ?_) (fun hc0 => ?_)
  · have fhc0 : szR (zL zReport a0) 1048576 < 0 := of_decide_eq_true hc0
    refine sr ?_
    refine fO (OF.assign (VEv.bool true)) ?_
    refine nt ?_
    refine rt ?_
    refine tr ?_
    exact vb rfl rfl
  have fhc0 : ¬ (szR (zL zReport a0) 1048576 < 0) := of_decide_eq_false hc0
  first | (have hz0 := szR_pos fhc0) | skip
  refine sk ?_
  refine tn ?_
  refine sr ?_
  refine lO (OL.loadOn (us := (eReport false a1)) (tv (T.op 0 0) rfl) rfl st44 sz44 (Nat.le_of_ble_eq_true rfl) rfl) ?_
  refine mO (tI (szR (zL zReport a0) 1048576)) rfl ?_
  refine cO (cS (vc (tv (T.agg (eReport false a1)) rfl) (vc (tv (tI (szR (zL zReport a0) 1048576)) rfl) VEvs.nil)) (LendL.cons (lg okeReport) (lp rfl (LendL.nil))) (W_laws_szReport (n + 3) a1 (szR (zL zReport a0) 1048576) (by first | exact g0.2 | exact mkN_self _ _ _ _ | (simp only [mkN_len]; omega) | assumption | omega | (simp only [List.length_map]; omega) | (simp only [List.length_map, List.length_append, List.length_cons, List.length_nil, List.length_replicate, List.length_set, List.length_drop, List.length_take, lim] at *; omega)) (by first | exact g0.2 | exact mkN_self _ _ _ _ | (simp only [mkN_len]; omega) | assumption | omega | (simp only [List.length_map]; omega) | (simp only [List.length_map, List.length_append, List.length_cons, List.length_nil, List.length_replicate, List.length_set, List.length_drop, List.length_take, lim] at *; omega)) (by first | exact g0.2 | exact mkN_self _ _ _ _ | (simp only [mkN_len]; omega) | assumption | omega | (simp only [List.length_map]; omega) | (simp only [List.length_map, List.length_append, List.length_cons, List.length_nil, List.length_replicate, List.length_set, List.length_drop, List.length_take, lim] at *; omega))) rfl rfl) ?_
  refine aO (tI (szR (zReport a1) (szR (zL zReport a0) 1048576))) rfl ?_
  refine nt ?_
  refine sq ?_
  refine sr ?_
  refine mO (tI (szR (zReport a1) (szR (zL zReport a0) 1048576))) rfl ?_
  refine fO (B.lss (c := (decide (szR (zReport a1) (szR (zL zReport a0) 1048576) < 0))) (tv (tI (szR (zReport a1) (szR (zL zReport a0) 1048576))) rfl) (VEv.int .i64 0) rfl) ?_
  refine nt ?_
  refine VRun.cond (tv (tB (decide (szR (zReport a1) (szR (zL zReport a0) 1048576) < 0))) rfl) (fun hc1 => ?_) (fun hc1 => ?_)
  · have fhc1 : szR (zReport a1) (szR (zL zReport a0) 1048576) < 0 := of_decide_eq_true hc1
    refine sr ?_
    refine fO (OF.assign (VEv.bool true)) ?_
    refine nt ?_
    refine rt ?_
    refine tr ?_
    exact vb rfl rfl
  have fhc1 : ¬ (szR (zReport a1) (szR (zL zReport a0) 1048576) < 0) := of_decide_eq_false hc1
  first | (have hz1 := szR_pos fhc1) | skip
  refine sk ?_
  refine tn ?_
  refine sq ?_
  refine VRun.draw (B := [[], [0], [], [0, 1, 2], [2, 3, 0, 1], [1, 0, 3, 2, 4], [4, 2, 3, 0, 1, 5], [4, 2, 3, 0, 1, 5], [5, 1, 0, 3, 2, 4, 6], [6, 8, 5, 1, 0, 3, 2, 4, 7]]) (by kernel_rfl) (by kernel_rfl) ?_
  refine mD (rd 4 eReport a0) rfl rfl ?_
  refine VRunD.quiet (bi := [0]) rfl VWant.always rfl rfl rfl (ball_nil) (OC.callF (us := [(rd 4 eReport a0)]) (r := (T.sl true 4 (a0.map (eReport true)))) (r' := (T.os 4 1 0 ((a0.map (eReport true)).length))) (objs := [(Obj.rows 4 (a0.map (eReport true)))]) rfl (vc (tv (rd 4 eReport a0) rfl) VEvs.nil) (lp rfl (LendL.nil)) (W_laws_toReportS (n + 2) a0 (by first | exact g0.2 | exact mkN_self _ _ _ _ | (simp only [mkN_len]; omega) | assumption | omega | (simp only [List.length_map]; omega) | (simp only [List.length_map, List.length_append, List.length_cons, List.length_nil, List.length_replicate, List.length_set, List.length_drop, List.length_take, lim] at *; omega))) rfl) ?_
  refine lD (OL.loadOn (us := (eReport false a1)) (tv (T.op 0 0) rfl) rfl st44 sz44 (Nat.le_of_ble_eq_true rfl) rfl) rfl rfl ?_
  refine VRunD.quiet (bi := [0, 1, 2]) rfl VWant.always rfl rfl rfl (ball_nil) (cS (vc (tv (T.agg (eReport false a1)) rfl) VEvs.nil) (LendL.cons (lg okeReport) (LendL.nil)) (W_laws_toReport (n + 3) a1 ) rfl rfl) ?_
  refine VRunD.quiet (bi := [2, 3, 0, 1]) rfl VWant.always rfl rfl rfl (ball_nil) (OC.callF (us := [(rd 4 eReport a0), (T.agg (eReport true a1))]) (r := (T.tup [(T.sl true 4 ((addRep a0 a1).map (eReport true))), (tB (decide (areReports (a0 ++ [a1]))))])) (r' := (T.tup [(T.os 4 2 0 (((addRep a0 a1).map (eReport true)).length)), (tB (decide (areReports (a0 ++ [a1]))))])) (objs := [(Obj.rows 4 ((addRep a0 a1).map (eReport true)))]) rfl (vc (tv (T.os 4 1 0 ((a0.map (eReport true)).length)) rfl) (vc (tv (T.agg (eReport true a1)) rfl) VEvs.nil)) (LendL.cons (Lend.os rfl rfl (okeReport.fzMap _ _)) (LendL.cons (Lend.agg (LendL.cons (Lend.pl rfl) (LendL.cons (Lend.pl rfl) (LendL.cons (Lend.pl rfl) (LendL.cons (Lend.pl rfl) (LendL.nil)))))) (LendL.nil))) (W_spec_AddReport (n + 0) a0 a1 (by first | exact g0.2 | exact mkN_self _ _ _ _ | (simp only [mkN_len]; omega) | assumption | omega | (simp only [List.length_map]; omega) | (simp only [List.length_map, List.length_append, List.length_cons, List.length_nil, List.length_replicate, List.length_set, List.length_drop, List.length_take, lim] at *; omega)) (by first | exact g0.2 | exact mkN_self _ _ _ _ | (simp only [mkN_len]; omega) | assumption | omega | (simp only [List.length_map]; omega) | (simp only [List.length_map, List.length_append, List.length_cons, List.length_nil, List.length_replicate, List.length_set, List.length_drop, List.length_take, lim] at *; omega))) rfl) ?_
  refine mD (T.tup [(T.os 4 2 0 (((addRep a0 a1).map (eReport true)).length)), (tB (decide (areReports (a0 ++ [a1]))))]) rfl rfl ?_
  refine fD (OF.extract (t := (T.os 4 2 0 (((addRep a0 a1).map (eReport true)).length))) (tv (T.tup [(T.os 4 2 0 (((addRep a0 a1).map (eReport true)).length)), (tB (decide (areReports (a0 ++ [a1]))))]) rfl) rfl) rfl rfl ?_
  refine fD (OF.extract (t := (tB (decide (areReports (a0 ++ [a1]))))) (tv (T.tup [(T.os 4 2 0 (((addRep a0 a1).map (eReport true)).length)), (tB (decide (areReports (a0 ++ [a1]))))]) rfl) rfl) rfl rfl ?_
  refine fD (OF.assign (tv (T.os 4 2 0 (((addRep a0 a1).map (eReport true)).length)) rfl)) rfl rfl ?_
  refine fD (OF.assign (tv (tB (decide (areReports (a0 ++ [a1])))) rfl)) rfl rfl ?_
  refine VRunD.nil ?_
  refine tn ?_
  refine sr ?_
  refine mO (rd 4 eReport a0) rfl ?_
  refine cO (OC.callF (us := [(rd 4 eReport a0)]) (r := (T.sl true 4 (a0.map (eReport true)))) (r' := (T.os 4 3 0 ((a0.map (eReport true)).length))) (objs := [(Obj.rows 4 (a0.map (eReport true)))]) rfl (vc (tv (rd 4 eReport a0) rfl) VEvs.nil) (lp rfl (LendL.nil)) (W_laws_toReportS (n + 2) a0 (by first | exact g0.2 | exact mkN_self _ _ _ _ | (simp only [mkN_len]; omega) | assumption | omega | (simp only [List.length_map]; omega) | (simp only [List.length_map, List.length_append, List.length_cons, List.length_nil, List.length_replicate, List.length_set, List.length_drop, List.length_take, lim] at *; omega))) rfl) ?_
  refine aO (T.os 4 3 0 ((a0.map (eReport true)).length)) rfl ?_
  refine nt ?_
  refine sr ?_
  refine mO (T.os 4 3 0 ((a0.map (eReport true)).length)) rfl ?_
  refine lO (OL.loadOn (us := (eReport false a1)) (tv (T.op 0 0) rfl) rfl st44 sz44 (Nat.le_of_ble_eq_true rfl) rfl) ?_
  refine cO (cS (vc (tv (T.agg (eReport false a1)) rfl) VEvs.nil) (LendL.cons (lg okeReport) (LendL.nil)) (W_laws_toReport (n + 3) a1 ) rfl rfl) ?_
  refine cO (OC.callF (us := [(rd 4 eReport a0), (T.agg (eReport true a1))]) (r := (T.tup [(T.sl true 4 ((addRep a0 a1).map (eReport true))), (tB (decide (areReports (a0 ++ [a1]))))])) (r' := (T.tup [(T.os 4 4 0 (((addRep a0 a1).map (eReport true)).length)), (tB (decide (areReports (a0 ++ [a1]))))])) (objs := [(Obj.rows 4 ((addRep a0 a1).map (eReport true)))]) rfl (vc (tv (T.os 4 3 0 ((a0.map (eReport true)).length)) rfl) (vc (tv (T.agg (eReport true a1)) rfl) VEvs.nil)) (LendL.cons (Lend.os rfl rfl (okeReport.fzMap _ _)) (LendL.cons (Lend.agg (LendL.cons (Lend.pl rfl) (LendL.cons (Lend.pl rfl) (LendL.cons (Lend.pl rfl) (LendL.cons (Lend.pl rfl) (LendL.nil)))))) (LendL.nil))) (W_impl_AddReport (n + 0) a0 a1 (by first | exact g0.2 | exact mkN_self _ _ _ _ | (simp only [mkN_len]; omega) | assumption | omega | (simp only [List.length_map]; omega) | (simp only [List.length_map, List.length_append, List.length_cons, List.length_nil, List.length_replicate, List.length_set, List.length_drop, List.length_take, lim] at *; omega)) (by first | exact g0.2 | exact mkN_self _ _ _ _ | (simp only [mkN_len]; omega) | assumption | omega | (simp only [List.length_map]; omega) | (simp only [List.length_map, List.length_append, List.length_cons, List.length_nil, List.length_replicate, List.length_set, List.length_drop, List.length_take, lim] at *; omega))) rfl) ?_
  refine mO (T.tup [(T.os 4 4 0 (((addRep a0 a1).map (eReport true)).length)), (tB (decide (areReports (a0 ++ [a1]))))]) rfl ?_
  refine fO (OF.extract (t := (T.os 4 4 0 (((addRep a0 a1).map (eReport true)).length))) (tv (T.tup [(T.os 4 4 0 (((addRep a0 a1).map (eReport true)).length)), (tB (decide (areReports (a0 ++ [a1]))))]) rfl) rfl) ?_
  refine fO (OF.extract (t := (tB (decide (areReports (a0 ++ [a1]))))) (tv (T.tup [(T.os 4 4 0 (((addRep a0 a1).map (eReport true)).length)), (tB (decide (areReports (a0 ++ [a1]))))]) rfl) rfl) ?_
  refine aO (T.os 4 4 0 (((addRep a0 a1).map (eReport true)).length)) rfl ?_
  refine aO (tB (decide (areReports (a0 ++ [a1])))) rfl ?_
  refine nt ?_
  refine sq ?_
  refine sr ?_
  refine mO (T.os 4 4 0 (((addRep a0 a1).map (eReport true)).length)) rfl ?_
  refine mO (T.os 4 2 0 (((addRep a0 a1).map (eReport true)).length)) rfl ?_
  refine cO (cS (us := [(rd 4 eReport (addRep a0 a1)), (rd 4 eReport (addRep a0 a1))]) (vc (tv (T.os 4 4 0 (((addRep a0 a1).map (eReport true)).length)) rfl) (vc (tv (T.os 4 2 0 (((addRep a0 a1).map (eReport true)).length)) rfl) VEvs.nil)) (LendL.cons (Lend.os rfl rfl (okeReport.fzMap _ _)) (LendL.cons (Lend.os rfl rfl (okeReport.fzMap _ _)) (LendL.nil))) (W_laws_eqReportS (n + 2) (addRep a0 a1) (addRep a0 a1) (by first | exact g0.2 | exact mkN_self _ _ _ _ | (simp only [mkN_len]; omega) | assumption | omega | (simp only [List.length_map]; omega) | (simp only [List.length_map, List.length_append, List.length_cons, List.length_nil, List.length_replicate, List.length_set, List.length_drop, List.length_take, lim] at *; omega)) (by first | exact g0.2 | exact mkN_self _ _ _ _ | (simp only [mkN_len]; omega) | assumption | omega | (simp only [List.length_map]; omega) | (simp only [List.length_map, List.length_append, List.length_cons, List.length_nil, List.length_replicate, List.length_set, List.length_drop, List.length_take, lim] at *; omega))) rfl rfl) ?_
  refine fO (B.not (c := (!(decide ((addRep a0 a1) = (addRep a0 a1))))) (tv (tB (decide ((addRep a0 a1) = (addRep a0 a1)))) rfl) rfl) ?_
  refine mO (tB (!(decide ((addRep a0 a1) = (addRep a0 a1))))) rfl ?_
  refine bool_way (!(decide ((addRep a0 a1) = (addRep a0 a1)))) (fun hg47_1 => ?_) (fun hg47_1 => ?_)
  · have fhg47_1 : ¬ ((addRep a0 a1) = (addRep a0 a1)) := ndT hg47_1
    refine oO rfl rfl hg47_1 ?_
    refine oO rfl rfl hg47_1 ?_
    refine oO rfl rfl hg47_1 ?_
    refine fO (OF.pickT (VEv.tmpB (b := (!(decide ((addRep a0 a1) = (addRep a0 a1))))) rfl hg47_1) (VEv.bool true)) ?_
    refine nt ?_
    refine VRun.cond (tv (tB true) rfl) (fun hk2 => ?_) (fun hk2 => ?_)
    · skip
      refine sr ?_
      refine fO (OF.assign (VEv.bool false)) ?_
      refine nt ?_
      refine rt ?_
      refine tr ?_
      refine vb (b' := false) rfl ?_
      first | rfl | (exfalso; omega) | (exfalso; (simp only [mkN_len] at * <;> omega)) | (exfalso; simp only [mkN_len, not_true_eq_false] at *; done) | (exfalso; simp_all; done)
    · exact absurd (rfl.symm.trans hk2) (by decide)
  have fhg47_1 : (addRep a0 a1) = (addRep a0 a1) := ndF hg47_1
  refine gF hg47_1 rfl rfl (OF.move (tv (tB (decide (areReports (a0 ++ [a1])))) rfl)) ?_
  refine gF hg47_1 rfl rfl (OF.move (tv (tB (decide (areReports (a0 ++ [a1])))) rfl)) ?_
  refine gF hg47_1 rfl rfl (B.bneq Try.underlying4 (c := (!((decide (areReports (a0 ++ [a1]))) == (decide (areReports (a0 ++ [a1])))))) (tv (tB (decide (areReports (a0 ++ [a1])))) rfl) (tv (tB (decide (areReports (a0 ++ [a1])))) rfl) rfl) ?_
  refine fO (OF.pickF (VEv.tmpB (b := (!(decide ((addRep a0 a1) = (addRep a0 a1))))) rfl hg47_1) (tv (tB (!((decide (areReports (a0 ++ [a1]))) == (decide (areReports (a0 ++ [a1])))))) rfl)) ?_
  refine nt ?_
  refine VRun.cond (tv (tB (!((decide (areReports (a0 ++ [a1]))) == (decide (areReports (a0 ++ [a1])))))) rfl) (fun hc2 => ?_) (fun hc2 => ?_)
  · have fhc2 : (!((decide (areReports (a0 ++ [a1]))) == (decide (areReports (a0 ++ [a1]))))) = true := hc2
    refine sr ?_
    refine fO (OF.assign (VEv.bool false)) ?_
    refine nt ?_
    refine rt ?_
    refine tr ?_
    refine vb (b' := false) rfl ?_
    first | rfl | (exfalso; omega) | (exfalso; (simp only [mkN_len] at * <;> omega)) | (exfalso; simp only [mkN_len, not_true_eq_false] at *; done) | (exfalso; simp_all; done)
  have fhc2 : (!((decide (areReports (a0 ++ [a1]))) == (decide (areReports (a0 ++ [a1]))))) = false := hc2
  first | (have hz2 := szR_pos fhc2) | skip
  refine sk ?_
  refine tn ?_
  refine sq ?_
  refine sr ?_
  refine mO (T.os 4 3 0 ((a0.map (eReport true)).length)) rfl ?_
  refine mO (rd 4 eReport a0) rfl ?_
  refine cO (OC.callF (us := [(rd 4 eReport a0)]) (r := (T.sl true 4 (a0.map (eReport true)))) (r' := (T.os 4 5 0 ((a0.map (eReport true)).length))) (objs := [(Obj.rows 4 (a0.map (eReport true)))]) rfl (vc (tv (rd 4 eReport a0) rfl) VEvs.nil) (lp rfl (LendL.nil)) (W_laws_toReportS (n + 2) a0 (by first | exact g0.2 | exact mkN_self _ _ _ _ | (simp only [mkN_len]; omega) | assumption | omega | (simp only [List.length_map]; omega) | (simp only [List.length_map, List.length_append, List.length_cons, List.length_nil, List.length_replicate, List.length_set, List.length_drop, List.length_take, lim] at *; omega))) rfl) ?_
  refine cO (cS (us := [(rd 4 eReport a0), (rd 4 eReport a0)]) (vc (tv (T.os 4 3 0 ((a0.map (eReport true)).length)) rfl) (vc (tv (T.os 4 5 0 ((a0.map (eReport true)).length)) rfl) VEvs.nil)) (LendL.cons (Lend.os rfl rfl (okeReport.fzMap _ _)) (LendL.cons (Lend.os rfl rfl (okeReport.fzMap _ _)) (LendL.nil))) (W_laws_eqReportS (n + 2) a0 a0 (by first | exact g0.2 | exact mkN_self _ _ _ _ | (simp only [mkN_len]; omega) | assumption | omega | (simp only [List.length_map]; omega) | (simp only [List.length_map, List.length_append, List.length_cons, List.length_nil, List.length_replicate, List.length_set, List.length_drop, List.length_take, lim] at *; omega)) (by first | exact g0.2 | exact mkN_self _ _ _ _ | (simp only [mkN_len]; omega) | assumption | omega | (simp only [List.length_map]; omega) | (simp only [List.length_map, List.length_append, List.length_cons, List.length_nil, List.length_replicate, List.length_set, List.length_drop, List.length_take, lim] at *; omega))) rfl rfl) ?_
  refine fO (B.not (c := (!(decide (a0 = a0)))) (tv (tB (decide (a0 = a0))) rfl) rfl) ?_
  refine nt ?_
  refine VRun.cond (tv (tB (!(decide (a0 = a0)))) rfl) (fun hc3 => ?_) (fun hc3 => ?_)
  · have fhc3 : ¬ (a0 = a0) := ndT hc3
    refine sr ?_
    refine fO (OF.assign (VEv.bool false)) ?_
    refine nt ?_
    refine rt ?_
    refine tr ?_
    refine vb (b' := false) rfl ?_
    first | rfl | (exfalso; omega) | (exfalso; (simp only [mkN_len] at * <;> omega)) | (exfalso; simp only [mkN_len, not_true_eq_false] at *; done) | (exfalso; simp_all; done)
  have fhc3 : a0 = a0 := ndF hc3
  first | (have hz3 := szR_pos fhc3) | skip
  refine sk ?_
  refine tn ?_
  refine sr ?_
  refine fO (OF.assign (VEv.int .i64 1)) ?_
  refine nt ?_
  refine sr ?_
  refine mO (T.os 4 3 0 ((a0.map (eReport true)).length)) rfl ?_
  refine mO (tN 1) rfl ?_
  refine cO (OC.callMut (rows := (a0.map (eReport true))) (rows' := ((mkN mReport 4 1 a0.length).map (eReport true))) rfl (vc (tv (T.os 4 3 0 ((a0.map (eReport true)).length)) rfl) (vc (tv (tN 1) rfl) VEvs.nil)) rfl rfl (ball_cons rfl (ball_nil)) (scMap (fun _ => rfl) _) (scMap (fun _ => rfl) _) (W_laws_markReportS (n + 2) a0 1 (by first | exact g0.2 | exact mkN_self _ _ _ _ | (simp only [mkN_len]; omega) | assumption | omega))) ?_
  refine aO (tN (1 + 4 * a0.length)) rfl ?_
  refine nt ?_
  refine sq ?_
  refine sr ?_
  refine mO (tN (1 + 4 * a0.length)) rfl ?_
  refine fO (B.lss (c := (decide (1 + 4 * a0.length < 0))) (tv (tN (1 + 4 * a0.length)) rfl) (VEv.int .i64 0) (by first | exact g0.2 | exact mkN_self _ _ _ _ | (simp only [mkN_len]; omega) | (exact decN (by omega)))) ?_
  refine mO (tB (decide (1 + 4 * a0.length < 0))) rfl ?_
  refine bool_way (decide (1 + 4 * a0.length < 0)) (fun hg62_3 => ?_) (fun hg62_3 => ?_)
  · have fhg62_3 : 1 + 4 * a0.length < 0 := of_decide_eq_true hg62_3
    refine oO rfl rfl hg62_3 ?_
    refine oO rfl rfl hg62_3 ?_
    refine oO rfl rfl hg62_3 ?_
    refine oO rfl rfl hg62_3 ?_
    refine fO (OF.pickT (VEv.tmpB (b := (decide (1 + 4 * a0.length < 0))) rfl hg62_3) (VEv.bool true)) ?_
    refine mO (tB true) rfl ?_
    refine VRunO.off (VWant.not (b := true) rfl rfl rfl) ?_
    refine VRunO.off (VWant.not (b := true) rfl rfl rfl) ?_
    refine VRunO.off (VWant.not (b := true) rfl rfl rfl) ?_
    refine fO (OF.pickT (tv (tB true) rfl) (VEv.bool true)) ?_
    refine nt ?_
    refine VRun.cond (tv (tB true) rfl) (fun hk4 => ?_) (fun hk4 => ?_)
    · skip
      refine sr ?_
      refine fO (OF.assign (VEv.bool false)) ?_
      refine nt ?_
      refine rt ?_
      refine tr ?_
      refine vb (b' := false) rfl ?_
      first | rfl | (exfalso; omega) | (exfalso; (simp only [mkN_len] at * <;> omega)) | (exfalso; simp only [mkN_len, not_true_eq_false] at *; done) | (exfalso; simp_all; done)
    · exact absurd (rfl.symm.trans hk4) (by decide)
  have fhg62_3 : ¬ (1 + 4 * a0.length < 0) := of_decide_eq_false hg62_3
  refine gF hg62_3 rfl rfl (OF.move (tv (T.os 4 4 0 (((addRep a0 a1).map (eReport true)).length)) rfl)) ?_
  refine gF hg62_3 rfl rfl (OF.move (tv (T.os 4 2 0 (((addRep a0 a1).map (eReport true)).length)) rfl)) ?_
  refine VRunO.chain (VWant.on (b := (decide (1 + 4 * a0.length < 0))) rfl rfl hg62_3) (cS (us := [(rd 4 eReport (addRep a0 a1)), (rd 4 eReport (addRep a0 a1))]) (vc (tv (T.os 4 4 0 (((addRep a0 a1).map (eReport true)).length)) rfl) (vc (tv (T.os 4 2 0 (((addRep a0 a1).map (eReport true)).length)) rfl) VEvs.nil)) (LendL.cons (Lend.os rfl rfl (okeReport.fzMap _ _)) (LendL.cons (Lend.os rfl rfl (okeReport.fzMap _ _)) (LendL.nil))) (W_laws_eqReportS (n + 2) (addRep a0 a1) (addRep a0 a1) (by first | exact g0.2 | exact mkN_self _ _ _ _ | (simp only [mkN_len]; omega) | assumption | omega | (simp only [List.length_map]; omega) | (simp only [List.length_map, List.length_append, List.length_cons, List.length_nil, List.length_replicate, List.length_set, List.length_drop, List.length_take, lim] at *; omega)) (by first | exact g0.2 | exact mkN_self _ _ _ _ | (simp only [mkN_len]; omega) | assumption | omega | (simp only [List.length_map]; omega) | (simp only [List.length_map, List.length_append, List.length_cons, List.length_nil, List.length_replicate, List.length_set, List.length_drop, List.length_take, lim] at *; omega))) rfl rfl) ?_
  refine gF hg62_3 rfl rfl (B.not (c := (!(decide ((addRep a0 a1) = (addRep a0 a1))))) (tv (tB (decide ((addRep a0 a1) = (addRep a0 a1)))) rfl) rfl) ?_
  refine fO (OF.pickF (VEv.tmpB (b := (decide (1 + 4 * a0.length < 0))) rfl hg62_3) (tv (tB (!(decide ((addRep a0 a1) = (addRep a0 a1))))) rfl)) ?_
  refine mO (tB (!(decide ((addRep a0 a1) = (addRep a0 a1))))) rfl ?_
  refine gF hg47_1 rfl rfl (OF.move (tv (tB (decide (areReports (a0 ++ [a1])))) rfl)) ?_
  refine gF hg47_1 rfl rfl (OF.move (tv (tB (decide (areReports (a0 ++ [a1])))) rfl)) ?_
  refine gF hg47_1 rfl rfl (B.bneq Try.underlying4 (c := (!((decide (areReports (a0 ++ [a1]))) == (decide (areReports (a0 ++ [a1])))))) (tv (tB (decide (areReports (a0 ++ [a1])))) rfl) (tv (tB (decide (areReports (a0 ++ [a1])))) rfl) rfl) ?_
  refine fO (OF.pickF (VEv.tmpB (b := (!(decide ((addRep a0 a1) = (addRep a0 a1))))) rfl hg47_1) (tv (tB (!((decide (areReports (a0 ++ [a1]))) == (decide (areReports (a0 ++ [a1])))))) rfl)) ?_
  refine nt ?_
  refine VRun.cond (tv (tB (!((decide (areReports (a0 ++ [a1]))) == (decide (areReports (a0 ++ [a1])))))) rfl) (fun hk5 => ?_) (fun hk5 => ?_)
  · exact absurd (hc2.symm.trans hk5) (by decide)
  · skip
    refine sk ?_
    refine tn ?_
    refine sr ?_
    refine fO (OF.assign (VEv.int .i64 1)) ?_
    refine nt ?_
    refine sr ?_
    refine mO (T.os 4 4 0 (((addRep a0 a1).map (eReport true)).length)) rfl ?_
    refine mO (tN 1) rfl ?_
    refine cO (OC.callMut (rows := ((addRep a0 a1).map (eReport true))) (rows' := ((mkN mReport 4 1 (addRep a0 a1).length).map (eReport true))) rfl (vc (tv (T.os 4 4 0 (((addRep a0 a1).map (eReport true)).length)) rfl) (vc (tv (tN 1) rfl) VEvs.nil)) rfl rfl (ball_cons rfl (ball_nil)) (scMap (fun _ => rfl) _) (scMap (fun _ => rfl) _) (W_laws_markReportS (n + 2) (addRep a0 a1) 1 (by first | exact g0.2 | exact mkN_self _ _ _ _ | (simp only [mkN_len]; omega) | assumption | omega))) ?_
    refine aO (tN (1 + 4 * (addRep a0 a1).length)) rfl ?_
    refine nt ?_
    refine sr ?_
    refine fO (OF.assign (VEv.int .i64 1)) ?_
    refine nt ?_
    refine sr ?_
    refine mO (T.os 4 4 0 (((addRep a0 a1).map (eReport true)).length)) rfl ?_
    refine mO (tN 1) rfl ?_
    refine cO (cS (us := [(rd 4 eReport (mkN mReport 4 1 (addRep a0 a1).length)), (tN 1)]) (vc (tv (T.os 4 4 0 (((addRep a0 a1).map (eReport true)).length)) rfl) (vc (tv (tN 1) rfl) VEvs.nil)) (LendL.cons (Lend.os rfl (by simp only [List.length_map, mkN_len, List.length_set]) (okeReport.fzMap _ _)) (lp rfl (LendL.nil))) (W_laws_heldReportS (n + 2) (mkN mReport 4 1 (addRep a0 a1).length) 1 (by first | exact g0.2 | exact mkN_self _ _ _ _ | (simp only [mkN_len]; omega) | assumption | omega | (simp only [List.length_map]; omega) | (simp only [List.length_map, List.length_append, List.length_cons, List.length_nil, List.length_replicate, List.length_set, List.length_drop, List.length_take, lim] at *; omega)) (by first | exact g0.2 | exact mkN_self _ _ _ _ | (simp only [mkN_len]; omega) | assumption | omega | (simp only [List.length_map]; omega) | (simp only [List.length_map, List.length_append, List.length_cons, List.length_nil, List.length_replicate, List.length_set, List.length_drop, List.length_take, lim] at *; omega))) rfl rfl) ?_
    refine aO (tN (1 + 4 * (mkN mReport 4 1 (addRep a0 a1).length).length)) rfl ?_
    refine nt ?_
    refine sq ?_
    refine sr ?_
    refine mO (tN (1 + 4 * (mkN mReport 4 1 (addRep a0 a1).length).length)) rfl ?_
    refine fO (B.lss (c := (decide (1 + 4 * (mkN mReport 4 1 (addRep a0 a1).length).length < 0))) (tv (tN (1 + 4 * (mkN mReport 4 1 (addRep a0 a1).length).length)) rfl) (VEv.int .i64 0) (by first | exact g0.2 | exact mkN_self _ _ _ _ | (simp only [mkN_len]; omega) | (exact decN (by omega)))) ?_
    refine nt ?_
    refine VRun.cond (tv (tB (decide (1 + 4 * (mkN mReport 4 1 (addRep a0 a1).length).length < 0))) rfl) (fun hc5 => ?_) (fun hc5 => ?_)
    · have fhc5 : 1 + 4 * (mkN mReport 4 1 (addRep a0 a1).length).length < 0 := of_decide_eq_true hc5
      refine sr ?_
      refine fO (OF.assign (VEv.bool false)) ?_
      refine nt ?_
      refine rt ?_
      refine tr ?_
      refine vb (b' := false) rfl ?_
      first | rfl | (exfalso; omega) | (exfalso; (simp only [mkN_len] at * <;> omega)) | (exfalso; simp only [mkN_len, not_true_eq_false] at *; done) | (exfalso; simp_all; done)
    have fhc5 : ¬ (1 + 4 * (mkN mReport 4 1 (addRep a0 a1).length).length < 0) := of_decide_eq_false hc5
    first | (have hz5 := szR_pos fhc5) | skip
    refine sk ?_
    refine tn ?_
    refine sq ?_
    refine sr ?_
    refine mO (tN (1 + 4 * (mkN mReport 4 1 (addRep a0 a1).length).length)) rfl ?_
    refine mO (tN (1 + 4 * (addRep a0 a1).length)) rfl ?_
    refine fO (B.neq (c := (!(decide (1 + 4 * (mkN mReport 4 1 (addRep a0 a1).length).length = 1 + 4 * (addRep a0 a1).length)))) (tv (tN (1 + 4 * (mkN mReport 4 1 (addRep a0 a1).length).length)) rfl) (tv (tN (1 + 4 * (addRep a0 a1).length)) rfl) (by first | exact g0.2 | exact mkN_self _ _ _ _ | (simp only [mkN_len]; omega) | (exact decNn (by omega)))) ?_
    refine nt ?_
    refine VRun.cond (tv (tB (!(decide (1 + 4 * (mkN mReport 4 1 (addRep a0 a1).length).length = 1 + 4 * (addRep a0 a1).length)))) rfl) (fun hc6 => ?_) (fun hc6 => ?_)
    · have fhc6 : ¬ (1 + 4 * (mkN mReport 4 1 (addRep a0 a1).length).length = 1 + 4 * (addRep a0 a1).length) := ndT hc6
      refine sr ?_
      refine fO (OF.assign (VEv.bool false)) ?_
      refine nt ?_
      refine rt ?_
      refine tr ?_
      refine vb (b' := false) rfl ?_
      first | rfl | (exfalso; omega) | (exfalso; (simp only [mkN_len] at * <;> omega)) | (exfalso; simp only [mkN_len, not_true_eq_false] at *; done) | (exfalso; simp_all; done)
    have fhc6 : 1 + 4 * (mkN mReport 4 1 (addRep a0 a1).length).length = 1 + 4 * (addRep a0 a1).length := ndF hc6
    first | (have hz6 := szR_pos fhc6) | skip
    refine sk ?_
    refine tn ?_
    refine sq ?_
    refine VRun.draw (B := [[], [0], [], [0, 1, 2], [2, 3, 0, 1], [1, 0, 3, 2, 4], [4, 2, 3, 0, 1, 5], [4, 2, 3, 0, 1, 5], [5, 1, 0, 3, 2, 4, 6], [6, 8, 5, 1, 0, 3, 2, 4, 7]]) (by kernel_rfl) (by kernel_rfl) ?_
    refine mD (rd 4 eReport a0) rfl rfl ?_
    refine VRunD.quiet (bi := [0]) rfl VWant.always rfl rfl rfl (ball_nil) (OC.callF (us := [(rd 4 eReport a0)]) (r := (T.sl true 4 (a0.map (eReport true)))) (r' := (T.os 4 6 0 ((a0.map (eReport true)).length))) (objs := [(Obj.rows 4 (a0.map (eReport true)))]) rfl (vc (tv (rd 4 eReport a0) rfl) VEvs.nil) (lp rfl (LendL.nil)) (W_laws_toReportS (n + 2) a0 (by first | exact g0.2 | exact mkN_self _ _ _ _ | (simp only [mkN_len]; omega) | assumption | omega | (simp only [List.length_map]; omega) | (simp only [List.length_map, List.length_append, List.length_cons, List.length_nil, List.length_replicate, List.length_set, List.length_drop, List.length_take, lim] at *; omega))) rfl) ?_
    refine lD (OL.loadOn (us := (eReport false a1)) (tv (T.op 0 0) rfl) rfl st44 sz44 (Nat.le_of_ble_eq_true rfl) rfl) rfl rfl ?_
    refine VRunD.quiet (bi := [0, 1, 2]) rfl VWant.always rfl rfl rfl (ball_nil) (cS (vc (tv (T.agg (eReport false a1)) rfl) VEvs.nil) (LendL.cons (lg okeReport) (LendL.nil)) (W_laws_toReport (n + 3) a1 ) rfl rfl) ?_
    refine VRunD.quiet (bi := [2, 3, 0, 1]) rfl VWant.always rfl rfl rfl (ball_nil) (OC.callF (us := [(rd 4 eReport a0), (T.agg (eReport true a1))]) (r := (T.tup [(T.sl true 4 ((addRep a0 a1).map (eReport true))), (tB (decide (areReports (a0 ++ [a1]))))])) (r' := (T.tup [(T.os 4 7 0 (((addRep a0 a1).map (eReport true)).length)), (tB (decide (areReports (a0 ++ [a1]))))])) (objs := [(Obj.rows 4 ((addRep a0 a1).map (eReport true)))]) rfl (vc (tv (T.os 4 6 0 ((a0.map (eReport true)).length)) rfl) (vc (tv (T.agg (eReport true a1)) rfl) VEvs.nil)) (LendL.cons (Lend.os rfl rfl (okeReport.fzMap _ _)) (LendL.cons (Lend.agg (LendL.cons (Lend.pl rfl) (LendL.cons (Lend.pl rfl) (LendL.cons (Lend.pl rfl) (LendL.cons (Lend.pl rfl) (LendL.nil)))))) (LendL.nil))) (W_impl_AddReport (n + 0) a0 a1 (by first | exact g0.2 | exact mkN_self _ _ _ _ | (simp only [mkN_len]; omega) | assumption | omega | (simp only [List.length_map]; omega) | (simp only [List.length_map, List.length_append, List.length_cons, List.length_nil, List.length_replicate, List.length_set, List.length_drop, List.length_take, lim] at *; omega)) (by first | exact g0.2 | exact mkN_self _ _ _ _ | (simp only [mkN_len]; omega) | assumption | omega | (simp only [List.length_map]; omega) | (simp only [List.length_map, List.length_append, List.length_cons, List.length_nil, List.length_replicate, List.length_set, List.length_drop, List.length_take, lim] at *; omega))) rfl) ?_
    refine mD (T.tup [(T.os 4 7 0 (((addRep a0 a1).map (eReport true)).length)), (tB (decide (areReports (a0 ++ [a1]))))]) rfl rfl ?_
    refine fD (OF.extract (t := (T.os 4 7 0 (((addRep a0 a1).map (eReport true)).length))) (tv (T.tup [(T.os 4 7 0 (((addRep a0 a1).map (eReport true)).length)), (tB (decide (areReports (a0 ++ [a1]))))]) rfl) rfl) rfl rfl ?_
    refine fD (OF.extract (t := (tB (decide (areReports (a0 ++ [a1]))))) (tv (T.tup [(T.os 4 7 0 (((addRep a0 a1).map (eReport true)).length)), (tB (decide (areReports (a0 ++ [a1]))))]) rfl) rfl) rfl rfl ?_
    refine fD (OF.assign (tv (T.os 4 7 0 (((addRep a0 a1).map (eReport true)).length)) rfl)) rfl rfl ?_
    refine fD (OF.assign (tv (tB (decide (areReports (a0 ++ [a1])))) rfl)) rfl rfl ?_
    refine VRunD.nil ?_
    refine tn ?_
    refine sq ?_
    refine sr ?_
    refine mO (T.os 4 7 0 (((addRep a0 a1).map (eReport true)).length)) rfl ?_
    refine mO (T.os 4 2 0 (((addRep a0 a1).map (eReport true)).length)) rfl ?_
    refine cO (cS (us := [(rd 4 eReport (addRep a0 a1)), (rd 4 eReport (addRep a0 a1))]) (vc (tv (T.os 4 7 0 (((addRep a0 a1).map (eReport true)).length)) rfl) (vc (tv (T.os 4 2 0 (((addRep a0 a1).map (eReport true)).length)) rfl) VEvs.nil)) (LendL.cons (Lend.os rfl rfl (okeReport.fzMap _ _)) (LendL.cons (Lend.os rfl rfl (okeReport.fzMap _ _)) (LendL.nil))) (W_laws_eqReportS (n + 2) (addRep a0 a1) (addRep a0 a1) (by first | exact g0.2 | exact mkN_self _ _ _ _ | (simp only [mkN_len]; omega) | assumption | omega | (simp only [List.length_map]; omega) | (simp only [List.length_map, List.length_append, List.length_cons, List.length_nil, List.length_replicate, List.length_set, List.length_drop, List.length_take, lim] at *; omega)) (by first | exact g0.2 | exact mkN_self _ _ _ _ | (simp only [mkN_len]; omega) | assumption | omega | (simp only [List.length_map]; omega) | (simp only [List.length_map, List.length_append, List.length_cons, List.length_nil, List.length_replicate, List.length_set, List.length_drop, List.length_take, lim] at *; omega))) rfl rfl) ?_
    refine fO (B.not (c := (!(decide ((addRep a0 a1) = (addRep a0 a1))))) (tv (tB (decide ((addRep a0 a1) = (addRep a0 a1)))) rfl) rfl) ?_
    refine mO (tB (!(decide ((addRep a0 a1) = (addRep a0 a1))))) rfl ?_
    refine gF hg47_1 rfl rfl (OF.move (tv (tB (decide (areReports (a0 ++ [a1])))) rfl)) ?_
    refine gF hg47_1 rfl rfl (OF.move (tv (tB (decide (areReports (a0 ++ [a1])))) rfl)) ?_
    refine gF hg47_1 rfl rfl (B.bneq Try.underlying4 (c := (!((decide (areReports (a0 ++ [a1]))) == (decide (areReports (a0 ++ [a1])))))) (tv (tB (decide (areReports (a0 ++ [a1])))) rfl) (tv (tB (decide (areReports (a0 ++ [a1])))) rfl) rfl) ?_
    refine fO (OF.pickF (VEv.tmpB (b := (!(decide ((addRep a0 a1) = (addRep a0 a1))))) rfl hg47_1) (tv (tB (!((decide (areReports (a0 ++ [a1]))) == (decide (areReports (a0 ++ [a1])))))) rfl)) ?_
    refine nt ?_
    refine VRun.cond (tv (tB (!((decide (areReports (a0 ++ [a1]))) == (decide (areReports (a0 ++ [a1])))))) rfl) (fun hk6 => ?_) (fun hk6 => ?_)
    · exact absurd (hc2.symm.trans hk6) (by decide)
    · skip
      refine sk ?_
      refine tn ?_
      refine sr ?_
      refine fO (OF.assign (VEv.int .i64 1)) ?_
      refine nt ?_
      refine sr ?_
      refine mO (T.os 4 4 0 (((addRep a0 a1).map (eReport true)).length)) rfl ?_
      refine mO (tN 1) rfl ?_
      refine cO (cS (us := [(rd 4 eReport (mkN mReport 4 1 (addRep a0 a1).length)), (tN 1)]) (vc (tv (T.os 4 4 0 (((addRep a0 a1).map (eReport true)).length)) rfl) (vc (tv (tN 1) rfl) VEvs.nil)) (LendL.cons (Lend.os rfl (by simp only [List.length_map, mkN_len, List.length_set]) (okeReport.fzMap _ _)) (lp rfl (LendL.nil))) (W_laws_heldReportS (n + 2) (mkN mReport 4 1 (addRep a0 a1).length) 1 (by first | exact g0.2 | exact mkN_self _ _ _ _ | (simp only [mkN_len]; omega) | assumption | omega | (simp only [List.length_map]; omega) | (simp only [List.length_map, List.length_append, List.length_cons, List.length_nil, List.length_replicate, List.length_set, List.length_drop, List.length_take, lim] at *; omega)) (by first | exact g0.2 | exact mkN_self _ _ _ _ | (simp only [mkN_len]; omega) | assumption | omega | (simp only [List.length_map]; omega) | (simp only [List.length_map, List.length_append, List.length_cons, List.length_nil, List.length_replicate, List.length_set, List.length_drop, List.length_take, lim] at *; omega))) rfl rfl) ?_
      refine aO (tN (1 + 4 * (mkN mReport 4 1 (addRep a0 a1).length).length)) rfl ?_
      refine nt ?_
      refine sq ?_
      refine sr ?_
      refine mO (tN (1 + 4 * (mkN mReport 4 1 (addRep a0 a1).length).length)) rfl ?_
      refine fO (B.lss (c := (decide (1 + 4 * (mkN mReport 4 1 (addRep a0 a1).length).length < 0))) (tv (tN (1 + 4 * (mkN mReport 4 1 (addRep a0 a1).length).length)) rfl) (VEv.int .i64 0) (by first | exact g0.2 | exact mkN_self _ _ _ _ | (simp only [mkN_len]; omega) | (exact decN (by omega)))) ?_
      refine nt ?_
      refine VRun.cond (tv (tB (decide (1 + 4 * (mkN mReport 4 1 (addRep a0 a1).length).length < 0))) rfl) (fun hk7 => ?_) (fun hk7 => ?_)
      · exact absurd (hc5.symm.trans hk7) (by decide)
      · skip
        refine sk ?_
        refine tn ?_
        refine sq ?_
        refine sr ?_
        refine mO (tN (1 + 4 * (mkN mReport 4 1 (addRep a0 a1).length).length)) rfl ?_
        refine mO (tN (1 + 4 * (addRep a0 a1).length)) rfl ?_
        refine fO (B.neq (c := (!(decide (1 + 4 * (mkN mReport 4 1 (addRep a0 a1).length).length = 1 + 4 * (addRep a0 a1).length)))) (tv (tN (1 + 4 * (mkN mReport 4 1 (addRep a0 a1).length).length)) rfl) (tv (tN (1 + 4 * (addRep a0 a1).length)) rfl) (by first | exact g0.2 | exact mkN_self _ _ _ _ | (simp only [mkN_len]; omega) | (exact decNn (by omega)))) ?_
        refine nt ?_
        refine VRun.cond (tv (tB (!(decide (1 + 4 * (mkN mReport 4 1 (addRep a0 a1).length).length = 1 + 4 * (addRep a0 a1).length)))) rfl) (fun hk8 => ?_) (fun hk8 => ?_)
        · exact absurd (hc6.symm.trans hk8) (by decide)
        · skip
          refine sk ?_
          refine tn ?_
          refine sr ?_
          refine fO (OF.assign (VEv.bool true)) ?_
          refine nt ?_
          refine rt ?_
          exact vb rfl rfl
end Go.Proofs.Ythdnjihmjdbdkaa.AE
