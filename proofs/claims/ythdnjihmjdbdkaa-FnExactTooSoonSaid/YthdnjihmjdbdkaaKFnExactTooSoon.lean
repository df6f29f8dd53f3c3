/- Walks of the program's functions over trees. Conditions: as each theorem states. -/
import Derived.Test.YthdnjihmjdbdkaaKFnExactTooSoonVsoon
namespace Go.Proofs.Ythdnjihmjdbdkaa.AE
open Go Go.RowKit
set_option linter.unusedVariables false
set_option linter.unusedSimpArgs false
set_option maxRecDepth 20000
set_option maxHeartbeats 2000000

theorem W_laws_FnExactTooSoon (n : Nat) (a0 : List D.Used) (a1 : List ByteArray) (a2 : Int) (a3 : Int) (g0 : (a0.length ≤ maxLen ∧ ∀ y ∈ a0, GUsed y)) (g1 : (a1.length ≤ maxLen ∧ ∀ y ∈ a1, y.size ≤ maxLen)) (g2 : (Lit.int .i64 a2).wf = true) (g3 : (Lit.int .i64 a3).wf = true) : Pure (acall Try.prog (n + 6)) 5 [(rd 2 eUsed a0), (rd 1 eStr a1), (tI a2), (tI a3)] (tB true) := by
  refine Pure.intro (rs := [ResultVar.tmp 8]) Try.func5 rfl rfl rfl (E0 := [(0, (rd 2 eUsed a0)), (1, (rd 1 eStr a1)), (2, (tI a2)), (3, (tI a3))]) rfl ?_
  have hlim : lim = 1099511627776 := rfl
  have hmx : mx = 1048576 := rfl
  have hmax : maxLen = 9223372036854775807 := rfl
  have hl0 := zL_len (z := zUsed) a0
  have hl1 := zL_len (z := ByteArray.size) a1
  have hx := tooSoon_len a0 a1 a2 a3
  refine sr ?_
  refine fO (OF.assign (VEv.bool false)) ?_
  refine nt ?_
  refine sr ?_
  refine fO (OF.assign (VEv.int .i64 1048576)) ?_
  refine nt ?_
  refine sr ?_
  refine mO (rd 2 eUsed a0) rfl ?_
  refine mO (tN 1048576) rfl ?_
  refine cO (cS (vc (tv (rd 2 eUsed a0) rfl) (vc (tv (tN 1048576) rfl) VEvs.nil)) (lp rfl (lp rfl (LendL.nil))) (W_laws_szUsedS (n + 3) a0 1048576 (by first | exact g0.2 | exact g1.2 | exact mkN_self _ _ _ _ | (simp only [mkN_len]; omega) | assumption | omega | (simp only [List.length_map]; omega) | (simp only [List.length_map, List.length_append, List.length_cons, List.length_nil, List.length_replicate, List.length_set, List.length_drop, List.length_take, lim] at *; omega)) (by first | exact g0.2 | exact g1.2 | exact mkN_self _ _ _ _ | (simp only [mkN_len]; omega) | assumption | omega | (simp only [List.length_map]; omega) | (simp only [List.length_map, List.length_append, List.length_cons, List.length_nil, List.length_replicate, List.length_set, List.length_drop, List.length_take, lim] at *; omega)) (by first | exact g0.2 | exact g1.2 | exact mkN_self _ _ _ _ | (simp only [mkN_len]; omega) | assumption | omega | (simp only [List.length_map]; omega) | (simp only [List.length_map, List.length_append, List.length_cons, List.length_nil, List.length_replicate, List.length_set, List.length_drop, List.length_take, lim] at *; omega))) rfl rfl) ?_
  refine aO (tI (szR (zL zUsed a0) 1048576)) rfl ?_
  refine nt ?_
  refine sq ?_
  refine sr ?_
  refine mO (tI (szR (zL zUsed a0) 1048576)) rfl ?_
  refine fO (B.lss (c := (decide (szR (zL zUsed a0) 1048576 < 0))) (tv (tI (szR (zL zUsed a0) 1048576)) rfl) (VEv.int .i64 0) rfl) ?_
  refine nt ?_
  refine VRun.cond (tv (tB (decide (szR (zL zUsed a0) 1048576 < 0))) rfl) (fun hc0 => ?_) (fun hc0 => ?_)
  · have fhc0 : szR (zL zUsed a0) 1048576 < 0 := of_decide_eq_true hc0
    refine sr ?_
    refine fO (OF.assign (VEv.bool true)) ?_
    refine nt ?_
    refine rt ?_
    refine tr ?_
    exact vb rfl rfl
  have fhc0 : ¬ (szR (zL zUsed a0) 1048576 < 0) := of_decide_eq_false hc0
  first | (have hz0 := szR_pos fhc0) | skip
  refine sk ?_
  refine tn ?_
  refine sr ?_
  refine mO (rd 1 eStr a1) rfl ?_
  refine mO (tI (szR (zL zUsed a0) 1048576)) rfl ?_
  refine cO (cS (vc (tv (rd 1 eStr a1) rfl) (vc (tv (tI (szR (zL zUsed a0) 1048576)) rfl) VEvs.nil)) (lp rfl (lp rfl (LendL.nil))) (W_laws_szStringS (n + 4) a1 (szR (zL zUsed a0) 1048576) (by first | exact g0.2 | exact g1.2 | exact mkN_self _ _ _ _ | (simp only [mkN_len]; omega) | assumption | omega | (simp only [List.length_map]; omega) | (simp only [List.length_map, List.length_append, List.length_cons, List.length_nil, List.length_replicate, List.length_set, List.length_drop, List.length_take, lim] at *; omega)) (by first | exact g0.2 | exact g1.2 | exact mkN_self _ _ _ _ | (simp only [mkN_len]; omega) | assumption | omega | (simp only [List.length_map]; omega) | (simp only [List.length_map, List.length_append, List.length_cons, List.length_nil, List.length_replicate, List.length_set, List.length_drop, List.length_take, lim] at *; omega)) (by first | exact g0.2 | exact g1.2 | exact mkN_self _ _ _ _ | (simp only [mkN_len]; omega) | assumption | omega | (simp only [List.length_map]; omega) | (simp only [List.length_map, List.length_append, List.length_cons, List.length_nil, List.length_replicate, List.length_set, List.length_drop, List.length_take, lim] at *; omega))) rfl rfl) ?_
  refine aO (tI (szR (zL ByteArray.size a1) (szR (zL zUsed a0) 1048576))) rfl ?_
  refine nt ?_
  refine sq ?_
  refine sr ?_
  refine mO (tI (szR (zL ByteArray.size a1) (szR (zL zUsed a0) 1048576))) rfl ?_
  refine fO (B.lss (c := (decide (szR (zL ByteArray.size a1) (szR (zL zUsed a0) 1048576) < 0))) (tv (tI (szR (zL ByteArray.size a1) (szR (zL zUsed a0) 1048576))) rfl) (VEv.int .i64 0) rfl) ?_
  refine nt ?_
  refine VRun.cond (tv (tB (decide (szR (zL ByteArray.size a1) (szR (zL zUsed a0) 1048576) < 0))) rfl) (fun hc1 => ?_) (fun hc1 => ?_)
  · have fhc1 : szR (zL ByteArray.size a1) (szR (zL zUsed a0) 1048576) < 0 := of_decide_eq_true hc1
    refine sr ?_
    refine fO (OF.assign (VEv.bool true)) ?_
    refine nt ?_
    refine rt ?_
    refine tr ?_
    exact vb rfl rfl
  have fhc1 : ¬ (szR (zL ByteArray.size a1) (szR (zL zUsed a0) 1048576) < 0) := of_decide_eq_false hc1
  first | (have hz1 := szR_pos fhc1) | skip
  refine sk ?_
  refine tn ?_
  refine sr ?_
  refine mO (rd 2 eUsed a0) rfl ?_
  refine cO (OC.callF (us := [(rd 2 eUsed a0)]) (r := (T.sl true 2 (a0.map (eUsed true)))) (r' := (T.os 2 0 0 ((a0.map (eUsed true)).length))) (objs := [(Obj.rows 2 (a0.map (eUsed true)))]) rfl (vc (tv (rd 2 eUsed a0) rfl) VEvs.nil) (lp rfl (LendL.nil)) (W_laws_toUsedS (n + 3) a0 (by first | exact g0.2 | exact g1.2 | exact mkN_self _ _ _ _ | (simp only [mkN_len]; omega) | assumption | omega | (simp only [List.length_map]; omega) | (simp only [List.length_map, List.length_append, List.length_cons, List.length_nil, List.length_replicate, List.length_set, List.length_drop, List.length_take, lim] at *; omega))) rfl) ?_
  refine mO (rd 1 eStr a1) rfl ?_
  refine cO (OC.callF (us := [(rd 1 eStr a1)]) (r := (T.sl true 1 (a1.map (eStr true)))) (r' := (T.os 1 1 0 ((a1.map (eStr true)).length))) (objs := [(Obj.rows 1 (a1.map (eStr true)))]) rfl (vc (tv (rd 1 eStr a1) rfl) VEvs.nil) (lp rfl (LendL.nil)) (W_laws_toStringS (n + 4) a1 (by first | exact g0.2 | exact g1.2 | exact mkN_self _ _ _ _ | (simp only [mkN_len]; omega) | assumption | omega | (simp only [List.length_map]; omega) | (simp only [List.length_map, List.length_append, List.length_cons, List.length_nil, List.length_replicate, List.length_set, List.length_drop, List.length_take, lim] at *; omega))) rfl) ?_
  refine mO (tI a2) rfl ?_
  refine mO (tI a3) rfl ?_
  refine cO (OC.callF (us := [(rd 2 eUsed a0), (rd 1 eStr a1), (tI a2), (tI a3)]) (r := (T.sl true 1 ((tooSoon a0 a1 a2 a3).map (eStr true)))) (r' := (T.os 1 2 0 (((tooSoon a0 a1 a2 a3).map (eStr true)).length))) (objs := [(Obj.rows 1 ((tooSoon a0 a1 a2 a3).map (eStr true)))]) rfl (vc (tv (T.os 2 0 0 ((a0.map (eUsed true)).length)) rfl) (vc (tv (T.os 1 1 0 ((a1.map (eStr true)).length)) rfl) (vc (tv (tI a2) rfl) (vc (tv (tI a3) rfl) VEvs.nil)))) (LendL.cons (Lend.os rfl rfl (okeUsed.fzMap _ _)) (LendL.cons (Lend.os rfl rfl (okStr.fzMap _ _)) (lp rfl (lp rfl (LendL.nil))))) (W_spec_TooSoon (n + 1) a0 a1 a2 a3 (by first | exact g0.2 | exact g1.2 | exact mkN_self _ _ _ _ | (simp only [mkN_len]; omega) | assumption | omega | (simp only [List.length_map]; omega) | (simp only [List.length_map, List.length_append, List.length_cons, List.length_nil, List.length_replicate, List.length_set, List.length_drop, List.length_take, lim] at *; omega)) (by first | exact g0.2 | exact g1.2 | exact mkN_self _ _ _ _ | (simp only [mkN_len]; omega) | assumption | omega | (simp only [List.length_map]; omega) | (simp only [List.length_map, List.length_append, List.length_cons, List.length_nil, List.length_replicate, List.length_set, List.length_drop, List.length_take, lim] at *; omega)) (by first | exact g0.2 | exact g1.2 | exact mkN_self _ _ _ _ | (simp only [mkN_len]; omega) | assumption | omega | (simp only [List.length_map]; omega) | (simp only [List.length_map, List.length_append, List.length_cons, List.length_nil, List.length_replicate, List.length_set, List.length_drop, List.length_take, lim] at *; omega))) rfl) ?_
  refine aO (T.os 1 2 0 (((tooSoon a0 a1 a2 a3).map (eStr true)).length)) rfl ?_
  refine nt ?_
  refine sr ?_
  refine mO (rd 2 eUsed a0) rfl ?_
  refine cO (OC.callF (us := [(rd 2 eUsed a0)]) (r := (T.sl true 2 (a0.map (eUsed true)))) (r' := (T.os 2 3 0 ((a0.map (eUsed true)).length))) (objs := [(Obj.rows 2 (a0.map (eUsed true)))]) rfl (vc (tv (rd 2 eUsed a0) rfl) VEvs.nil) (lp rfl (LendL.nil)) (W_laws_toUsedS (n + 3) a0 (by first | exact g0.2 | exact g1.2 | exact mkN_self _ _ _ _ | (simp only [mkN_len]; omega) | assumption | omega | (simp only [List.length_map]; omega) | (simp only [List.length_map, List.length_append, List.length_cons, List.length_nil, List.length_replicate, List.length_set, List.length_drop, List.length_take, lim] at *; omega))) rfl) ?_
  refine aO (T.os 2 3 0 ((a0.map (eUsed true)).length)) rfl ?_
  refine nt ?_
  refine sr ?_
  refine mO (rd 1 eStr a1) rfl ?_
  refine cO (OC.callF (us := [(rd 1 eStr a1)]) (r := (T.sl true 1 (a1.map (eStr true)))) (r' := (T.os 1 4 0 ((a1.map (eStr true)).length))) (objs := [(Obj.rows 1 (a1.map (eStr true)))]) rfl (vc (tv (rd 1 eStr a1) rfl) VEvs.nil) (lp rfl (LendL.nil)) (W_laws_toStringS (n + 4) a1 (by first | exact g0.2 | exact g1.2 | exact mkN_self _ _ _ _ | (simp only [mkN_len]; omega) | assumption | omega | (simp only [List.length_map]; omega) | (simp only [List.length_map, List.length_append, List.length_cons, List.length_nil, List.length_replicate, List.length_set, List.length_drop, List.length_take, lim] at *; omega))) rfl) ?_
  refine aO (T.os 1 4 0 ((a1.map (eStr true)).length)) rfl ?_
  refine nt ?_
  refine sr ?_
  refine mO (T.os 2 3 0 ((a0.map (eUsed true)).length)) rfl ?_
  refine mO (T.os 1 4 0 ((a1.map (eStr true)).length)) rfl ?_
  refine mO (tI a2) rfl ?_
  refine mO (tI a3) rfl ?_
  refine cO (OC.callF (us := [(rd 2 eUsed a0), (rd 1 eStr a1), (tI a2), (tI a3)]) (r := (T.sl true 1 ((tooSoon a0 a1 a2 a3).map (eStr true)))) (r' := (T.os 1 5 0 (((tooSoon a0 a1 a2 a3).map (eStr true)).length))) (objs := [(Obj.rows 1 ((tooSoon a0 a1 a2 a3).map (eStr true)))]) rfl (vc (tv (T.os 2 3 0 ((a0.map (eUsed true)).length)) rfl) (vc (tv (T.os 1 4 0 ((a1.map (eStr true)).length)) rfl) (vc (tv (tI a2) rfl) (vc (tv (tI a3) rfl) VEvs.nil)))) (LendL.cons (Lend.os rfl rfl (okeUsed.fzMap _ _)) (LendL.cons (Lend.os rfl rfl (okStr.fzMap _ _)) (lp rfl (lp rfl (LendL.nil))))) (W_impl_TooSoon (n + 0) a0 a1 a2 a3 (by first | exact g0.2 | exact g1.2 | exact mkN_self _ _ _ _ | (simp only [mkN_len]; omega) | assumption | omega | (simp only [List.length_map]; omega) | (simp only [List.length_map, List.length_append, List.length_cons, List.length_nil, List.length_replicate, List.length_set, List.length_drop, List.length_take, lim] at *; omega)) (by first | exact g0.2 | exact g1.2 | exact mkN_self _ _ _ _ | (simp only [mkN_len]; omega) | assumption | omega | (simp only [List.length_map]; omega) | (simp only [List.length_map, List.length_append, List.length_cons, List.length_nil, List.length_replicate, List.length_set, List.length_drop, List.length_take, lim] at *; omega)) (by first | exact g0.2 | exact g1.2 | exact mkN_self _ _ _ _ | (simp only [mkN_len]; omega) | assumption | omega | (simp only [List.length_map]; omega) | (simp only [List.length_map, List.length_append, List.length_cons, List.length_nil, List.length_replicate, List.length_set, List.length_drop, List.length_take, lim] at *; omega))) rfl) ?_
  refine aO (T.os 1 5 0 (((tooSoon a0 a1 a2 a3).map (eStr true)).length)) rfl ?_
  refine nt ?_
  refine sq ?_
  refine sr ?_
  refine mO (T.os 1 5 0 (((tooSoon a0 a1 a2 a3).map (eStr true)).length)) rfl ?_
  refine mO (T.os 1 2 0 (((tooSoon a0 a1 a2 a3).map (eStr true)).length)) rfl ?_
  refine cO (cS (us := [(rd 1 eStr (tooSoon a0 a1 a2 a3)), (rd 1 eStr (tooSoon a0 a1 a2 a3))]) (vc (tv (T.os 1 5 0 (((tooSoon a0 a1 a2 a3).map (eStr true)).length)) rfl) (vc (tv (T.os 1 2 0 (((tooSoon a0 a1 a2 a3).map (eStr true)).length)) rfl) VEvs.nil)) (LendL.cons (Lend.os rfl rfl (okStr.fzMap _ _)) (LendL.cons (Lend.os rfl rfl (okStr.fzMap _ _)) (LendL.nil))) (W_laws_eqStringS (n + 4) (tooSoon a0 a1 a2 a3) (tooSoon a0 a1 a2 a3) (by first | exact g0.2 | exact g1.2 | exact mkN_self _ _ _ _ | (simp only [mkN_len]; omega) | assumption | omega | (simp only [List.length_map]; omega) | (simp only [List.length_map, List.length_append, List.length_cons, List.length_nil, List.length_replicate, List.length_set, List.length_drop, List.length_take, lim] at *; omega)) (by first | exact g0.2 | exact g1.2 | exact mkN_self _ _ _ _ | (simp only [mkN_len]; omega) | assumption | omega | (simp only [List.length_map]; omega) | (simp only [List.length_map, List.length_append, List.length_cons, List.length_nil, List.length_replicate, List.length_set, List.length_drop, List.length_take, lim] at *; omega))) rfl rfl) ?_
  refine fO (B.not (c := (!(decide ((tooSoon a0 a1 a2 a3) = (tooSoon a0 a1 a2 a3))))) (tv (tB (decide ((tooSoon a0 a1 a2 a3) = (tooSoon a0 a1 a2 a3)))) rfl) rfl) ?_
  refine nt ?_
  refine VRun.cond (tv (tB (!(decide ((tooSoon a0 a1 a2 a3) = (tooSoon a0 a1 a2 a3))))) rfl) (fun hc2 => ?_) (fun hc2 => ?_)
  · have fhc2 : ¬ ((tooSoon a0 a1 a2 a3) = (tooSoon a0 a1 a2 a3)) := ndT hc2
    refine sr ?_
    refine fO (OF.assign (VEv.bool false)) ?_
    refine nt ?_
    refine rt ?_
    refine tr ?_
    refine vb (b' := false) rfl ?_
    first | rfl | (exfalso; omega) | (exfalso; (simp only [mkN_len] at * <;> omega)) | (exfalso; simp only [mkN_len, not_true_eq_false] at *; done) | (exfalso; simp_all; done)
  have fhc2 : (tooSoon a0 a1 a2 a3) = (tooSoon a0 a1 a2 a3) := ndF hc2
  first | (have hz2 := szR_pos fhc2) | skip
  refine sk ?_
  refine tn ?_
  refine sq ?_
  refine sr ?_
  refine mO (T.os 2 3 0 ((a0.map (eUsed true)).length)) rfl ?_
  refine mO (rd 2 eUsed a0) rfl ?_
  refine cO (OC.callF (us := [(rd 2 eUsed a0)]) (r := (T.sl true 2 (a0.map (eUsed true)))) (r' := (T.os 2 6 0 ((a0.map (eUsed true)).length))) (objs := [(Obj.rows 2 (a0.map (eUsed true)))]) rfl (vc (tv (rd 2 eUsed a0) rfl) VEvs.nil) (lp rfl (LendL.nil)) (W_laws_toUsedS (n + 3) a0 (by first | exact g0.2 | exact g1.2 | exact mkN_self _ _ _ _ | (simp only [mkN_len]; omega) | assumption | omega | (simp only [List.length_map]; omega) | (simp only [List.length_map, List.length_append, List.length_cons, List.length_nil, List.length_replicate, List.length_set, List.length_drop, List.length_take, lim] at *; omega))) rfl) ?_
  refine cO (cS (us := [(rd 2 eUsed a0), (rd 2 eUsed a0)]) (vc (tv (T.os 2 3 0 ((a0.map (eUsed true)).length)) rfl) (vc (tv (T.os 2 6 0 ((a0.map (eUsed true)).length)) rfl) VEvs.nil)) (LendL.cons (Lend.os rfl rfl (okeUsed.fzMap _ _)) (LendL.cons (Lend.os rfl rfl (okeUsed.fzMap _ _)) (LendL.nil))) (W_laws_eqUsedS (n + 3) a0 a0 (by first | exact g0.2 | exact g1.2 | exact mkN_self _ _ _ _ | (simp only [mkN_len]; omega) | assumption | omega | (simp only [List.length_map]; omega) | (simp only [List.length_map, List.length_append, List.length_cons, List.length_nil, List.length_replicate, List.length_set, List.length_drop, List.length_take, lim] at *; omega)) (by first | exact g0.2 | exact g1.2 | exact mkN_self _ _ _ _ | (simp only [mkN_len]; omega) | assumption | omega | (simp only [List.length_map]; omega) | (simp only [List.length_map, List.length_append, List.length_cons, List.length_nil, List.length_replicate, List.length_set, List.length_drop, List.length_take, lim] at *; omega))) rfl rfl) ?_
  refine fO (B.not (c := (!(decide (a0 = a0)))) (tv (tB (decide (a0 = a0))) rfl) rfl) ?_
  refine nt ?_
  refine VRun.cond (tv (tB (!(decide (a0 = a0)))) rfl) (fun hc3 => ?_) (fun hc3 => ?_)
  · have fhc3 : ¬ (a0 = a0) := ndT hc3
    refine sr ?_
    refine fO (OF.assign (VEv.bool false)) ?_
    refine nt ?_
    refine rt ?_
    refine tr ?_
    refine vb (b' := false) rfl ?_
    first | rfl | (exfalso; omega) | (exfalso; (simp only [mkN_len] at * <;> omega)) | (exfalso; simp only [mkN_len, not_true_eq_false] at *; done) | (exfalso; simp_all; done)
  have fhc3 : a0 = a0 := ndF hc3
  first | (have hz3 := szR_pos fhc3) | skip
  refine sk ?_
  refine tn ?_
  refine sq ?_
  refine sr ?_
  refine mO (T.os 1 4 0 ((a1.map (eStr true)).length)) rfl ?_
  refine mO (rd 1 eStr a1) rfl ?_
  refine cO (OC.callF (us := [(rd 1 eStr a1)]) (r := (T.sl true 1 (a1.map (eStr true)))) (r' := (T.os 1 7 0 ((a1.map (eStr true)).length))) (objs := [(Obj.rows 1 (a1.map (eStr true)))]) rfl (vc (tv (rd 1 eStr a1) rfl) VEvs.nil) (lp rfl (LendL.nil)) (W_laws_toStringS (n + 4) a1 (by first | exact g0.2 | exact g1.2 | exact mkN_self _ _ _ _ | (simp only [mkN_len]; omega) | assumption | omega | (simp only [List.length_map]; omega) | (simp only [List.length_map, List.length_append, List.length_cons, List.length_nil, List.length_replicate, List.length_set, List.length_drop, List.length_take, lim] at *; omega))) rfl) ?_
  refine cO (cS (us := [(rd 1 eStr a1), (rd 1 eStr a1)]) (vc (tv (T.os 1 4 0 ((a1.map (eStr true)).length)) rfl) (vc (tv (T.os 1 7 0 ((a1.map (eStr true)).length)) rfl) VEvs.nil)) (LendL.cons (Lend.os rfl rfl (okStr.fzMap _ _)) (LendL.cons (Lend.os rfl rfl (okStr.fzMap _ _)) (LendL.nil))) (W_laws_eqStringS (n + 4) a1 a1 (by first | exact g0.2 | exact g1.2 | exact mkN_self _ _ _ _ | (simp only [mkN_len]; omega) | assumption | omega | (simp only [List.length_map]; omega) | (simp only [List.length_map, List.length_append, List.length_cons, List.length_nil, List.length_replicate, List.length_set, List.length_drop, List.length_take, lim] at *; omega)) (by first | exact g0.2 | exact g1.2 | exact mkN_self _ _ _ _ | (simp only [mkN_len]; omega) | assumption | omega | (simp only [List.length_map]; omega) | (simp only [List.length_map, List.length_append, List.length_cons, List.length_nil, List.length_replicate, List.length_set, List.length_drop, List.length_take, lim] at *; omega))) rfl rfl) ?_
  refine fO (B.not (c := (!(decide (a1 = a1)))) (tv (tB (decide (a1 = a1))) rfl) rfl) ?_
  refine nt ?_
  refine VRun.cond (tv (tB (!(decide (a1 = a1)))) rfl) (fun hc4 => ?_) (fun hc4 => ?_)
  · have fhc4 : ¬ (a1 = a1) := ndT hc4
    refine sr ?_
    refine fO (OF.assign (VEv.bool false)) ?_
    refine nt ?_
    refine rt ?_
    refine tr ?_
    refine vb (b' := false) rfl ?_
    first | rfl | (exfalso; omega) | (exfalso; (simp only [mkN_len] at * <;> omega)) | (exfalso; simp only [mkN_len, not_true_eq_false] at *; done) | (exfalso; simp_all; done)
  have fhc4 : a1 = a1 := ndF hc4
  first | (have hz4 := szR_pos fhc4) | skip
  refine sk ?_
  refine tn ?_
  refine sr ?_
  refine fO (OF.assign (VEv.int .i64 1)) ?_
  refine nt ?_
  refine sr ?_
  refine mO (T.os 2 3 0 ((a0.map (eUsed true)).length)) rfl ?_
  refine mO (tN 1) rfl ?_
  refine cO (OC.callMut (rows := (a0.map (eUsed true))) (rows' := ((mkN mUsed 2 1 a0.length).map (eUsed true))) rfl (vc (tv (T.os 2 3 0 ((a0.map (eUsed true)).length)) rfl) (vc (tv (tN 1) rfl) VEvs.nil)) rfl rfl (ball_cons rfl (ball_nil)) (scMap (fun _ => rfl) _) (scMap (fun _ => rfl) _) (W_laws_markUsedS (n + 3) a0 1 (by first | exact g0.2 | exact g1.2 | exact mkN_self _ _ _ _ | (simp only [mkN_len]; omega) | assumption | omega))) ?_
  refine aO (tN (1 + 2 * a0.length)) rfl ?_
  refine nt ?_
  refine sr ?_
  refine mO (T.os 1 4 0 ((a1.map (eStr true)).length)) rfl ?_
  refine mO (tN (1 + 2 * a0.length)) rfl ?_
  refine cO (OC.callMut (rows := (a1.map (eStr true))) (rows' := ((mkN mString 1 (1 + 2 * a0.length) a1.length).map (eStr true))) rfl (vc (tv (T.os 1 4 0 ((a1.map (eStr true)).length)) rfl) (vc (tv (tN (1 + 2 * a0.length)) rfl) VEvs.nil)) rfl rfl (ball_cons rfl (ball_nil)) (scMap (fun _ => rfl) _) (scMap (fun _ => rfl) _) (W_laws_markStringS (n + 3) a1 (1 + 2 * a0.length) (by first | exact g0.2 | exact g1.2 | exact mkN_self _ _ _ _ | (simp only [mkN_len]; omega) | assumption | omega))) ?_
  refine aO (tN ((1 + 2 * a0.length) + 1 * a1.length)) rfl ?_
  refine nt ?_
  refine sq ?_
  refine sr ?_
  refine mO (tN ((1 + 2 * a0.length) + 1 * a1.length)) rfl ?_
  refine fO (B.lss (c := (decide ((1 + 2 * a0.length) + 1 * a1.length < 0))) (tv (tN ((1 + 2 * a0.length) + 1 * a1.length)) rfl) (VEv.int .i64 0) (by first | exact g0.2 | exact g1.2 | exact mkN_self _ _ _ _ | (simp only [mkN_len]; omega) | (exact decN (by omega)))) ?_
  refine mO (tB (decide ((1 + 2 * a0.length) + 1 * a1.length < 0))) rfl ?_
  refine bool_way (decide ((1 + 2 * a0.length) + 1 * a1.length < 0)) (fun hg66_1 => ?_) (fun hg66_1 => ?_)
  · have fhg66_1 : (1 + 2 * a0.length) + 1 * a1.length < 0 := of_decide_eq_true hg66_1
    refine oO rfl rfl hg66_1 ?_
    refine oO rfl rfl hg66_1 ?_
    refine oO rfl rfl hg66_1 ?_
    refine oO rfl rfl hg66_1 ?_
    refine fO (OF.pickT (VEv.tmpB (b := (decide ((1 + 2 * a0.length) + 1 * a1.length < 0))) rfl hg66_1) (VEv.bool true)) ?_
    refine nt ?_
    refine VRun.cond (tv (tB true) rfl) (fun hk2 => ?_) (fun hk2 => ?_)
    · skip
      refine sr ?_
      refine fO (OF.assign (VEv.bool false)) ?_
      refine nt ?_
      refine rt ?_
      refine tr ?_
      refine vb (b' := false) rfl ?_
      first | rfl | (exfalso; omega) | (exfalso; (simp only [mkN_len] at * <;> omega)) | (exfalso; simp only [mkN_len, not_true_eq_false] at *; done) | (exfalso; simp_all; done)
    · exact absurd (rfl.symm.trans hk2) (by decide)
  have fhg66_1 : ¬ ((1 + 2 * a0.length) + 1 * a1.length < 0) := of_decide_eq_false hg66_1
  refine gF hg66_1 rfl rfl (OF.move (tv (T.os 1 5 0 (((tooSoon a0 a1 a2 a3).map (eStr true)).length)) rfl)) ?_
  refine gF hg66_1 rfl rfl (OF.move (tv (T.os 1 2 0 (((tooSoon a0 a1 a2 a3).map (eStr true)).length)) rfl)) ?_
  refine VRunO.chain (VWant.on (b := (decide ((1 + 2 * a0.length) + 1 * a1.length < 0))) rfl rfl hg66_1) (cS (us := [(rd 1 eStr (tooSoon a0 a1 a2 a3)), (rd 1 eStr (tooSoon a0 a1 a2 a3))]) (vc (tv (T.os 1 5 0 (((tooSoon a0 a1 a2 a3).map (eStr true)).length)) rfl) (vc (tv (T.os 1 2 0 (((tooSoon a0 a1 a2 a3).map (eStr true)).length)) rfl) VEvs.nil)) (LendL.cons (Lend.os rfl rfl (okStr.fzMap _ _)) (LendL.cons (Lend.os rfl rfl (okStr.fzMap _ _)) (LendL.nil))) (W_laws_eqStringS (n + 4) (tooSoon a0 a1 a2 a3) (tooSoon a0 a1 a2 a3) (by first | exact g0.2 | exact g1.2 | exact mkN_self _ _ _ _ | (simp only [mkN_len]; omega) | assumption | omega | (simp only [List.length_map]; omega) | (simp only [List.length_map, List.length_append, List.length_cons, List.length_nil, List.length_replicate, List.length_set, List.length_drop, List.length_take, lim] at *; omega)) (by first | exact g0.2 | exact g1.2 | exact mkN_self _ _ _ _ | (simp only [mkN_len]; omega) | assumption | omega | (simp only [List.length_map]; omega) | (simp only [List.length_map, List.length_append, List.length_cons, List.length_nil, List.length_replicate, List.length_set, List.length_drop, List.length_take, lim] at *; omega))) rfl rfl) ?_
  refine gF hg66_1 rfl rfl (B.not (c := (!(decide ((tooSoon a0 a1 a2 a3) = (tooSoon a0 a1 a2 a3))))) (tv (tB (decide ((tooSoon a0 a1 a2 a3) = (tooSoon a0 a1 a2 a3)))) rfl) rfl) ?_
  refine fO (OF.pickF (VEv.tmpB (b := (decide ((1 + 2 * a0.length) + 1 * a1.length < 0))) rfl hg66_1) (tv (tB (!(decide ((tooSoon a0 a1 a2 a3) = (tooSoon a0 a1 a2 a3))))) rfl)) ?_
  refine nt ?_
  refine VRun.cond (tv (tB (!(decide ((tooSoon a0 a1 a2 a3) = (tooSoon a0 a1 a2 a3))))) rfl) (fun hk3 => ?_) (fun hk3 => ?_)
  · exact absurd (hc2.symm.trans hk3) (by decide)
  · skip
    refine sk ?_
    refine tn ?_
    refine sr ?_
    refine fO (OF.assign (VEv.int .i64 1)) ?_
    refine nt ?_
    refine sr ?_
    refine mO (T.os 1 5 0 (((tooSoon a0 a1 a2 a3).map (eStr true)).length)) rfl ?_
    refine mO (tN 1) rfl ?_
    refine cO (OC.callMut (rows := ((tooSoon a0 a1 a2 a3).map (eStr true))) (rows' := ((mkN mString 1 1 (tooSoon a0 a1 a2 a3).length).map (eStr true))) rfl (vc (tv (T.os 1 5 0 (((tooSoon a0 a1 a2 a3).map (eStr true)).length)) rfl) (vc (tv (tN 1) rfl) VEvs.nil)) rfl rfl (ball_cons rfl (ball_nil)) (scMap (fun _ => rfl) _) (scMap (fun _ => rfl) _) (W_laws_markStringS (n + 3) (tooSoon a0 a1 a2 a3) 1 (by first | exact g0.2 | exact g1.2 | exact mkN_self _ _ _ _ | (simp only [mkN_len]; omega) | assumption | omega))) ?_
    refine aO (tN (1 + 1 * (tooSoon a0 a1 a2 a3).length)) rfl ?_
    refine nt ?_
    refine sr ?_
    refine fO (OF.assign (VEv.int .i64 1)) ?_
    refine nt ?_
    refine sr ?_
    refine mO (T.os 1 5 0 (((tooSoon a0 a1 a2 a3).map (eStr true)).length)) rfl ?_
    refine mO (tN 1) rfl ?_
    refine cO (cS (us := [(rd 1 eStr (mkN mString 1 1 (tooSoon a0 a1 a2 a3).length)), (tN 1)]) (vc (tv (T.os 1 5 0 (((tooSoon a0 a1 a2 a3).map (eStr true)).length)) rfl) (vc (tv (tN 1) rfl) VEvs.nil)) (LendL.cons (Lend.os rfl (by simp only [List.length_map, mkN_len, List.length_set]) (okStr.fzMap _ _)) (lp rfl (LendL.nil))) (W_laws_heldStringS (n + 3) (mkN mString 1 1 (tooSoon a0 a1 a2 a3).length) 1 (by first | exact g0.2 | exact g1.2 | exact mkN_self _ _ _ _ | (simp only [mkN_len]; omega) | assumption | omega | (simp only [List.length_map]; omega) | (simp only [List.length_map, List.length_append, List.length_cons, List.length_nil, List.length_replicate, List.length_set, List.length_drop, List.length_take, lim] at *; omega)) (by first | exact g0.2 | exact g1.2 | exact mkN_self _ _ _ _ | (simp only [mkN_len]; omega) | assumption | omega | (simp only [List.length_map]; omega) | (simp only [List.length_map, List.length_append, List.length_cons, List.length_nil, List.length_replicate, List.length_set, List.length_drop, List.length_take, lim] at *; omega))) rfl rfl) ?_
    refine aO (tN (1 + 1 * (mkN mString 1 1 (tooSoon a0 a1 a2 a3).length).length)) rfl ?_
    refine nt ?_
    refine sq ?_
    refine sr ?_
    refine mO (tN (1 + 1 * (mkN mString 1 1 (tooSoon a0 a1 a2 a3).length).length)) rfl ?_
    refine fO (B.lss (c := (decide (1 + 1 * (mkN mString 1 1 (tooSoon a0 a1 a2 a3).length).length < 0))) (tv (tN (1 + 1 * (mkN mString 1 1 (tooSoon a0 a1 a2 a3).length).length)) rfl) (VEv.int .i64 0) (by first | exact g0.2 | exact g1.2 | exact mkN_self _ _ _ _ | (simp only [mkN_len]; omega) | (exact decN (by omega)))) ?_
    refine nt ?_
    refine VRun.cond (tv (tB (decide (1 + 1 * (mkN mString 1 1 (tooSoon a0 a1 a2 a3).length).length < 0))) rfl) (fun hc6 => ?_) (fun hc6 => ?_)
    · have fhc6 : 1 + 1 * (mkN mString 1 1 (tooSoon a0 a1 a2 a3).length).length < 0 := of_decide_eq_true hc6
      refine sr ?_
      refine fO (OF.assign (VEv.bool false)) ?_
      refine nt ?_
      refine rt ?_
      refine tr ?_
      refine vb (b' := false) rfl ?_
      first | rfl | (exfalso; omega) | (exfalso; (simp only [mkN_len] at * <;> omega)) | (exfalso; simp only [mkN_len, not_true_eq_false] at *; done) | (exfalso; simp_all; done)
    have fhc6 : ¬ (1 + 1 * (mkN mString 1 1 (tooSoon a0 a1 a2 a3).length).length < 0) := of_decide_eq_false hc6
    first | (have hz6 := szR_pos fhc6) | skip
    refine sk ?_
    refine tn ?_
    refine sq ?_
    refine sr ?_
    refine mO (tN (1 + 1 * (mkN mString 1 1 (tooSoon a0 a1 a2 a3).length).length)) rfl ?_
    refine mO (tN (1 + 1 * (tooSoon a0 a1 a2 a3).length)) rfl ?_
    refine fO (B.neq (c := (!(decide (1 + 1 * (mkN mString 1 1 (tooSoon a0 a1 a2 a3).length).length = 1 + 1 * (tooSoon a0 a1 a2 a3).length)))) (tv (tN (1 + 1 * (mkN mString 1 1 (tooSoon a0 a1 a2 a3).length).length)) rfl) (tv (tN (1 + 1 * (tooSoon a0 a1 a2 a3).length)) rfl) (by first | exact g0.2 | exact g1.2 | exact mkN_self _ _ _ _ | (simp only [mkN_len]; omega) | (exact decNn (by omega)))) ?_
    refine nt ?_
    refine VRun.cond (tv (tB (!(decide (1 + 1 * (mkN mString 1 1 (tooSoon a0 a1 a2 a3).length).length = 1 + 1 * (tooSoon a0 a1 a2 a3).length)))) rfl) (fun hc7 => ?_) (fun hc7 => ?_)
    · have fhc7 : ¬ (1 + 1 * (mkN mString 1 1 (tooSoon a0 a1 a2 a3).length).length = 1 + 1 * (tooSoon a0 a1 a2 a3).length) := ndT hc7
      refine sr ?_
      refine fO (OF.assign (VEv.bool false)) ?_
      refine nt ?_
      refine rt ?_
      refine tr ?_
      refine vb (b' := false) rfl ?_
      first | rfl | (exfalso; omega) | (exfalso; (simp only [mkN_len] at * <;> omega)) | (exfalso; simp only [mkN_len, not_true_eq_false] at *; done) | (exfalso; simp_all; done)
    have fhc7 : 1 + 1 * (mkN mString 1 1 (tooSoon a0 a1 a2 a3).length).length = 1 + 1 * (tooSoon a0 a1 a2 a3).length := ndF hc7
    first | (have hz7 := szR_pos fhc7) | skip
    refine sk ?_
    refine tn ?_
    refine sr ?_
    refine mO (rd 2 eUsed a0) rfl ?_
    refine cO (OC.callF (us := [(rd 2 eUsed a0)]) (r := (T.sl true 2 (a0.map (eUsed true)))) (r' := (T.os 2 8 0 ((a0.map (eUsed true)).length))) (objs := [(Obj.rows 2 (a0.map (eUsed true)))]) rfl (vc (tv (rd 2 eUsed a0) rfl) VEvs.nil) (lp rfl (LendL.nil)) (W_laws_toUsedS (n + 3) a0 (by first | exact g0.2 | exact g1.2 | exact mkN_self _ _ _ _ | (simp only [mkN_len]; omega) | assumption | omega | (simp only [List.length_map]; omega) | (simp only [List.length_map, List.length_append, List.length_cons, List.length_nil, List.length_replicate, List.length_set, List.length_drop, List.length_take, lim] at *; omega))) rfl) ?_
    refine mO (rd 1 eStr a1) rfl ?_
    refine cO (OC.callF (us := [(rd 1 eStr a1)]) (r := (T.sl true 1 (a1.map (eStr true)))) (r' := (T.os 1 9 0 ((a1.map (eStr true)).length))) (objs := [(Obj.rows 1 (a1.map (eStr true)))]) rfl (vc (tv (rd 1 eStr a1) rfl) VEvs.nil) (lp rfl (LendL.nil)) (W_laws_toStringS (n + 4) a1 (by first | exact g0.2 | exact g1.2 | exact mkN_self _ _ _ _ | (simp only [mkN_len]; omega) | assumption | omega | (simp only [List.length_map]; omega) | (simp only [List.length_map, List.length_append, List.length_cons, List.length_nil, List.length_replicate, List.length_set, List.length_drop, List.length_take, lim] at *; omega))) rfl) ?_
    refine mO (tI a2) rfl ?_
    refine mO (tI a3) rfl ?_
    refine cO (OC.callF (us := [(rd 2 eUsed a0), (rd 1 eStr a1), (tI a2), (tI a3)]) (r := (T.sl true 1 ((tooSoon a0 a1 a2 a3).map (eStr true)))) (r' := (T.os 1 10 0 (((tooSoon a0 a1 a2 a3).map (eStr true)).length))) (objs := [(Obj.rows 1 ((tooSoon a0 a1 a2 a3).map (eStr true)))]) rfl (vc (tv (T.os 2 8 0 ((a0.map (eUsed true)).length)) rfl) (vc (tv (T.os 1 9 0 ((a1.map (eStr true)).length)) rfl) (vc (tv (tI a2) rfl) (vc (tv (tI a3) rfl) VEvs.nil)))) (LendL.cons (Lend.os rfl rfl (okeUsed.fzMap _ _)) (LendL.cons (Lend.os rfl rfl (okStr.fzMap _ _)) (lp rfl (lp rfl (LendL.nil))))) (W_impl_TooSoon (n + 0) a0 a1 a2 a3 (by first | exact g0.2 | exact g1.2 | exact mkN_self _ _ _ _ | (simp only [mkN_len]; omega) | assumption | omega | (simp only [List.length_map]; omega) | (simp only [List.length_map, List.length_append, List.length_cons, List.length_nil, List.length_replicate, List.length_set, List.length_drop, List.length_take, lim] at *; omega)) (by first | exact g0.2 | exact g1.2 | exact mkN_self _ _ _ _ | (simp only [mkN_len]; omega) | assumption | omega | (simp only [List.length_map]; omega) | (simp only [List.length_map, List.length_append, List.length_cons, List.length_nil, List.length_replicate, List.length_set, List.length_drop, List.length_take, lim] at *; omega)) (by first | exact g0.2 | exact g1.2 | exact mkN_self _ _ _ _ | (simp only [mkN_len]; omega) | assumption | omega | (simp only [List.length_map]; omega) | (simp only [List.length_map, List.length_append, List.length_cons, List.length_nil, List.length_replicate, List.length_set, List.length_drop, List.length_take, lim] at *; omega))) rfl) ?_
    refine aO (T.os 1 10 0 (((tooSoon a0 a1 a2 a3).map (eStr true)).length)) rfl ?_
    refine nt ?_
    refine sq ?_
    refine sr ?_
    refine mO (T.os 1 10 0 (((tooSoon a0 a1 a2 a3).map (eStr true)).length)) rfl ?_
    refine mO (T.os 1 2 0 (((tooSoon a0 a1 a2 a3).map (eStr true)).length)) rfl ?_
    refine cO (cS (us := [(rd 1 eStr (tooSoon a0 a1 a2 a3)), (rd 1 eStr (tooSoon a0 a1 a2 a3))]) (vc (tv (T.os 1 10 0 (((tooSoon a0 a1 a2 a3).map (eStr true)).length)) rfl) (vc (tv (T.os 1 2 0 (((tooSoon a0 a1 a2 a3).map (eStr true)).length)) rfl) VEvs.nil)) (LendL.cons (Lend.os rfl rfl (okStr.fzMap _ _)) (LendL.cons (Lend.os rfl rfl (okStr.fzMap _ _)) (LendL.nil))) (W_laws_eqStringS (n + 4) (tooSoon a0 a1 a2 a3) (tooSoon a0 a1 a2 a3) (by first | exact g0.2 | exact g1.2 | exact mkN_self _ _ _ _ | (simp only [mkN_len]; omega) | assumption | omega | (simp only [List.length_map]; omega) | (simp only [List.length_map, List.length_append, List.length_cons, List.length_nil, List.length_replicate, List.length_set, List.length_drop, List.length_take, lim] at *; omega)) (by first | exact g0.2 | exact g1.2 | exact mkN_self _ _ _ _ | (simp only [mkN_len]; omega) | assumption | omega | (simp only [List.length_map]; omega) | (simp only [List.length_map, List.length_append, List.length_cons, List.length_nil, List.length_replicate, List.length_set, List.length_drop, List.length_take, lim] at *; omega))) rfl rfl) ?_
    refine fO (B.not (c := (!(decide ((tooSoon a0 a1 a2 a3) = (tooSoon a0 a1 a2 a3))))) (tv (tB (decide ((tooSoon a0 a1 a2 a3) = (tooSoon a0 a1 a2 a3)))) rfl) rfl) ?_
    refine nt ?_
    refine VRun.cond (tv (tB (!(decide ((tooSoon a0 a1 a2 a3) = (tooSoon a0 a1 a2 a3))))) rfl) (fun hk4 => ?_) (fun hk4 => ?_)
    · exact absurd (hc2.symm.trans hk4) (by decide)
    · skip
      refine sk ?_
      refine tn ?_
      refine sr ?_
      refine fO (OF.assign (VEv.int .i64 1)) ?_
      refine nt ?_
      refine sr ?_
      refine mO (T.os 1 5 0 (((tooSoon a0 a1 a2 a3).map (eStr true)).length)) rfl ?_
      refine mO (tN 1) rfl ?_
      refine cO (cS (us := [(rd 1 eStr (mkN mString 1 1 (tooSoon a0 a1 a2 a3).length)), (tN 1)]) (vc (tv (T.os 1 5 0 (((tooSoon a0 a1 a2 a3).map (eStr true)).length)) rfl) (vc (tv (tN 1) rfl) VEvs.nil)) (LendL.cons (Lend.os rfl (by simp only [List.length_map, mkN_len, List.length_set]) (okStr.fzMap _ _)) (lp rfl (LendL.nil))) (W_laws_heldStringS (n + 3) (mkN mString 1 1 (tooSoon a0 a1 a2 a3).length) 1 (by first | exact g0.2 | exact g1.2 | exact mkN_self _ _ _ _ | (simp only [mkN_len]; omega) | assumption | omega | (simp only [List.length_map]; omega) | (simp only [List.length_map, List.length_append, List.length_cons, List.length_nil, List.length_replicate, List.length_set, List.length_drop, List.length_take, lim] at *; omega)) (by first | exact g0.2 | exact g1.2 | exact mkN_self _ _ _ _ | (simp only [mkN_len]; omega) | assumption | omega | (simp only [List.length_map]; omega) | (simp only [List.length_map, List.length_append, List.length_cons, List.length_nil, List.length_replicate, List.length_set, List.length_drop, List.length_take, lim] at *; omega))) rfl rfl) ?_
      refine aO (tN (1 + 1 * (mkN mString 1 1 (tooSoon a0 a1 a2 a3).length).length)) rfl ?_
      refine nt ?_
      refine sq ?_
      refine sr ?_
      refine mO (tN (1 + 1 * (mkN mString 1 1 (tooSoon a0 a1 a2 a3).length).length)) rfl ?_
      refine fO (B.lss (c := (decide (1 + 1 * (mkN mString 1 1 (tooSoon a0 a1 a2 a3).length).length < 0))) (tv (tN (1 + 1 * (mkN mString 1 1 (tooSoon a0 a1 a2 a3).length).length)) rfl) (VEv.int .i64 0) (by first | exact g0.2 | exact g1.2 | exact mkN_self _ _ _ _ | (simp only [mkN_len]; omega) | (exact decN (by omega)))) ?_
      refine nt ?_
      refine VRun.cond (tv (tB (decide (1 + 1 * (mkN mString 1 1 (tooSoon a0 a1 a2 a3).length).length < 0))) rfl) (fun hk5 => ?_) (fun hk5 => ?_)
      · exact absurd (hc6.symm.trans hk5) (by decide)
      · skip
        refine sk ?_
        refine tn ?_
        refine sq ?_
        refine sr ?_
        refine mO (tN (1 + 1 * (mkN mString 1 1 (tooSoon a0 a1 a2 a3).length).length)) rfl ?_
        refine mO (tN (1 + 1 * (tooSoon a0 a1 a2 a3).length)) rfl ?_
        refine fO (B.neq (c := (!(decide (1 + 1 * (mkN mString 1 1 (tooSoon a0 a1 a2 a3).length).length = 1 + 1 * (tooSoon a0 a1 a2 a3).length)))) (tv (tN (1 + 1 * (mkN mString 1 1 (tooSoon a0 a1 a2 a3).length).length)) rfl) (tv (tN (1 + 1 * (tooSoon a0 a1 a2 a3).length)) rfl) (by first | exact g0.2 | exact g1.2 | exact mkN_self _ _ _ _ | (simp only [mkN_len]; omega) | (exact decNn (by omega)))) ?_
        refine nt ?_
        refine VRun.cond (tv (tB (!(decide (1 + 1 * (mkN mString 1 1 (tooSoon a0 a1 a2 a3).length).length = 1 + 1 * (tooSoon a0 a1 a2 a3).length)))) rfl) (fun hk6 => ?_) (fun hk6 => ?_)
        · exact absurd (hc7.symm.trans hk6) (by decide)
        · skip
          refine sk ?_
          refine tn ?_
          refine sr ?_
          refine fO (OF.assign (VEv.bool true)) ?_
          refine nt ?_
          refine rt ?_
          exact vb rfl rfl
end Go.Proofs.Ythdnjihmjdbdkaa.AE
