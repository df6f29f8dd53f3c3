/- Walks of the program's functions over trees. Conditions: as each theorem states. -/
import Derived.Test.YtllkimgecapbgaaKFnExactCountKindVmap
namespace Go.Proofs.Ytllkimgecapbgaa.AE
open Go Go.RowKit
set_option linter.unusedVariables false
set_option linter.unusedSimpArgs false
set_option maxRecDepth 20000
set_option maxHeartbeats 2000000

theorem W_laws_FnExactCountKind (n : Nat) (a0 : List D.Report) (a1 : Int) (a2 : Int) (g0 : (a0.length ≤ maxLen ∧ ∀ y ∈ a0, GReport y)) (g1 : (Lit.int .i64 a1).wf = true) (g2 : (Lit.int .i64 a2).wf = true) : Pure (acall Try.prog (n + 4)) 7 [(rd 4 eReport a0), (tI a1), (tI a2)] (tB true) := by
  refine Pure.intro (rs := [ResultVar.tmp 6]) Try.func7 rfl rfl rfl (E0 := [(0, (rd 4 eReport a0)), (1, (tI a1)), (2, (tI a2))]) rfl ?_
  have hlim : lim = 1099511627776 := rfl
  have hmx : mx = 1048576 := rfl
  have hmax : maxLen = 9223372036854775807 := rfl
  have hl0 := zL_len (z := zReport) a0
  refine sr ?_
  refine fO (OF.assign (VEv.bool false)) ?_
  refine nt ?_
  refine sr ?_
  refine fO (OF.assign (VEv.int .i64 1048576)) ?_
  refine nt ?_
  refine sr ?_
  refine mO (rd 4 eReport a0) rfl ?_
  refine mO (tN 1048576) rfl ?_
  refine cO (cS (vc (tv (rd 4 eReport a0) rfl) (vc (tv (tN 1048576) rfl) VEvs.nil)) (lp rfl (lp rfl (LendL.nil))) (W_laws_szReportS (n + 1) a0 1048576 (by first | assumption | omega) (by first | assumption | omega) (by first | assumption | omega)) rfl rfl) ?_
  refine aO (tI (szR (zL zReport a0) 1048576)) rfl ?_
  refine nt ?_
  refine sq ?_
  refine sr ?_
  refine mO (tI (szR (zL zReport a0) 1048576)) rfl ?_
  refine fO (B.lss (c := (decide (szR (zL zReport a0) 1048576 < 0))) (tv (tI (szR (zL zReport a0) 1048576)) rfl) (VEv.int .i64 0) rfl) ?_
  refine nt ?_
  refine VRun.cond (tv (tB (decide (szR (zL zReport a0) 1048576 < 0))) rfl) (fun hc0 => ?_) (fun hc0 => ?_)
  · have fhc0 : szR (zL zReport a0) 1048576 < 0 := of_decide_eq_true hc0
    refine sr ?_
    refine fO (OF.assign (VEv.bool true)) ?_
    refine nt ?_
    refine rt ?_
    refine tr ?_
    exact vb rfl rfl
  have fhc0 : ¬ (szR (zL zReport a0) 1048576 < 0) := of_decide_eq_false hc0
  first | (have hz0 := szR_pos fhc0) | skip
  refine sk ?_
  refine tn ?_
  refine sr ?_
  refine mO (rd 4 eReport a0) rfl ?_
  refine cO (OC.callF (us := [(rd 4 eReport a0)]) (r := (T.sl true 4 (a0.map (eReport true)))) (r' := (T.os 4 0 0 ((a0.map (eReport true)).length))) (objs := [(Obj.rows 4 (a0.map (eReport true)))]) rfl (vc (tv (rd 4 eReport a0) rfl) VEvs.nil) (lp rfl (LendL.nil)) (W_laws_toReportS (n + 1) a0 (by first | assumption | omega)) rfl) ?_
  refine mO (tI a1) rfl ?_
  refine mO (tI a2) rfl ?_
  refine cO (cS (us := [(rd 4 eReport a0), (tI a1), (tI a2)]) (vc (tv (T.os 4 0 0 ((a0.map (eReport true)).length)) rfl) (vc (tv (tI a1) rfl) (vc (tv (tI a2) rfl) VEvs.nil))) (LendL.cons (Lend.os rfl rfl (okeReport.fzMap _ _)) (lp rfl (lp rfl (LendL.nil)))) (W_spec_CountKind (n + 1) a0 a1 a2 (by first | assumption | omega)) rfl rfl) ?_
  refine aO (tN ((cnt a0 a1 a2).length)) rfl ?_
  refine nt ?_
  refine sr ?_
  refine mO (rd 4 eReport a0) rfl ?_
  refine cO (OC.callF (us := [(rd 4 eReport a0)]) (r := (T.sl true 4 (a0.map (eReport true)))) (r' := (T.os 4 1 0 ((a0.map (eReport true)).length))) (objs := [(Obj.rows 4 (a0.map (eReport true)))]) rfl (vc (tv (rd 4 eReport a0) rfl) VEvs.nil) (lp rfl (LendL.nil)) (W_laws_toReportS (n + 1) a0 (by first | assumption | omega)) rfl) ?_
  refine aO (T.os 4 1 0 ((a0.map (eReport true)).length)) rfl ?_
  refine nt ?_
  refine sr ?_
  refine mO (T.os 4 1 0 ((a0.map (eReport true)).length)) rfl ?_
  refine mO (tI a1) rfl ?_
  refine mO (tI a2) rfl ?_
  refine cO (cS (us := [(rd 4 eReport a0), (tI a1), (tI a2)]) (vc (tv (T.os 4 1 0 ((a0.map (eReport true)).length)) rfl) (vc (tv (tI a1) rfl) (vc (tv (tI a2) rfl) VEvs.nil))) (LendL.cons (Lend.os rfl rfl (okeReport.fzMap _ _)) (lp rfl (lp rfl (LendL.nil)))) (W_impl_CountKind (n + 0) a0 a1 a2 (by first | assumption | omega)) rfl rfl) ?_
  refine aO (tN ((cnt a0 a1 a2).length)) rfl ?_
  refine nt ?_
  refine sq ?_
  refine sr ?_
  refine mO (tN ((cnt a0 a1 a2).length)) rfl ?_
  refine mO (tN ((cnt a0 a1 a2).length)) rfl ?_
  refine fO (B.neq (c := (!(decide ((cnt a0 a1 a2).length = (cnt a0 a1 a2).length)))) (tv (tN ((cnt a0 a1 a2).length)) rfl) (tv (tN ((cnt a0 a1 a2).length)) rfl) (by first | (exact decNn (by omega)))) ?_
  refine nt ?_
  refine VRun.cond (tv (tB (!(decide ((cnt a0 a1 a2).length = (cnt a0 a1 a2).length)))) rfl) (fun hc1 => ?_) (fun hc1 => ?_)
  · have fhc1 : ¬ ((cnt a0 a1 a2).length = (cnt a0 a1 a2).length) := ndT hc1
    refine sr ?_
    refine fO (OF.assign (VEv.bool false)) ?_
    refine nt ?_
    refine rt ?_
    refine tr ?_
    refine vb (b' := false) rfl ?_
    first | rfl | (exfalso; simp_all; done) | (exfalso; omega)
  have fhc1 : (cnt a0 a1 a2).length = (cnt a0 a1 a2).length := ndF hc1
  first | (have hz1 := szR_pos fhc1) | skip
  refine sk ?_
  refine tn ?_
  refine sq ?_
  refine sr ?_
  refine mO (T.os 4 1 0 ((a0.map (eReport true)).length)) rfl ?_
  refine mO (rd 4 eReport a0) rfl ?_
  refine cO (OC.callF (us := [(rd 4 eReport a0)]) (r := (T.sl true 4 (a0.map (eReport true)))) (r' := (T.os 4 2 0 ((a0.map (eReport true)).length))) (objs := [(Obj.rows 4 (a0.map (eReport true)))]) rfl (vc (tv (rd 4 eReport a0) rfl) VEvs.nil) (lp rfl (LendL.nil)) (W_laws_toReportS (n + 1) a0 (by first | assumption | omega)) rfl) ?_
  refine cO (cS (us := [(rd 4 eReport a0), (rd 4 eReport a0)]) (vc (tv (T.os 4 1 0 ((a0.map (eReport true)).length)) rfl) (vc (tv (T.os 4 2 0 ((a0.map (eReport true)).length)) rfl) VEvs.nil)) (LendL.cons (Lend.os rfl rfl (okeReport.fzMap _ _)) (LendL.cons (Lend.os rfl rfl (okeReport.fzMap _ _)) (LendL.nil))) (W_laws_eqReportS (n + 1) a0 a0 (by first | assumption | omega) (by first | assumption | omega)) rfl rfl) ?_
  refine fO (B.not (c := (!(decide (a0 = a0)))) (tv (tB (decide (a0 = a0))) rfl) rfl) ?_
  refine nt ?_
  refine VRun.cond (tv (tB (!(decide (a0 = a0)))) rfl) (fun hc2 => ?_) (fun hc2 => ?_)
  · have fhc2 : ¬ (a0 = a0) := ndT hc2
    refine sr ?_
    refine fO (OF.assign (VEv.bool false)) ?_
    refine nt ?_
    refine rt ?_
    refine tr ?_
    refine vb (b' := false) rfl ?_
    first | rfl | (exfalso; simp_all; done) | (exfalso; omega)
  have fhc2 : a0 = a0 := ndF hc2
  first | (have hz2 := szR_pos fhc2) | skip
  refine sk ?_
  refine tn ?_
  refine sr ?_
  refine fO (OF.assign (VEv.bool true)) ?_
  refine nt ?_
  refine rt ?_
  exact vb rfl rfl
end Go.Proofs.Ytllkimgecapbgaa.AE
