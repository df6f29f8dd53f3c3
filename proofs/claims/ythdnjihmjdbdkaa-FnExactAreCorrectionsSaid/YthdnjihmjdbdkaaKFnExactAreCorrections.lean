/- Walks of the program's functions over trees. Conditions: as each theorem states. -/
import Derived.Test.YthdnjihmjdbdkaaKFnExactAreCorrectionsVcorr
namespace Go.Proofs.Ythdnjihmjdbdkaa.AE
open Go Go.RowKit
set_option linter.unusedVariables false
set_option linter.unusedSimpArgs false
set_option maxRecDepth 20000
set_option maxHeartbeats 2000000

theorem W_laws_FnExactAreCorrections (n : Nat) (a0 : List D.Correction) (g0 : (a0.length ≤ maxLen ∧ ∀ y ∈ a0, GCorrection y)) : Pure (acall Try.prog (n + 7)) 8 [(T.sl false 5 (a0.map (eCorrection false)))] (T.bool true) := by
  refine Pure.intro (rs := [ResultVar.tmp 2]) Try.func8 rfl rfl rfl (E0 := [(0, (T.sl false 5 (a0.map (eCorrection false))))]) rfl ?_
  have hlim : lim = 1099511627776 := rfl
  have hmx : mx = 1048576 := rfl
  have hmax : maxLen = 9223372036854775807 := rfl
  have hl0 := zL_len (z := zCorrection) a0
  refine VRun.seq ?_
  refine VRun.region ?_
  refine VRunO.free VWant.always (OF.assign (VEv.bool false)) ?_
  refine VRunO.nil ?_
  refine vthn.n ?_
  refine VRun.seq ?_
  refine VRun.region ?_
  refine VRunO.free VWant.always (OF.assign (VEv.int .i64 1048576)) ?_
  refine VRunO.nil ?_
  refine vthn.n ?_
  refine VRun.seq ?_
  refine VRun.region ?_
  refine VRunO.free VWant.always (OF.move (VEv.tmp (t := (T.sl false 5 (a0.map (eCorrection false)))) rfl)) ?_
  refine VRunO.free VWant.always (OF.move (VEv.tmp (t := (T.int .i64 1048576)) rfl)) ?_
  refine VRunO.chain VWant.always (OC.callF (us := [(T.sl false 5 (a0.map (eCorrection false))), (T.int .i64 1048576)]) (r := (T.int .i64 (szR (zL zCorrection a0) 1048576))) (r' := (T.int .i64 (szR (zL zCorrection a0) 1048576))) (objs := []) rfl (VEvs.cons (VEv.tmp (t := (T.sl false 5 (a0.map (eCorrection false)))) rfl) (VEvs.cons (VEv.tmp (t := (T.int .i64 1048576)) rfl) VEvs.nil)) (LendL.cons (Lend.pl rfl) (LendL.cons (Lend.pl rfl) (LendL.nil))) (W_laws_szCorrectionS (n + 1) a0 1048576 (by first | assumption | omega | (simp only [List.length_map]; omega) | (simp only [List.length_map, List.length_append, List.length_cons, List.length_nil, List.length_replicate, List.length_set, List.length_drop, List.length_take, lim] at *; omega)) (by first | assumption | omega | (simp only [List.length_map]; omega) | (simp only [List.length_map, List.length_append, List.length_cons, List.length_nil, List.length_replicate, List.length_set, List.length_drop, List.length_take, lim] at *; omega)) (by first | assumption | omega | (simp only [List.length_map]; omega) | (simp only [List.length_map, List.length_append, List.length_cons, List.length_nil, List.length_replicate, List.length_set, List.length_drop, List.length_take, lim] at *; omega))) rfl) ?_
  refine VRunO.free VWant.always (OF.assign (VEv.tmp (t := (T.int .i64 (szR (zL zCorrection a0) 1048576))) rfl)) ?_
  refine VRunO.nil ?_
  refine vthn.n ?_
  refine VRun.seq ?_
  refine VRun.seq ?_
  refine VRun.region ?_
  refine VRunO.free VWant.always (OF.move (VEv.tmp (t := (T.int .i64 (szR (zL zCorrection a0) 1048576))) rfl)) ?_
  refine VRunO.free VWant.always (B.lss (c := (decide (szR (zL zCorrection a0) 1048576 < 0))) (VEv.tmp (t := (T.int .i64 (szR (zL zCorrection a0) 1048576))) rfl) (VEv.int .i64 0) rfl) ?_
  refine VRunO.nil ?_
  refine vthn.n ?_
  refine VRun.cond (VEv.tmp (t := (T.bool (decide (szR (zL zCorrection a0) 1048576 < 0)))) rfl) (fun hc0 => ?_) (fun hc0 => ?_)
  · have fhc0 : szR (zL zCorrection a0) 1048576 < 0 := of_decide_eq_true hc0
    refine VRun.seq ?_
    refine VRun.region ?_
    refine VRunO.free VWant.always (OF.assign (VEv.bool true)) ?_
    refine VRunO.nil ?_
    refine vthn.n ?_
    refine VRun.ret ?_
    refine vthn.r ?_
    refine vfin.eq (r' := (T.bool true)) ?_ (vfin.r (VRes.tmp (t := (T.bool true)) rfl VRes.nil) (Give.bool _))
    rfl
  · have fhc0 : ¬ (szR (zL zCorrection a0) 1048576 < 0) := of_decide_eq_false hc0
    first | (have hz0 := szR_pos fhc0) | skip
    refine VRun.skip ?_
    refine vthn.n ?_
    refine VRun.seq ?_
    refine VRun.region ?_
    refine VRunO.free VWant.always (OF.move (VEv.tmp (t := (T.sl false 5 (a0.map (eCorrection false)))) rfl)) ?_
    refine VRunO.chain VWant.always (OC.callF (us := [(T.sl false 5 (a0.map (eCorrection false)))]) (r := (T.sl true 5 (a0.map (eCorrection true)))) (r' := (T.os 5 0 0 ((a0.map (eCorrection true)).length))) (objs := [(Obj.rows 5 (a0.map (eCorrection true)))]) rfl (VEvs.cons (VEv.tmp (t := (T.sl false 5 (a0.map (eCorrection false)))) rfl) VEvs.nil) (LendL.cons (Lend.pl rfl) (LendL.nil)) (W_laws_toCorrectionS (n + 1) a0 (by first | assumption | omega | (simp only [List.length_map]; omega) | (simp only [List.length_map, List.length_append, List.length_cons, List.length_nil, List.length_replicate, List.length_set, List.length_drop, List.length_take, lim] at *; omega))) rfl) ?_
    refine VRunO.chain VWant.always (OC.callF (us := [(T.sl false 5 (a0.map (eCorrection false)))]) (r := (T.bool (decide (areCorrections a0)))) (r' := (T.bool (decide (areCorrections a0)))) (objs := []) rfl (VEvs.cons (VEv.tmp (t := (T.os 5 0 0 ((a0.map (eCorrection true)).length))) rfl) VEvs.nil) (LendL.cons (Lend.os rfl rfl (okeCorrection.fzMap _ _)) (LendL.nil)) (W_spec_AreCorrections (n + 0) a0 (by first | assumption | omega | (simp only [List.length_map]; omega) | (simp only [List.length_map, List.length_append, List.length_cons, List.length_nil, List.length_replicate, List.length_set, List.length_drop, List.length_take, lim] at *; omega))) rfl) ?_
    refine VRunO.free VWant.always (OF.assign (VEv.tmp (t := (T.bool (decide (areCorrections a0)))) rfl)) ?_
    refine VRunO.nil ?_
    refine vthn.n ?_
    refine VRun.seq ?_
    refine VRun.region ?_
    refine VRunO.free VWant.always (OF.move (VEv.tmp (t := (T.sl false 5 (a0.map (eCorrection false)))) rfl)) ?_
    refine VRunO.chain VWant.always (OC.callF (us := [(T.sl false 5 (a0.map (eCorrection false)))]) (r := (T.sl true 5 (a0.map (eCorrection true)))) (r' := (T.os 5 1 0 ((a0.map (eCorrection true)).length))) (objs := [(Obj.rows 5 (a0.map (eCorrection true)))]) rfl (VEvs.cons (VEv.tmp (t := (T.sl false 5 (a0.map (eCorrection false)))) rfl) VEvs.nil) (LendL.cons (Lend.pl rfl) (LendL.nil)) (W_laws_toCorrectionS (n + 1) a0 (by first | assumption | omega | (simp only [List.length_map]; omega) | (simp only [List.length_map, List.length_append, List.length_cons, List.length_nil, List.length_replicate, List.length_set, List.length_drop, List.length_take, lim] at *; omega))) rfl) ?_
    refine VRunO.free VWant.always (OF.assign (VEv.tmp (t := (T.os 5 1 0 ((a0.map (eCorrection true)).length))) rfl)) ?_
    refine VRunO.nil ?_
    refine vthn.n ?_
    refine VRun.seq ?_
    refine VRun.region ?_
    refine VRunO.free VWant.always (OF.move (VEv.tmp (t := (T.os 5 1 0 ((a0.map (eCorrection true)).length))) rfl)) ?_
    refine VRunO.chain VWant.always (OC.callF (us := [(T.sl false 5 (a0.map (eCorrection false)))]) (r := (T.bool (decide (areCorrections a0)))) (r' := (T.bool (decide (areCorrections a0)))) (objs := []) rfl (VEvs.cons (VEv.tmp (t := (T.os 5 1 0 ((a0.map (eCorrection true)).length))) rfl) VEvs.nil) (LendL.cons (Lend.os rfl rfl (okeCorrection.fzMap _ _)) (LendL.nil)) (W_impl_AreCorrections (n + 1) a0 (by first | assumption | omega | (simp only [List.length_map]; omega) | (simp only [List.length_map, List.length_append, List.length_cons, List.length_nil, List.length_replicate, List.length_set, List.length_drop, List.length_take, lim] at *; omega))) rfl) ?_
    refine VRunO.free VWant.always (OF.assign (VEv.tmp (t := (T.bool (decide (areCorrections a0)))) rfl)) ?_
    refine VRunO.nil ?_
    refine vthn.n ?_
    refine VRun.seq ?_
    refine VRun.seq ?_
    refine VRun.region ?_
    refine VRunO.free VWant.always (OF.move (VEv.tmp (t := (T.bool (decide (areCorrections a0)))) rfl)) ?_
    refine VRunO.free VWant.always (OF.move (VEv.tmp (t := (T.bool (decide (areCorrections a0)))) rfl)) ?_
    refine VRunO.free VWant.always (B.bneq Try.underlying4 (c := (!((decide (areCorrections a0)) == (decide (areCorrections a0))))) (VEv.tmp (t := (T.bool (decide (areCorrections a0)))) rfl) (VEv.tmp (t := (T.bool (decide (areCorrections a0)))) rfl) rfl) ?_
    refine VRunO.nil ?_
    refine vthn.n ?_
    refine VRun.cond (VEv.tmp (t := (T.bool (!((decide (areCorrections a0)) == (decide (areCorrections a0)))))) rfl) (fun hc1 => ?_) (fun hc1 => ?_)
    · have fhc1 : (!((decide (areCorrections a0)) == (decide (areCorrections a0)))) = true := hc1
      refine VRun.seq ?_
      refine VRun.region ?_
      refine VRunO.free VWant.always (OF.assign (VEv.bool false)) ?_
      refine VRunO.nil ?_
      refine vthn.n ?_
      refine VRun.ret ?_
      refine vthn.r ?_
      refine vfin.eq (r' := (T.bool false)) ?_ (vfin.r (VRes.tmp (t := (T.bool false)) rfl VRes.nil) (Give.bool _))
      show (T.bool false) = (T.bool true)
      refine congrArg T.bool ?_
      first | rfl | (exfalso; simp_all; done) | (exfalso; omega)
    · have fhc1 : (!((decide (areCorrections a0)) == (decide (areCorrections a0)))) = false := hc1
      first | (have hz1 := szR_pos fhc1) | skip
      refine VRun.skip ?_
      refine vthn.n ?_
      refine VRun.seq ?_
      refine VRun.seq ?_
      refine VRun.region ?_
      refine VRunO.free VWant.always (OF.move (VEv.tmp (t := (T.os 5 1 0 ((a0.map (eCorrection true)).length))) rfl)) ?_
      refine VRunO.free VWant.always (OF.move (VEv.tmp (t := (T.sl false 5 (a0.map (eCorrection false)))) rfl)) ?_
      refine VRunO.chain VWant.always (OC.callF (us := [(T.sl false 5 (a0.map (eCorrection false)))]) (r := (T.sl true 5 (a0.map (eCorrection true)))) (r' := (T.os 5 2 0 ((a0.map (eCorrection true)).length))) (objs := [(Obj.rows 5 (a0.map (eCorrection true)))]) rfl (VEvs.cons (VEv.tmp (t := (T.sl false 5 (a0.map (eCorrection false)))) rfl) VEvs.nil) (LendL.cons (Lend.pl rfl) (LendL.nil)) (W_laws_toCorrectionS (n + 1) a0 (by first | assumption | omega | (simp only [List.length_map]; omega) | (simp only [List.length_map, List.length_append, List.length_cons, List.length_nil, List.length_replicate, List.length_set, List.length_drop, List.length_take, lim] at *; omega))) rfl) ?_
      refine VRunO.chain VWant.always (OC.callF (us := [(T.sl false 5 (a0.map (eCorrection false))), (T.sl false 5 (a0.map (eCorrection false)))]) (r := (T.bool (decide (a0 = a0)))) (r' := (T.bool (decide (a0 = a0)))) (objs := []) rfl (VEvs.cons (VEv.tmp (t := (T.os 5 1 0 ((a0.map (eCorrection true)).length))) rfl) (VEvs.cons (VEv.tmp (t := (T.os 5 2 0 ((a0.map (eCorrection true)).length))) rfl) VEvs.nil)) (LendL.cons (Lend.os rfl rfl (okeCorrection.fzMap _ _)) (LendL.cons (Lend.os rfl rfl (okeCorrection.fzMap _ _)) (LendL.nil))) (W_laws_eqCorrectionS (n + 1) a0 a0 (by first | assumption | omega | (simp only [List.length_map]; omega) | (simp only [List.length_map, List.length_append, List.length_cons, List.length_nil, List.length_replicate, List.length_set, List.length_drop, List.length_take, lim] at *; omega)) (by first | assumption | omega | (simp only [List.length_map]; omega) | (simp only [List.length_map, List.length_append, List.length_cons, List.length_nil, List.length_replicate, List.length_set, List.length_drop, List.length_take, lim] at *; omega))) rfl) ?_
      refine VRunO.free VWant.always (B.not (c := (!(decide (a0 = a0)))) (VEv.tmp (t := (T.bool (decide (a0 = a0)))) rfl) rfl) ?_
      refine VRunO.nil ?_
      refine vthn.n ?_
      refine VRun.cond (VEv.tmp (t := (T.bool (!(decide (a0 = a0))))) rfl) (fun hc2 => ?_) (fun hc2 => ?_)
      · have fhc2 : ¬ (a0 = a0) := ndT hc2
        refine VRun.seq ?_
        refine VRun.region ?_
        refine VRunO.free VWant.always (OF.assign (VEv.bool false)) ?_
        refine VRunO.nil ?_
        refine vthn.n ?_
        refine VRun.ret ?_
        refine vthn.r ?_
        refine vfin.eq (r' := (T.bool false)) ?_ (vfin.r (VRes.tmp (t := (T.bool false)) rfl VRes.nil) (Give.bool _))
        show (T.bool false) = (T.bool true)
        refine congrArg T.bool ?_
        first | rfl | (exfalso; simp_all; done) | (exfalso; omega)
      · have fhc2 : a0 = a0 := ndF hc2
        first | (have hz2 := szR_pos fhc2) | skip
        refine VRun.skip ?_
        refine vthn.n ?_
        refine VRun.seq ?_
        refine VRun.region ?_
        refine VRunO.free VWant.always (OF.assign (VEv.bool true)) ?_
        refine VRunO.nil ?_
        refine vthn.n ?_
        refine VRun.ret ?_
        refine vfin.eq (r' := (T.bool true)) ?_ (vfin.r (VRes.tmp (t := (T.bool true)) rfl VRes.nil) (Give.bool _))
        rfl
end Go.Proofs.Ythdnjihmjdbdkaa.AE
