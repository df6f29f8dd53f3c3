/- Walks of the program's functions over trees. Conditions: as each theorem states. -/
import Derived.Test.YthdnjihmjdbdkaaKFnExactAreCorrectionsFsz
namespace Go.Proofs.Ythdnjihmjdbdkaa.AE
open Go Go.RowKit
set_option linter.unusedVariables false
set_option linter.unusedSimpArgs false
set_option maxRecDepth 20000
set_option maxHeartbeats 2000000

theorem W_laws_toStep (n : Nat) (a : D.Step)  : Pure (acall Try.prog (n + 1)) 161 [(T.agg (eStep false a))] (T.agg (eStep true a)) := by
  refine Pure.intro (rs := [ResultVar.cell 2 166]) Try.func161 rfl rfl rfl (E0 := [(0, (T.agg (eStep false a)))]) rfl ?_
  have hlim : lim = 1099511627776 := rfl
  have hmx : mx = 1048576 := rfl
  have hmax : maxLen = 9223372036854775807 := rfl
  refine VRun.seq ?_
  refine VRun.region ?_
  refine VRunO.make VWant.always (B.box (ts := [(T.int .i64 a.Kind), (T.str a.Word), (T.int .i64 a.A), (T.int .i64 a.B)]) (VEv.tmp (t := (T.agg (eStep false a))) rfl) nofun rfl) ?_
  refine VRunO.make VWant.always (B.alloc (t := (T.agg [(T.int .i64 0), (T.str ByteArray.empty), (T.int .i64 0), (T.int .i64 0)])) (ts := [(T.int .i64 0), (T.str ByteArray.empty), (T.int .i64 0), (T.int .i64 0)]) zo166 zc166 nofun (fun _ => .agg _ _ rfl (RLof (RL.cons (.int _ _) (RL.cons (.str _) (RL.cons (.int _ _) (RL.cons (.int _ _) (RL.nil _))))))) rfl) ?_
  refine VRunO.nil ?_
  refine vthn.n ?_
  refine VRun.seq ?_
  refine VRun.region ?_
  refine VRunO.make VWant.always (B.alloc (t := (T.agg [(T.int .i64 0), (T.str ByteArray.empty), (T.int .i64 0), (T.int .i64 0)])) (ts := [(T.int .i64 0), (T.str ByteArray.empty), (T.int .i64 0), (T.int .i64 0)]) zo166 zc166 nofun (fun _ => .agg _ _ rfl (RLof (RL.cons (.int _ _) (RL.cons (.str _) (RL.cons (.int _ _) (RL.cons (.int _ _) (RL.nil _))))))) rfl) ?_
  refine VRunO.nil ?_
  refine vthn.n ?_
  refine VRun.seq ?_
  refine VRun.region ?_
  refine VRunO.free VWant.always (OF.fieldAddrO (VEv.tmp (t := (T.op 0 0)) rfl) fa182_0) ?_
  refine VRunO.look VWant.always (OL.loadO1 (t := (T.int .i64 a.Kind)) (VEv.tmp (t := (T.op 0 0)) rfl) rfl rfl st3) ?_
  refine VRunO.free VWant.always (OF.fieldAddrO (VEv.tmp (t := (T.op 2 0)) rfl) fa166_0) ?_
  refine VRunO.chain VWant.always (B.storeO (us := [(T.int .i64 a.Kind)]) (ws := [(T.int .i64 a.Kind), (T.str ByteArray.empty), (T.int .i64 0), (T.int .i64 0)]) (VEv.tmp (t := (T.op 2 0)) rfl) (VEv.tmp (t := (T.int .i64 a.Kind)) rfl) nofun rfl rfl (Nat.le_of_ble_eq_true rfl) if3 sz3 (ball_cons rfl (ball_nil)) rfl) ?_
  refine VRunO.nil ?_
  refine vthn.n ?_
  refine VRun.seq ?_
  refine VRun.region ?_
  refine VRunO.free VWant.always (OF.fieldAddrO (VEv.tmp (t := (T.op 0 0)) rfl) fa182_1) ?_
  refine VRunO.look VWant.always (OL.loadO1 (t := (T.str a.Word)) (VEv.tmp (t := (T.op 0 1)) rfl) rfl rfl st9) ?_
  refine VRunO.free VWant.always (OF.fieldAddrO (VEv.tmp (t := (T.op 2 0)) rfl) fa166_1) ?_
  refine VRunO.chain VWant.always (B.storeO (us := [(T.str a.Word)]) (ws := [(T.int .i64 a.Kind), (T.str a.Word), (T.int .i64 0), (T.int .i64 0)]) (VEv.tmp (t := (T.op 2 1)) rfl) (VEv.tmp (t := (T.str a.Word)) rfl) nofun rfl rfl (Nat.le_of_ble_eq_true rfl) if9 sz9 (ball_cons rfl (ball_nil)) rfl) ?_
  refine VRunO.nil ?_
  refine vthn.n ?_
  refine VRun.seq ?_
  refine VRun.region ?_
  refine VRunO.free VWant.always (OF.fieldAddrO (VEv.tmp (t := (T.op 0 0)) rfl) fa182_2) ?_
  refine VRunO.look VWant.always (OL.loadO1 (t := (T.int .i64 a.A)) (VEv.tmp (t := (T.op 0 2)) rfl) rfl rfl st3) ?_
  refine VRunO.free VWant.always (OF.fieldAddrO (VEv.tmp (t := (T.op 2 0)) rfl) fa166_2) ?_
  refine VRunO.chain VWant.always (B.storeO (us := [(T.int .i64 a.A)]) (ws := [(T.int .i64 a.Kind), (T.str a.Word), (T.int .i64 a.A), (T.int .i64 0)]) (VEv.tmp (t := (T.op 2 2)) rfl) (VEv.tmp (t := (T.int .i64 a.A)) rfl) nofun rfl rfl (Nat.le_of_ble_eq_true rfl) if3 sz3 (ball_cons rfl (ball_nil)) rfl) ?_
  refine VRunO.nil ?_
  refine vthn.n ?_
  refine VRun.seq ?_
  refine VRun.region ?_
  refine VRunO.free VWant.always (OF.fieldAddrO (VEv.tmp (t := (T.op 0 0)) rfl) fa182_3) ?_
  refine VRunO.look VWant.always (OL.loadO1 (t := (T.int .i64 a.B)) (VEv.tmp (t := (T.op 0 3)) rfl) rfl rfl st3) ?_
  refine VRunO.free VWant.always (OF.fieldAddrO (VEv.tmp (t := (T.op 2 0)) rfl) fa166_3) ?_
  refine VRunO.chain VWant.always (B.storeO (us := [(T.int .i64 a.B)]) (ws := [(T.int .i64 a.Kind), (T.str a.Word), (T.int .i64 a.A), (T.int .i64 a.B)]) (VEv.tmp (t := (T.op 2 3)) rfl) (VEv.tmp (t := (T.int .i64 a.B)) rfl) nofun rfl rfl (Nat.le_of_ble_eq_true rfl) if3 sz3 (ball_cons rfl (ball_nil)) rfl) ?_
  refine VRunO.nil ?_
  refine vthn.n ?_
  refine VRun.seq ?_
  refine VRun.region ?_
  refine VRunO.look VWant.always (OL.loadOn (us := (eStep false a)) (VEv.tmp (t := (T.op 2 0)) rfl) rfl st166 sz166 (Nat.le_of_ble_eq_true rfl) rfl) ?_
  refine VRunO.chain VWant.always (B.storeO (us := [(T.int .i64 a.Kind), (T.str a.Word), (T.int .i64 a.A), (T.int .i64 a.B)]) (ws := [(T.int .i64 a.Kind), (T.str a.Word), (T.int .i64 a.A), (T.int .i64 a.B)]) (VEv.tmp (t := (T.op 1 0)) rfl) (VEv.tmp (t := (T.agg (eStep false a))) rfl) nofun rfl rfl (Nat.le_of_ble_eq_true rfl) if166 sz166 (ball_cons rfl (ball_cons rfl (ball_cons rfl (ball_cons rfl (ball_nil))))) rfl) ?_
  refine VRunO.nil ?_
  refine vthn.n ?_
  refine VRun.ret ?_
  refine vfin.eq (r' := (T.agg (eStep false a))) ?_ (vfin.r (VRes.celln (ws := (eStep false a)) rfl rfl st166 sz166 (Nat.le_of_ble_eq_true rfl) rfl VRes.nil) (Give.agg (GiveL.cons (Give.int _ _) (GiveL.cons (Give.str _) (GiveL.cons (Give.int _ _) (GiveL.cons (Give.int _ _) GiveL.nil (by decide)) (by decide)) (by decide)) (by decide))))
  show (T.agg (eStep false a)) = (T.agg (eStep true a))
  first | rfl | (exact decN (by omega)) | (symm; rw [decide_eq_false_iff_not]; omega) | (symm; rw [decide_eq_true_eq]; omega) | (simp_all; done)
theorem W_laws_toStepS (n : Nat) (a : List D.Step) (ha : a.length ≤ mx) : Pure (acall Try.prog (n + 2)) 150 [(T.sl false 4 (a.map (eStep false)))] (T.sl true 4 (a.map (eStep true))) := by
  refine Pure.intro (rs := [ResultVar.tmp 2]) Try.func150 rfl rfl rfl (E0 := [(0, (T.sl false 4 (a.map (eStep false))))]) rfl ?_
  have hlim : lim = 1099511627776 := rfl
  have hmx : mx = 1048576 := rfl
  have hmax : maxLen = 9223372036854775807 := rfl
  refine VRun.seq ?_
  refine VRun.region ?_
  refine VRunO.free VWant.always (OF.assign VEv.nils) ?_
  refine VRunO.nil ?_
  refine vthn.n ?_
  refine VRun.seq ?_
  refine VRun.region ?_
  refine VRunO.free VWant.always (OF.move (VEv.tmp (t := (T.sl false 4 (a.map (eStep false)))) rfl)) ?_
  refine VRunO.look VWant.always (B.lenR (m := a.length) (VEv.tmp (t := (T.sl false 4 (a.map (eStep false)))) rfl) Try.underlying105 (List.length_map ..)) ?_
  refine VRunO.make VWant.always (B.makeZ (n := a.length) (m := ((List.replicate a.length (D.Step.mk 0 ByteArray.empty 0 0)).map (eStep true)).length) (rows := ((List.replicate a.length (D.Step.mk 0 ByteArray.empty 0 0)).map (eStep true))) (zr := (eStep true (D.Step.mk 0 ByteArray.empty 0 0))) (VEv.tmp (t := (T.int .i64 ((a.length : Nat) : Int))) rfl) (VEv.tmp (t := (T.int .i64 ((a.length : Nat) : Int))) rfl) rfl Try.underlying113 zo166 zc166 rfl (by rw [sz166]; decide) (by first | omega | (simp only [List.length_map]; omega) | (simp only [List.length_map, List.length_append, List.length_cons, List.length_nil, List.length_replicate, List.length_set, List.length_drop, List.length_take, lim] at *; omega)) (of_decide_eq_true (by kernel_rfl)) (Z0.int (Z0.str (Z0.int (Z0.int Z0.nil)))) sz166 (List.map_replicate ..).symm (by rw [List.length_map, List.length_replicate])) ?_
  refine VRunO.free VWant.always (OF.assign (VEv.tmp (t := (T.os 4 0 0 (((List.replicate a.length (D.Step.mk 0 ByteArray.empty 0 0)).map (eStep true)).length))) rfl)) ?_
  refine VRunO.nil ?_
  refine vthn.n ?_
  refine VRun.seq ?_
  refine VRun.seq ?_
  refine VRun.region ?_
  refine VRunO.free VWant.always (OF.assign (VEv.int .i64 0)) ?_
  refine VRunO.nil ?_
  refine vthn.n ?_
  refine VRun.block ?_
  have he1 : (List.replicate a.length (D.Step.mk 0 ByteArray.empty 0 0)) = (a.take 0 ++ List.replicate (a.length - 0) (D.Step.mk 0 ByteArray.empty 0 0)) := by first | rfl | (exact fill_next hx1) | (simp; done) | omega
  refine VRun.loop (A := Nat) (fun s_ => [(0, (T.sl false 4 (a.map (eStep false)))), (2, T.nils), (3, (T.os 4 0 0 (((a.take s_ ++ List.replicate (a.length - s_) (D.Step.mk 0 ByteArray.empty 0 0)).map (eStep true)).length))), (4, (T.int .i64 ((s_ : Nat) : Int)))]) (fun s_ => mkO [(0, (Obj.rows 4 ((a.take s_ ++ List.replicate (a.length - s_) (D.Step.mk 0 ByteArray.empty 0 0)).map (eStep true))))]) 1 (fun s_ => s_ ≤ a.length) (fun s_ => a.length - s_) (0 : Nat) ?_ (Wk.mk (fun k => k) ?_ ?_ ?_) ?_
  · first | trivial | (simp; done) | omega | (constructor <;> simp)
  · exact (ball_cons ⟨rfl, rfl⟩ (ball_cons ⟨rfl, rfl⟩ (ball_cons ⟨(congrArg (fun l_ => T.os 4 0 0 (List.map (eStep true) l_).length) he1), rfl⟩ (ball_cons ⟨(congrArg (T.int .i64) (show 0 = ((0 : Nat) : Int) from (by first | rfl | omega | (simp; done) | (push_cast; omega)))), rfl⟩ (ball_nil)))))
  · exact (ball_cons ⟨(congrArg (fun l_ => some (Obj.rows 4 (List.map (eStep true) l_))) he1), (Nat.le_of_ble_eq_true rfl), rfl⟩ (ball_nil))
  · show List.Nodup ([0] : List Nat)
    decide
  · rintro i hI
    have hI' : i ≤ a.length := hI
    clear hI
    show VRun _ _ _ [(0, (T.sl false 4 (a.map (eStep false)))), (2, T.nils), (3, (T.os 4 0 0 (((a.take i ++ List.replicate (a.length - i) (D.Step.mk 0 ByteArray.empty 0 0)).map (eStep true)).length))), (4, (T.int .i64 ((i : Nat) : Int)))] (mkO [(0, (Obj.rows 4 ((a.take i ++ List.replicate (a.length - i) (D.Step.mk 0 ByteArray.empty 0 0)).map (eStep true))))]) 1 _
    have hfl := fill_at (w := (D.Step.mk 0 ByteArray.empty 0 0)) hI'
    refine VRun.seq ?_
    refine VRun.seq ?_
    refine VRun.region ?_
    refine VRunO.free VWant.always (OF.move (VEv.tmp (t := (T.int .i64 ((i : Nat) : Int))) rfl)) ?_
    refine VRunO.free VWant.always (OF.move (VEv.tmp (t := (T.sl false 4 (a.map (eStep false)))) rfl)) ?_
    refine VRunO.look VWant.always (B.lenR (m := a.length) (VEv.tmp (t := (T.sl false 4 (a.map (eStep false)))) rfl) Try.underlying105 (List.length_map ..)) ?_
    refine VRunO.free VWant.always (B.lss (c := (decide (i < a.length))) (VEv.tmp (t := (T.int .i64 ((i : Nat) : Int))) rfl) (VEv.tmp (t := (T.int .i64 ((a.length : Nat) : Int))) rfl) (by first | (exact decN (by omega)))) ?_
    refine VRunO.nil ?_
    refine vthn.n ?_
    refine VRun.cond (VEv.tmp (t := (T.bool (decide (i < a.length)))) rfl) (fun hc0 => ?_) (fun hc0 => ?_)
    · have fhc0 : i < a.length := of_decide_eq_true hc0
      refine VRun.skip ?_
      refine vthn.n ?_
      refine VRun.seq ?_
      refine VRun.block ?_
      refine VRun.region ?_
      refine VRunO.free VWant.always (OF.move (VEv.tmp (t := (T.os 4 0 0 (((a.take i ++ List.replicate (a.length - i) (D.Step.mk 0 ByteArray.empty 0 0)).map (eStep true)).length))) rfl)) ?_
      refine VRunO.free VWant.always (OF.move (VEv.tmp (t := (T.int .i64 ((i : Nat) : Int))) rfl)) ?_
      refine VRunO.free VWant.always (OF.move (VEv.tmp (t := (T.sl false 4 (a.map (eStep false)))) rfl)) ?_
      refine VRunO.free VWant.always (OF.move (VEv.tmp (t := (T.int .i64 ((i : Nat) : Int))) rfl)) ?_
      obtain ⟨x1, hx1⟩ : ∃ x, a[i]? = some x := ⟨_, List.getElem?_eq_getElem (by first | omega | (simp only [List.length_map]; omega) | (simp only [List.length_map, List.length_append, List.length_cons, List.length_nil, List.length_replicate, List.length_set, List.length_drop, List.length_take, lim] at *; omega))⟩
      refine VRunO.free VWant.always (OF.indexAddrR (row := (eStep false x1)) (i := i) (VEv.tmp (t := (T.sl false 4 (a.map (eStep false)))) rfl) (VEv.tmp (t := (T.int .i64 ((i : Nat) : Int))) rfl) rfl (map_at _ hx1) Try.underlying105 sz182 if182) ?_
      refine VRunO.look VWant.always (OL.loadRn (us := (eStep false x1)) (VEv.tmp (t := (T.rp [(T.int .i64 x1.Kind), (T.str x1.Word), (T.int .i64 x1.A), (T.int .i64 x1.B)])) rfl) st182 sz182 (Nat.le_of_ble_eq_true rfl) rfl) ?_
      refine VRunO.chain VWant.always (OC.callF (us := [(T.agg (eStep false x1))]) (r := (T.agg (eStep true x1))) (r' := (T.agg (eStep true x1))) (objs := []) rfl (VEvs.cons (VEv.tmp (t := (T.agg (eStep false x1))) rfl) VEvs.nil) (LendL.cons (Lend.agg (LendL.cons (Lend.pl rfl) (LendL.cons (Lend.pl rfl) (LendL.cons (Lend.pl rfl) (LendL.cons (Lend.pl rfl) (LendL.nil)))))) (LendL.nil)) (W_laws_toStep (n + 0) x1 ) rfl) ?_
      obtain ⟨x2, hx2⟩ : ∃ x, (a.take i ++ List.replicate (a.length - i) (D.Step.mk 0 ByteArray.empty 0 0))[i]? = some x := ⟨_, List.getElem?_eq_getElem (by first | omega | (simp only [List.length_map]; omega) | (simp only [List.length_map, List.length_append, List.length_cons, List.length_nil, List.length_replicate, List.length_set, List.length_drop, List.length_take, lim] at *; omega))⟩
      refine VRunO.free VWant.always (B.indexAddrO (i := i) (VEv.tmp (t := (T.os 4 0 0 (((a.take i ++ List.replicate (a.length - i) (D.Step.mk 0 ByteArray.empty 0 0)).map (eStep true)).length))) rfl) (VEv.tmp (t := (T.int .i64 ((i : Nat) : Int))) rfl) rfl (by first | omega | (simp only [List.length_map]; omega) | (simp only [List.length_map, List.length_append, List.length_cons, List.length_nil, List.length_replicate, List.length_set, List.length_drop, List.length_take, lim] at *; omega)) Try.underlying113 sz166 if166) ?_
      refine VRunO.chain VWant.always (B.storeP (us := [(T.int .i64 x1.Kind), (T.str x1.Word), (T.int .i64 x1.A), (T.int .i64 x1.B)]) (rows' := (((a.take i ++ List.replicate (a.length - i) (D.Step.mk 0 ByteArray.empty 0 0)).set i x1).map (eStep true))) (row := (eStep true x2)) (VEv.tmp (t := (T.orp 4 0 i 0)) rfl) (VEv.tmp (t := (T.agg (eStep true x1))) rfl) nofun rfl (map_at _ hx2) rfl (Nat.le_of_ble_eq_true rfl) if166 sz166 (ball_cons rfl (ball_cons rfl (ball_cons rfl (ball_cons rfl (ball_nil))))) (by intro r hr t ht; obtain ⟨x, _, rfl⟩ := List.mem_map.1 hr; rw [flStep] at ht; exact isPl_flat (okeStep.pl _ t ht)) (set_mapE rfl)) ?_
      refine VRunO.nil ?_
      refine vinB.n ?_
      refine vthn.n ?_
      refine VRun.region ?_
      refine VRunO.free VWant.always (OF.move (VEv.tmp (t := (T.int .i64 ((i : Nat) : Int))) rfl)) ?_
      refine VRunO.free VWant.always (B.add (n := (((i + 1) : Nat) : Int)) (VEv.tmp (t := (T.int .i64 ((i : Nat) : Int))) rfl) (VEv.int .i64 1) (by first | rfl | (rw [wrap64 (by omega)]; done) | (rw [wrap64 (by omega)]; omega) | (rw [wrap64 (by omega)]; push_cast; omega) | omega)) ?_
      refine VRunO.free VWant.always (OF.assign (VEv.tmp (t := (T.int .i64 (((i + 1) : Nat) : Int))) rfl)) ?_
      refine VRunO.nil ?_
      refine vthn.n ?_
      have he2 : ((a.take i ++ List.replicate (a.length - i) (D.Step.mk 0 ByteArray.empty 0 0)).set i x1) = (a.take (i + 1) ++ List.replicate (a.length - (i + 1)) (D.Step.mk 0 ByteArray.empty 0 0)) := by first | rfl | (exact fill_next hx1) | (simp; done) | omega
      refine ⟨(i + 1 : Nat), ?_, ?_, Wk.mk (fun k => k) ?_ ?_ ?_⟩
      · first | trivial | omega | (simp; done) | exact ⟨by omega, hI'.2⟩
      · first | omega | (simp only []; omega) | (show _ < _; omega) | (simp; omega)
      · exact (ball_cons ⟨rfl, rfl⟩ (ball_cons ⟨rfl, rfl⟩ (ball_cons ⟨(congrArg (fun n_ => T.os 4 0 0 n_) (show ((a.take i ++ List.replicate (a.length - i) (D.Step.mk 0 ByteArray.empty 0 0)).map (eStep true)).length = ((a.take (i + 1) ++ List.replicate (a.length - (i + 1)) (D.Step.mk 0 ByteArray.empty 0 0)).map (eStep true)).length from (by first | rfl | (simp only [List.length_map]; omega) | (simp only [List.length_map, List.length_set, List.length_append, List.length_take, List.length_replicate, List.length_cons, List.length_nil]; omega)))), rfl⟩ (ball_cons ⟨rfl, rfl⟩ (ball_nil)))))
      · exact (ball_cons ⟨(congrArg (fun l_ => some (Obj.rows 4 (List.map (eStep true) l_))) he2), (Nat.le_of_ble_eq_true rfl), rfl⟩ (ball_nil))
      · show List.Nodup ([0] : List Nat)
        decide
    · have fhc0 : ¬ (i < a.length) := of_decide_eq_false hc0
      refine VRun.exit ?_
      refine vthn.e ?_
      refine vthn.e ?_
      refine vinB.e ?_
      refine vthn.n ?_
      refine VRun.seq ?_
      refine VRun.region ?_
      refine VRunO.free VWant.always (OF.move (VEv.tmp (t := (T.os 4 0 0 (((a.take i ++ List.replicate (a.length - i) (D.Step.mk 0 ByteArray.empty 0 0)).map (eStep true)).length))) rfl)) ?_
      refine VRunO.free VWant.always (OF.assign (VEv.tmp (t := (T.os 4 0 0 (((a.take i ++ List.replicate (a.length - i) (D.Step.mk 0 ByteArray.empty 0 0)).map (eStep true)).length))) rfl)) ?_
      refine VRunO.nil ?_
      refine vthn.n ?_
      refine VRun.ret ?_
      refine vfin.eq (r' := (T.sl true 4 ((a.take i ++ List.replicate (a.length - i) (D.Step.mk 0 ByteArray.empty 0 0)).map (eStep true)))) ?_ (vfin.r (VRes.tmp (t := (T.os 4 0 0 (((a.take i ++ List.replicate (a.length - i) (D.Step.mk 0 ByteArray.empty 0 0)).map (eStep true)).length))) rfl VRes.nil) (Give.os rfl rfl (okeStep.cleanMap _)))
      show (T.sl true 4 ((a.take i ++ List.replicate (a.length - i) (D.Step.mk 0 ByteArray.empty 0 0)).map (eStep true))) = (T.sl true 4 (a.map (eStep true)))
      refine congrArg (fun l_ => T.sl true 4 (List.map (eStep true) l_)) ?_
      exact fill_done fhc0
theorem W_laws_toClue (n : Nat) (a : D.Clue) (ha : zClue a ≤ mx) : Pure (acall Try.prog (n + 3)) 122 [(T.agg (eClue false a))] (T.agg (eClue true a)) := by
  refine Pure.intro (rs := [ResultVar.cell 2 115]) Try.func122 rfl rfl rfl (E0 := [(0, (T.agg (eClue false a)))]) rfl ?_
  have hlim : lim = 1099511627776 := rfl
  have hmx : mx = 1048576 := rfl
  have hmax : maxLen = 9223372036854775807 := rfl
  simp only [zClue] at ha
  have hla_Play := zL_len (z := zStep) a.Play
  refine VRun.seq ?_
  refine VRun.region ?_
  refine VRunO.make VWant.always (B.box (ts := [(T.int .i64 a.Sense), (T.sl false 4 (a.Play.map (eStep false)))]) (VEv.tmp (t := (T.agg (eClue false a))) rfl) nofun rfl) ?_
  refine VRunO.make VWant.always (B.alloc (t := (T.agg [(T.int .i64 0), T.nils])) (ts := [(T.int .i64 0), T.nils]) zo115 zc115 nofun (fun _ => .agg _ _ rfl (RLof (RL.cons (.int _ _) (RL.cons (.nils) (RL.nil _))))) rfl) ?_
  refine VRunO.nil ?_
  refine vthn.n ?_
  refine VRun.seq ?_
  refine VRun.region ?_
  refine VRunO.make VWant.always (B.alloc (t := (T.agg [(T.int .i64 0), T.nils])) (ts := [(T.int .i64 0), T.nils]) zo115 zc115 nofun (fun _ => .agg _ _ rfl (RLof (RL.cons (.int _ _) (RL.cons (.nils) (RL.nil _))))) rfl) ?_
  refine VRunO.nil ?_
  refine vthn.n ?_
  refine VRun.seq ?_
  refine VRun.region ?_
  refine VRunO.free VWant.always (OF.fieldAddrO (VEv.tmp (t := (T.op 0 0)) rfl) fa107_0) ?_
  refine VRunO.look VWant.always (OL.loadO1 (t := (T.int .i64 a.Sense)) (VEv.tmp (t := (T.op 0 0)) rfl) rfl rfl st3) ?_
  refine VRunO.free VWant.always (OF.fieldAddrO (VEv.tmp (t := (T.op 2 0)) rfl) fa115_0) ?_
  refine VRunO.chain VWant.always (B.storeO (us := [(T.int .i64 a.Sense)]) (ws := [(T.int .i64 a.Sense), T.nils]) (VEv.tmp (t := (T.op 2 0)) rfl) (VEv.tmp (t := (T.int .i64 a.Sense)) rfl) nofun rfl rfl (Nat.le_of_ble_eq_true rfl) if3 sz3 (ball_cons rfl (ball_nil)) rfl) ?_
  refine VRunO.nil ?_
  refine vthn.n ?_
  refine VRun.seq ?_
  refine VRun.region ?_
  refine VRunO.free VWant.always (OF.fieldAddrO (VEv.tmp (t := (T.op 0 0)) rfl) fa107_1) ?_
  refine VRunO.look VWant.always (OL.loadO1 (t := (T.sl false 4 (a.Play.map (eStep false)))) (VEv.tmp (t := (T.op 0 1)) rfl) rfl rfl st105) ?_
  refine VRunO.chain VWant.always (OC.callF (us := [(T.sl false 4 (a.Play.map (eStep false)))]) (r := (T.sl true 4 (a.Play.map (eStep true)))) (r' := (T.os 4 3 0 ((a.Play.map (eStep true)).length))) (objs := [(Obj.rows 4 (a.Play.map (eStep true)))]) rfl (VEvs.cons (VEv.tmp (t := (T.sl false 4 (a.Play.map (eStep false)))) rfl) VEvs.nil) (LendL.cons (Lend.pl rfl) (LendL.nil)) (W_laws_toStepS (n + 0) a.Play (by first | assumption | omega | (simp only [List.length_map]; omega) | (simp only [List.length_map, List.length_append, List.length_cons, List.length_nil, List.length_replicate, List.length_set, List.length_drop, List.length_take, lim] at *; omega))) rfl) ?_
  refine VRunO.free VWant.always (OF.fieldAddrO (VEv.tmp (t := (T.op 2 0)) rfl) fa115_1) ?_
  refine VRunO.chain VWant.always (B.storeO (us := [(T.os 4 3 0 ((a.Play.map (eStep true)).length))]) (ws := [(T.int .i64 a.Sense), (T.os 4 3 0 ((a.Play.map (eStep true)).length))]) (VEv.tmp (t := (T.op 2 1)) rfl) (VEv.tmp (t := (T.os 4 3 0 ((a.Play.map (eStep true)).length))) rfl) nofun rfl rfl (Nat.le_of_ble_eq_true rfl) if113 sz113 (ball_cons rfl (ball_nil)) rfl) ?_
  refine VRunO.nil ?_
  refine vthn.n ?_
  refine VRun.seq ?_
  refine VRun.region ?_
  refine VRunO.look VWant.always (OL.loadOn (us := [(T.int .i64 a.Sense), (T.os 4 3 0 ((a.Play.map (eStep true)).length))]) (VEv.tmp (t := (T.op 2 0)) rfl) rfl st115 sz115 (Nat.le_of_ble_eq_true rfl) rfl) ?_
  refine VRunO.chain VWant.always (B.storeO (us := [(T.int .i64 a.Sense), (T.os 4 3 0 ((a.Play.map (eStep true)).length))]) (ws := [(T.int .i64 a.Sense), (T.os 4 3 0 ((a.Play.map (eStep true)).length))]) (VEv.tmp (t := (T.op 1 0)) rfl) (VEv.tmp (t := (T.agg [(T.int .i64 a.Sense), (T.os 4 3 0 ((a.Play.map (eStep true)).length))])) rfl) nofun rfl rfl (Nat.le_of_ble_eq_true rfl) if115 sz115 (ball_cons rfl (ball_cons rfl (ball_nil))) rfl) ?_
  refine VRunO.nil ?_
  refine vthn.n ?_
  refine VRun.ret ?_
  refine vfin.eq (r' := (T.agg [(T.int .i64 a.Sense), (T.sl true 4 (a.Play.map (eStep true)))])) ?_ (vfin.r (VRes.celln (ws := [(T.int .i64 a.Sense), (T.os 4 3 0 ((a.Play.map (eStep true)).length))]) rfl rfl st115 sz115 (Nat.le_of_ble_eq_true rfl) rfl VRes.nil) (Give.agg (GiveL.cons (Give.int _ _) (GiveL.cons (Give.os rfl rfl (okeStep.cleanMap _)) GiveL.nil (by decide)) (by decide))))
  show (T.agg [(T.int .i64 a.Sense), (T.sl true 4 (a.Play.map (eStep true)))]) = (T.agg (eClue true a))
  first | rfl | (exact decN (by omega)) | (symm; rw [decide_eq_false_iff_not]; omega) | (symm; rw [decide_eq_true_eq]; omega) | (simp_all; done)
theorem W_laws_toCorrection (n : Nat) (a : D.Correction) (ha : zCorrection a ≤ mx) : Pure (acall Try.prog (n + 4)) 72 [(T.agg (eCorrection false a))] (T.agg (eCorrection true a)) := by
  refine Pure.intro (rs := [ResultVar.cell 2 117]) Try.func72 rfl rfl rfl (E0 := [(0, (T.agg (eCorrection false a)))]) rfl ?_
  have hlim : lim = 1099511627776 := rfl
  have hmx : mx = 1048576 := rfl
  have hmax : maxLen = 9223372036854775807 := rfl
  simp only [zCorrection] at ha
  refine VRun.seq ?_
  refine VRun.region ?_
  refine VRunO.make VWant.always (B.box (ts := [(T.int .i64 a.Issue), (T.int .i64 a.Slot), (T.int .i64 a.Clue.Sense), (T.sl false 4 (a.Clue.Play.map (eStep false))), (T.int .i64 a.Tick)]) (VEv.tmp (t := (T.agg (eCorrection false a))) rfl) nofun rfl) ?_
  refine VRunO.make VWant.always (B.alloc (t := (T.agg [(T.int .i64 0), (T.int .i64 0), (T.int .i64 0), T.nils, (T.int .i64 0)])) (ts := [(T.int .i64 0), (T.int .i64 0), (T.int .i64 0), T.nils, (T.int .i64 0)]) zo117 zc117 nofun (fun _ => .agg _ _ rfl (RLof (RL.cons (.int _ _) (RL.cons (.int _ _) (RL.cons (.int _ _) (RL.cons (.nils) (RL.cons (.int _ _) (RL.nil _)))))))) rfl) ?_
  refine VRunO.nil ?_
  refine vthn.n ?_
  refine VRun.seq ?_
  refine VRun.region ?_
  refine VRunO.make VWant.always (B.alloc (t := (T.agg [(T.int .i64 0), (T.int .i64 0), (T.int .i64 0), T.nils, (T.int .i64 0)])) (ts := [(T.int .i64 0), (T.int .i64 0), (T.int .i64 0), T.nils, (T.int .i64 0)]) zo117 zc117 nofun (fun _ => .agg _ _ rfl (RLof (RL.cons (.int _ _) (RL.cons (.int _ _) (RL.cons (.int _ _) (RL.cons (.nils) (RL.cons (.int _ _) (RL.nil _)))))))) rfl) ?_
  refine VRunO.nil ?_
  refine vthn.n ?_
  refine VRun.seq ?_
  refine VRun.region ?_
  refine VRunO.free VWant.always (OF.fieldAddrO (VEv.tmp (t := (T.op 0 0)) rfl) fa109_0) ?_
  refine VRunO.look VWant.always (OL.loadO1 (t := (T.int .i64 a.Issue)) (VEv.tmp (t := (T.op 0 0)) rfl) rfl rfl st3) ?_
  refine VRunO.free VWant.always (OF.fieldAddrO (VEv.tmp (t := (T.op 2 0)) rfl) fa117_0) ?_
  refine VRunO.chain VWant.always (B.storeO (us := [(T.int .i64 a.Issue)]) (ws := [(T.int .i64 a.Issue), (T.int .i64 0), (T.int .i64 0), T.nils, (T.int .i64 0)]) (VEv.tmp (t := (T.op 2 0)) rfl) (VEv.tmp (t := (T.int .i64 a.Issue)) rfl) nofun rfl rfl (Nat.le_of_ble_eq_true rfl) if3 sz3 (ball_cons rfl (ball_nil)) rfl) ?_
  refine VRunO.nil ?_
  refine vthn.n ?_
  refine VRun.seq ?_
  refine VRun.region ?_
  refine VRunO.free VWant.always (OF.fieldAddrO (VEv.tmp (t := (T.op 0 0)) rfl) fa109_1) ?_
  refine VRunO.look VWant.always (OL.loadO1 (t := (T.int .i64 a.Slot)) (VEv.tmp (t := (T.op 0 1)) rfl) rfl rfl st3) ?_
  refine VRunO.free VWant.always (OF.fieldAddrO (VEv.tmp (t := (T.op 2 0)) rfl) fa117_1) ?_
  refine VRunO.chain VWant.always (B.storeO (us := [(T.int .i64 a.Slot)]) (ws := [(T.int .i64 a.Issue), (T.int .i64 a.Slot), (T.int .i64 0), T.nils, (T.int .i64 0)]) (VEv.tmp (t := (T.op 2 1)) rfl) (VEv.tmp (t := (T.int .i64 a.Slot)) rfl) nofun rfl rfl (Nat.le_of_ble_eq_true rfl) if3 sz3 (ball_cons rfl (ball_nil)) rfl) ?_
  refine VRunO.nil ?_
  refine vthn.n ?_
  refine VRun.seq ?_
  refine VRun.region ?_
  refine VRunO.free VWant.always (OF.fieldAddrO (VEv.tmp (t := (T.op 0 0)) rfl) fa109_2) ?_
  refine VRunO.look VWant.always (OL.loadOn (us := (eClue false a.Clue)) (VEv.tmp (t := (T.op 0 2)) rfl) rfl st107 sz107 (Nat.le_of_ble_eq_true rfl) rfl) ?_
  refine VRunO.chain VWant.always (OC.callF (us := [(T.agg (eClue false a.Clue))]) (r := (T.agg (eClue true a.Clue))) (r' := (T.agg [(T.int .i64 a.Clue.Sense), (T.os 4 3 0 ((a.Clue.Play.map (eStep true)).length))])) (objs := [(Obj.rows 4 (a.Clue.Play.map (eStep true)))]) rfl (VEvs.cons (VEv.tmp (t := (T.agg (eClue false a.Clue))) rfl) VEvs.nil) (LendL.cons (Lend.agg (LendL.cons (Lend.pl rfl) (LendL.cons (Lend.pl rfl) (LendL.nil)))) (LendL.nil)) (W_laws_toClue (n + 0) a.Clue (by first | assumption | omega | (simp only [List.length_map]; omega) | (simp only [List.length_map, List.length_append, List.length_cons, List.length_nil, List.length_replicate, List.length_set, List.length_drop, List.length_take, lim] at *; omega))) rfl) ?_
  refine VRunO.free VWant.always (OF.fieldAddrO (VEv.tmp (t := (T.op 2 0)) rfl) fa117_2) ?_
  refine VRunO.chain VWant.always (B.storeO (us := [(T.int .i64 a.Clue.Sense), (T.os 4 3 0 ((a.Clue.Play.map (eStep true)).length))]) (ws := [(T.int .i64 a.Issue), (T.int .i64 a.Slot), (T.int .i64 a.Clue.Sense), (T.os 4 3 0 ((a.Clue.Play.map (eStep true)).length)), (T.int .i64 0)]) (VEv.tmp (t := (T.op 2 2)) rfl) (VEv.tmp (t := (T.agg [(T.int .i64 a.Clue.Sense), (T.os 4 3 0 ((a.Clue.Play.map (eStep true)).length))])) rfl) nofun rfl rfl (Nat.le_of_ble_eq_true rfl) if115 sz115 (ball_cons rfl (ball_cons rfl (ball_nil))) rfl) ?_
  refine VRunO.nil ?_
  refine vthn.n ?_
  refine VRun.seq ?_
  refine VRun.region ?_
  refine VRunO.free VWant.always (OF.fieldAddrO (VEv.tmp (t := (T.op 0 0)) rfl) fa109_3) ?_
  refine VRunO.look VWant.always (OL.loadO1 (t := (T.int .i64 a.Tick)) (VEv.tmp (t := (T.op 0 4)) rfl) rfl rfl st3) ?_
  refine VRunO.free VWant.always (OF.fieldAddrO (VEv.tmp (t := (T.op 2 0)) rfl) fa117_3) ?_
  refine VRunO.chain VWant.always (B.storeO (us := [(T.int .i64 a.Tick)]) (ws := [(T.int .i64 a.Issue), (T.int .i64 a.Slot), (T.int .i64 a.Clue.Sense), (T.os 4 3 0 ((a.Clue.Play.map (eStep true)).length)), (T.int .i64 a.Tick)]) (VEv.tmp (t := (T.op 2 4)) rfl) (VEv.tmp (t := (T.int .i64 a.Tick)) rfl) nofun rfl rfl (Nat.le_of_ble_eq_true rfl) if3 sz3 (ball_cons rfl (ball_nil)) rfl) ?_
  refine VRunO.nil ?_
  refine vthn.n ?_
  refine VRun.seq ?_
  refine VRun.region ?_
  refine VRunO.look VWant.always (OL.loadOn (us := [(T.int .i64 a.Issue), (T.int .i64 a.Slot), (T.int .i64 a.Clue.Sense), (T.os 4 3 0 ((a.Clue.Play.map (eStep true)).length)), (T.int .i64 a.Tick)]) (VEv.tmp (t := (T.op 2 0)) rfl) rfl st117 sz117 (Nat.le_of_ble_eq_true rfl) rfl) ?_
  refine VRunO.chain VWant.always (B.storeO (us := [(T.int .i64 a.Issue), (T.int .i64 a.Slot), (T.int .i64 a.Clue.Sense), (T.os 4 3 0 ((a.Clue.Play.map (eStep true)).length)), (T.int .i64 a.Tick)]) (ws := [(T.int .i64 a.Issue), (T.int .i64 a.Slot), (T.int .i64 a.Clue.Sense), (T.os 4 3 0 ((a.Clue.Play.map (eStep true)).length)), (T.int .i64 a.Tick)]) (VEv.tmp (t := (T.op 1 0)) rfl) (VEv.tmp (t := (T.agg [(T.int .i64 a.Issue), (T.int .i64 a.Slot), (T.int .i64 a.Clue.Sense), (T.os 4 3 0 ((a.Clue.Play.map (eStep true)).length)), (T.int .i64 a.Tick)])) rfl) nofun rfl rfl (Nat.le_of_ble_eq_true rfl) if117 sz117 (ball_cons rfl (ball_cons rfl (ball_cons rfl (ball_cons rfl (ball_cons rfl (ball_nil)))))) rfl) ?_
  refine VRunO.nil ?_
  refine vthn.n ?_
  refine VRun.ret ?_
  refine vfin.eq (r' := (T.agg [(T.int .i64 a.Issue), (T.int .i64 a.Slot), (T.int .i64 a.Clue.Sense), (T.sl true 4 (a.Clue.Play.map (eStep true))), (T.int .i64 a.Tick)])) ?_ (vfin.r (VRes.celln (ws := [(T.int .i64 a.Issue), (T.int .i64 a.Slot), (T.int .i64 a.Clue.Sense), (T.os 4 3 0 ((a.Clue.Play.map (eStep true)).length)), (T.int .i64 a.Tick)]) rfl rfl st117 sz117 (Nat.le_of_ble_eq_true rfl) rfl VRes.nil) (Give.agg (GiveL.cons (Give.int _ _) (GiveL.cons (Give.int _ _) (GiveL.cons (Give.int _ _) (GiveL.cons (Give.os rfl rfl (okeStep.cleanMap _)) (GiveL.cons (Give.int _ _) GiveL.nil (by decide)) (by decide)) (by decide)) (by decide)) (by decide))))
  show (T.agg [(T.int .i64 a.Issue), (T.int .i64 a.Slot), (T.int .i64 a.Clue.Sense), (T.sl true 4 (a.Clue.Play.map (eStep true))), (T.int .i64 a.Tick)]) = (T.agg (eCorrection true a))
  first | rfl | (exact decN (by omega)) | (symm; rw [decide_eq_false_iff_not]; omega) | (symm; rw [decide_eq_true_eq]; omega) | (simp_all; done)
theorem W_laws_toCorrectionS (n : Nat) (a : List D.Correction) (ha : zL zCorrection a ≤ mx) : Pure (acall Try.prog (n + 5)) 46 [(T.sl false 5 (a.map (eCorrection false)))] (T.sl true 5 (a.map (eCorrection true))) := by
  refine Pure.intro (rs := [ResultVar.tmp 2]) Try.func46 rfl rfl rfl (E0 := [(0, (T.sl false 5 (a.map (eCorrection false))))]) rfl ?_
  have hlim : lim = 1099511627776 := rfl
  have hmx : mx = 1048576 := rfl
  have hmax : maxLen = 9223372036854775807 := rfl
  have hla := zL_len (z := zCorrection) a
  refine VRun.seq ?_
  refine VRun.region ?_
  refine VRunO.free VWant.always (OF.assign VEv.nils) ?_
  refine VRunO.nil ?_
  refine vthn.n ?_
  refine VRun.seq ?_
  refine VRun.region ?_
  refine VRunO.free VWant.always (OF.move (VEv.tmp (t := (T.sl false 5 (a.map (eCorrection false)))) rfl)) ?_
  refine VRunO.look VWant.always (B.lenR (m := a.length) (VEv.tmp (t := (T.sl false 5 (a.map (eCorrection false)))) rfl) Try.underlying65 (List.length_map ..)) ?_
  refine VRunO.make VWant.always (B.makeZ (n := a.length) (m := ((List.replicate a.length (D.Correction.mk 0 0 (D.Clue.mk 0 []) 0)).map (eCorrection true)).length) (rows := ((List.replicate a.length (D.Correction.mk 0 0 (D.Clue.mk 0 []) 0)).map (eCorrection true))) (zr := (eCorrection true (D.Correction.mk 0 0 (D.Clue.mk 0 []) 0))) (VEv.tmp (t := (T.int .i64 ((a.length : Nat) : Int))) rfl) (VEv.tmp (t := (T.int .i64 ((a.length : Nat) : Int))) rfl) rfl Try.underlying68 zo117 zc117 rfl (by rw [sz117]; decide) (by first | exact Nat.le_trans (zL_at hx1) ha | omega | (simp only [List.length_map]; omega) | (simp only [List.length_map, List.length_append, List.length_cons, List.length_nil, List.length_replicate, List.length_set, List.length_drop, List.length_take, lim] at *; omega)) (of_decide_eq_true (by kernel_rfl)) (Z0.int (Z0.int (Z0.int (Z0.sl (Z0.int Z0.nil))))) sz117 (List.map_replicate ..).symm (by rw [List.length_map, List.length_replicate])) ?_
  refine VRunO.free VWant.always (OF.assign (VEv.tmp (t := (T.os 5 0 0 (((List.replicate a.length (D.Correction.mk 0 0 (D.Clue.mk 0 []) 0)).map (eCorrection true)).length))) rfl)) ?_
  refine VRunO.nil ?_
  refine vthn.n ?_
  refine VRun.seq ?_
  refine VRun.seq ?_
  refine VRun.region ?_
  refine VRunO.free VWant.always (OF.assign (VEv.int .i64 0)) ?_
  refine VRunO.nil ?_
  refine vthn.n ?_
  refine VRun.block ?_
  have he1 : (List.replicate a.length (D.Correction.mk 0 0 (D.Clue.mk 0 []) 0)) = (a.take 0 ++ List.replicate (a.length - 0) (D.Correction.mk 0 0 (D.Clue.mk 0 []) 0)) := by first | rfl | (exact fill_next hx1) | (simp; done) | omega
  refine VRun.loop (A := Nat) (fun s_ => [(0, (T.sl false 5 (a.map (eCorrection false)))), (2, T.nils), (3, (T.os 5 0 0 (((a.take s_ ++ List.replicate (a.length - s_) (D.Correction.mk 0 0 (D.Clue.mk 0 []) 0)).map (eCorrection true)).length))), (4, (T.int .i64 ((s_ : Nat) : Int)))]) (fun s_ => mkO [(0, (Obj.rows 5 ((a.take s_ ++ List.replicate (a.length - s_) (D.Correction.mk 0 0 (D.Clue.mk 0 []) 0)).map (eCorrection true))))]) 1 (fun s_ => s_ ≤ a.length) (fun s_ => a.length - s_) (0 : Nat) ?_ (Wk.mk (fun k => k) ?_ ?_ ?_) ?_
  · first | trivial | (simp; done) | omega | (constructor <;> simp)
  · exact (ball_cons ⟨rfl, rfl⟩ (ball_cons ⟨rfl, rfl⟩ (ball_cons ⟨(congrArg (fun l_ => T.os 5 0 0 (List.map (eCorrection true) l_).length) he1), rfl⟩ (ball_cons ⟨(congrArg (T.int .i64) (show 0 = ((0 : Nat) : Int) from (by first | rfl | omega | (simp; done) | (push_cast; omega)))), rfl⟩ (ball_nil)))))
  · exact (ball_cons ⟨(congrArg (fun l_ => some (Obj.rows 5 (List.map (eCorrection true) l_))) he1), (Nat.le_of_ble_eq_true rfl), rfl⟩ (ball_nil))
  · show List.Nodup ([0] : List Nat)
    decide
  · rintro i hI
    have hI' : i ≤ a.length := hI
    clear hI
    show VRun _ _ _ [(0, (T.sl false 5 (a.map (eCorrection false)))), (2, T.nils), (3, (T.os 5 0 0 (((a.take i ++ List.replicate (a.length - i) (D.Correction.mk 0 0 (D.Clue.mk 0 []) 0)).map (eCorrection true)).length))), (4, (T.int .i64 ((i : Nat) : Int)))] (mkO [(0, (Obj.rows 5 ((a.take i ++ List.replicate (a.length - i) (D.Correction.mk 0 0 (D.Clue.mk 0 []) 0)).map (eCorrection true))))]) 1 _
    have hfl := fill_at (w := (D.Correction.mk 0 0 (D.Clue.mk 0 []) 0)) hI'
    refine VRun.seq ?_
    refine VRun.seq ?_
    refine VRun.region ?_
    refine VRunO.free VWant.always (OF.move (VEv.tmp (t := (T.int .i64 ((i : Nat) : Int))) rfl)) ?_
    refine VRunO.free VWant.always (OF.move (VEv.tmp (t := (T.sl false 5 (a.map (eCorrection false)))) rfl)) ?_
    refine VRunO.look VWant.always (B.lenR (m := a.length) (VEv.tmp (t := (T.sl false 5 (a.map (eCorrection false)))) rfl) Try.underlying65 (List.length_map ..)) ?_
    refine VRunO.free VWant.always (B.lss (c := (decide (i < a.length))) (VEv.tmp (t := (T.int .i64 ((i : Nat) : Int))) rfl) (VEv.tmp (t := (T.int .i64 ((a.length : Nat) : Int))) rfl) (by first | exact Nat.le_trans (zL_at hx1) ha | (exact decN (by omega)))) ?_
    refine VRunO.nil ?_
    refine vthn.n ?_
    refine VRun.cond (VEv.tmp (t := (T.bool (decide (i < a.length)))) rfl) (fun hc0 => ?_) (fun hc0 => ?_)
    · have fhc0 : i < a.length := of_decide_eq_true hc0
      refine VRun.skip ?_
      refine vthn.n ?_
      refine VRun.seq ?_
      refine VRun.block ?_
      refine VRun.region ?_
      refine VRunO.free VWant.always (OF.move (VEv.tmp (t := (T.os 5 0 0 (((a.take i ++ List.replicate (a.length - i) (D.Correction.mk 0 0 (D.Clue.mk 0 []) 0)).map (eCorrection true)).length))) rfl)) ?_
      refine VRunO.free VWant.always (OF.move (VEv.tmp (t := (T.int .i64 ((i : Nat) : Int))) rfl)) ?_
      refine VRunO.free VWant.always (OF.move (VEv.tmp (t := (T.sl false 5 (a.map (eCorrection false)))) rfl)) ?_
      refine VRunO.free VWant.always (OF.move (VEv.tmp (t := (T.int .i64 ((i : Nat) : Int))) rfl)) ?_
      obtain ⟨x1, hx1⟩ : ∃ x, a[i]? = some x := ⟨_, List.getElem?_eq_getElem (by first | exact Nat.le_trans (zL_at hx1) ha | omega | (simp only [List.length_map]; omega) | (simp only [List.length_map, List.length_append, List.length_cons, List.length_nil, List.length_replicate, List.length_set, List.length_drop, List.length_take, lim] at *; omega))⟩
      refine VRunO.free VWant.always (OF.indexAddrR (row := (eCorrection false x1)) (i := i) (VEv.tmp (t := (T.sl false 5 (a.map (eCorrection false)))) rfl) (VEv.tmp (t := (T.int .i64 ((i : Nat) : Int))) rfl) rfl (map_at _ hx1) Try.underlying65 sz109 if109) ?_
      refine VRunO.look VWant.always (OL.loadRn (us := (eCorrection false x1)) (VEv.tmp (t := (T.rp [(T.int .i64 x1.Issue), (T.int .i64 x1.Slot), (T.int .i64 x1.Clue.Sense), (T.sl false 4 (x1.Clue.Play.map (eStep false))), (T.int .i64 x1.Tick)])) rfl) st109 sz109 (Nat.le_of_ble_eq_true rfl) rfl) ?_
      refine VRunO.chain VWant.always (OC.callF (us := [(T.agg (eCorrection false x1))]) (r := (T.agg (eCorrection true x1))) (r' := (T.agg [(T.int .i64 x1.Issue), (T.int .i64 x1.Slot), (T.int .i64 x1.Clue.Sense), (T.os 4 1 0 ((x1.Clue.Play.map (eStep true)).length)), (T.int .i64 x1.Tick)])) (objs := [(Obj.rows 4 (x1.Clue.Play.map (eStep true)))]) rfl (VEvs.cons (VEv.tmp (t := (T.agg (eCorrection false x1))) rfl) VEvs.nil) (LendL.cons (Lend.agg (LendL.cons (Lend.pl rfl) (LendL.cons (Lend.pl rfl) (LendL.cons (Lend.pl rfl) (LendL.cons (Lend.pl rfl) (LendL.cons (Lend.pl rfl) (LendL.nil))))))) (LendL.nil)) (W_laws_toCorrection (n + 0) x1 (by first | exact Nat.le_trans (zL_at hx1) ha | assumption | omega | (simp only [List.length_map]; omega) | (simp only [List.length_map, List.length_append, List.length_cons, List.length_nil, List.length_replicate, List.length_set, List.length_drop, List.length_take, lim] at *; omega))) rfl) ?_
      obtain ⟨x2, hx2⟩ : ∃ x, (a.take i ++ List.replicate (a.length - i) (D.Correction.mk 0 0 (D.Clue.mk 0 []) 0))[i]? = some x := ⟨_, List.getElem?_eq_getElem (by first | exact Nat.le_trans (zL_at hx1) ha | omega | (simp only [List.length_map]; omega) | (simp only [List.length_map, List.length_append, List.length_cons, List.length_nil, List.length_replicate, List.length_set, List.length_drop, List.length_take, lim] at *; omega))⟩
      refine VRunO.free VWant.always (B.indexAddrO (i := i) (VEv.tmp (t := (T.os 5 0 0 (((a.take i ++ List.replicate (a.length - i) (D.Correction.mk 0 0 (D.Clue.mk 0 []) 0)).map (eCorrection true)).length))) rfl) (VEv.tmp (t := (T.int .i64 ((i : Nat) : Int))) rfl) rfl (by first | exact Nat.le_trans (zL_at hx1) ha | omega | (simp only [List.length_map]; omega) | (simp only [List.length_map, List.length_append, List.length_cons, List.length_nil, List.length_replicate, List.length_set, List.length_drop, List.length_take, lim] at *; omega)) Try.underlying68 sz117 if117) ?_
      refine VRunO.chain VWant.always (B.storeB (us := [(T.int .i64 x1.Issue), (T.int .i64 x1.Slot), (T.int .i64 x1.Clue.Sense), (T.os 4 1 0 ((x1.Clue.Play.map (eStep true)).length)), (T.int .i64 x1.Tick)]) (ws := [(T.int .i64 x1.Issue), (T.int .i64 x1.Slot), (T.int .i64 x1.Clue.Sense), (T.sl true 4 (x1.Clue.Play.map (eStep true))), (T.int .i64 x1.Tick)]) (rows' := (((a.take i ++ List.replicate (a.length - i) (D.Correction.mk 0 0 (D.Clue.mk 0 []) 0)).set i x1).map (eCorrection true))) (row := (eCorrection true x2)) (VEv.tmp (t := (T.orp 5 0 i 0)) rfl) (VEv.tmp (t := (T.agg [(T.int .i64 x1.Issue), (T.int .i64 x1.Slot), (T.int .i64 x1.Clue.Sense), (T.os 4 1 0 ((x1.Clue.Play.map (eStep true)).length)), (T.int .i64 x1.Tick)])) rfl) nofun rfl (map_at _ hx2) rfl (Nat.le_of_ble_eq_true rfl) if117 sz117 (ball_cons rfl (ball_cons rfl (ball_cons rfl (ball_cons rfl (ball_cons rfl (ball_nil)))))) (Bury.pl rfl (Bury.pl rfl (Bury.pl rfl (Bury.os rfl rfl (Bury.pl rfl Bury.nil) (by decide))))) rfl (by decide) (set_mapE rfl)) ?_
      refine VRunO.nil ?_
      refine vinB.n ?_
      refine vthn.n ?_
      refine VRun.region ?_
      refine VRunO.free VWant.always (OF.move (VEv.tmp (t := (T.int .i64 ((i : Nat) : Int))) rfl)) ?_
      refine VRunO.free VWant.always (B.add (n := (((i + 1) : Nat) : Int)) (VEv.tmp (t := (T.int .i64 ((i : Nat) : Int))) rfl) (VEv.int .i64 1) (by first | exact Nat.le_trans (zL_at hx1) ha | rfl | (rw [wrap64 (by omega)]; done) | (rw [wrap64 (by omega)]; omega) | (rw [wrap64 (by omega)]; push_cast; omega) | omega)) ?_
      refine VRunO.free VWant.always (OF.assign (VEv.tmp (t := (T.int .i64 (((i + 1) : Nat) : Int))) rfl)) ?_
      refine VRunO.nil ?_
      refine vthn.n ?_
      have he2 : ((a.take i ++ List.replicate (a.length - i) (D.Correction.mk 0 0 (D.Clue.mk 0 []) 0)).set i x1) = (a.take (i + 1) ++ List.replicate (a.length - (i + 1)) (D.Correction.mk 0 0 (D.Clue.mk 0 []) 0)) := by first | rfl | (exact fill_next hx1) | (simp; done) | omega
      refine ⟨(i + 1 : Nat), ?_, ?_, Wk.mk (fun k => k) ?_ ?_ ?_⟩
      · first | trivial | omega | (simp; done) | exact ⟨by omega, hI'.2⟩
      · first | omega | (simp only []; omega) | (show _ < _; omega) | (simp; omega)
      · exact (ball_cons ⟨rfl, rfl⟩ (ball_cons ⟨rfl, rfl⟩ (ball_cons ⟨(congrArg (fun n_ => T.os 5 0 0 n_) (show ((a.take i ++ List.replicate (a.length - i) (D.Correction.mk 0 0 (D.Clue.mk 0 []) 0)).map (eCorrection true)).length = ((a.take (i + 1) ++ List.replicate (a.length - (i + 1)) (D.Correction.mk 0 0 (D.Clue.mk 0 []) 0)).map (eCorrection true)).length from (by first | rfl | (simp only [List.length_map]; omega) | (simp only [List.length_map, List.length_set, List.length_append, List.length_take, List.length_replicate, List.length_cons, List.length_nil]; omega)))), rfl⟩ (ball_cons ⟨rfl, rfl⟩ (ball_nil)))))
      · exact (ball_cons ⟨(congrArg (fun l_ => some (Obj.rows 5 (List.map (eCorrection true) l_))) he2), (Nat.le_of_ble_eq_true rfl), rfl⟩ (ball_nil))
      · show List.Nodup ([0] : List Nat)
        decide
    · have fhc0 : ¬ (i < a.length) := of_decide_eq_false hc0
      refine VRun.exit ?_
      refine vthn.e ?_
      refine vthn.e ?_
      refine vinB.e ?_
      refine vthn.n ?_
      refine VRun.seq ?_
      refine VRun.region ?_
      refine VRunO.free VWant.always (OF.move (VEv.tmp (t := (T.os 5 0 0 (((a.take i ++ List.replicate (a.length - i) (D.Correction.mk 0 0 (D.Clue.mk 0 []) 0)).map (eCorrection true)).length))) rfl)) ?_
      refine VRunO.free VWant.always (OF.assign (VEv.tmp (t := (T.os 5 0 0 (((a.take i ++ List.replicate (a.length - i) (D.Correction.mk 0 0 (D.Clue.mk 0 []) 0)).map (eCorrection true)).length))) rfl)) ?_
      refine VRunO.nil ?_
      refine vthn.n ?_
      refine VRun.ret ?_
      refine vfin.eq (r' := (T.sl true 5 ((a.take i ++ List.replicate (a.length - i) (D.Correction.mk 0 0 (D.Clue.mk 0 []) 0)).map (eCorrection true)))) ?_ (vfin.r (VRes.tmp (t := (T.os 5 0 0 (((a.take i ++ List.replicate (a.length - i) (D.Correction.mk 0 0 (D.Clue.mk 0 []) 0)).map (eCorrection true)).length))) rfl VRes.nil) (Give.os rfl rfl (okeCorrection.cleanMap _)))
      show (T.sl true 5 ((a.take i ++ List.replicate (a.length - i) (D.Correction.mk 0 0 (D.Clue.mk 0 []) 0)).map (eCorrection true))) = (T.sl true 5 (a.map (eCorrection true)))
      refine congrArg (fun l_ => T.sl true 5 (List.map (eCorrection true) l_)) ?_
      exact fill_done fhc0
end Go.Proofs.Ythdnjihmjdbdkaa.AE
