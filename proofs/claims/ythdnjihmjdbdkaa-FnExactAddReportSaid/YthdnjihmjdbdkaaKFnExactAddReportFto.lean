/- Walks of the program's functions over trees. Conditions: as each theorem states. -/
import Derived.Test.YthdnjihmjdbdkaaKFnExactAddReportFsz
namespace Go.Proofs.Ythdnjihmjdbdkaa.AE
open Go Go.RowKit
set_option linter.unusedVariables false
set_option linter.unusedSimpArgs false
set_option maxRecDepth 20000
set_option maxHeartbeats 2000000

theorem W_laws_toReport (n : Nat) (a : D.Report)  : Pure (acall Try.prog (n + 1)) 35 [(T.agg (eReport false a))] (T.agg (eReport true a)) := by
  refine Pure.intro (rs := [ResultVar.cell 2 48]) Try.func35 rfl rfl rfl (E0 := [(0, (T.agg (eReport false a)))]) rfl ?_
  have hlim : lim = 1099511627776 := rfl
  have hmx : mx = 1048576 := rfl
  have hmax : maxLen = 9223372036854775807 := rfl
  refine sr ?_
  refine kO (B.box (ts := (eReport false a)) (tv (T.agg (eReport false a)) rfl) nofun rfl) ?_
  refine kO (B.alloc (t := (T.agg [(tN 0), (tN 0), (tN 0), (tS ByteArray.empty)])) (ts := [(tN 0), (tN 0), (tN 0), (tS ByteArray.empty)]) zo48 zc48 nofun (fun _ => .agg _ _ rfl (RLof (RL.cons (.int _ _) (RL.cons (.int _ _) (RL.cons (.int _ _) (RL.cons (.str _) (RL.nil _))))))) rfl) ?_
  refine nt ?_
  refine sr ?_
  refine kO (B.alloc (t := (T.agg [(tN 0), (tN 0), (tN 0), (tS ByteArray.empty)])) (ts := [(tN 0), (tN 0), (tN 0), (tS ByteArray.empty)]) zo48 zc48 nofun (fun _ => .agg _ _ rfl (RLof (RL.cons (.int _ _) (RL.cons (.int _ _) (RL.cons (.int _ _) (RL.cons (.str _) (RL.nil _))))))) rfl) ?_
  refine nt ?_
  refine sr ?_
  refine fO (OF.fieldAddrO (tv (T.op 0 0) rfl) fa44_0) ?_
  refine lO (OL.loadO1 (t := (tI a.Tester)) (tv (T.op 0 0) rfl) rfl rfl st3) ?_
  refine fO (OF.fieldAddrO (tv (T.op 2 0) rfl) fa48_0) ?_
  refine cO (B.storeO (us := [(tI a.Tester)]) (ws := [(tI a.Tester), (tN 0), (tN 0), (tS ByteArray.empty)]) (tv (T.op 2 0) rfl) (tv (tI a.Tester) rfl) nofun rfl rfl (Nat.le_of_ble_eq_true rfl) if3 sz3 (ball_cons rfl (ball_nil)) rfl) ?_
  refine nt ?_
  refine sr ?_
  refine fO (OF.fieldAddrO (tv (T.op 0 0) rfl) fa44_1) ?_
  refine lO (OL.loadO1 (t := (tI a.Slot)) (tv (T.op 0 1) rfl) rfl rfl st3) ?_
  refine fO (OF.fieldAddrO (tv (T.op 2 0) rfl) fa48_1) ?_
  refine cO (B.storeO (us := [(tI a.Slot)]) (ws := [(tI a.Tester), (tI a.Slot), (tN 0), (tS ByteArray.empty)]) (tv (T.op 2 1) rfl) (tv (tI a.Slot) rfl) nofun rfl rfl (Nat.le_of_ble_eq_true rfl) if3 sz3 (ball_cons rfl (ball_nil)) rfl) ?_
  refine nt ?_
  refine sr ?_
  refine fO (OF.fieldAddrO (tv (T.op 0 0) rfl) fa44_2) ?_
  refine lO (OL.loadO1 (t := (tI a.Kind)) (tv (T.op 0 2) rfl) rfl rfl st3) ?_
  refine fO (OF.fieldAddrO (tv (T.op 2 0) rfl) fa48_2) ?_
  refine cO (B.storeO (us := [(tI a.Kind)]) (ws := [(tI a.Tester), (tI a.Slot), (tI a.Kind), (tS ByteArray.empty)]) (tv (T.op 2 2) rfl) (tv (tI a.Kind) rfl) nofun rfl rfl (Nat.le_of_ble_eq_true rfl) if3 sz3 (ball_cons rfl (ball_nil)) rfl) ?_
  refine nt ?_
  refine sr ?_
  refine fO (OF.fieldAddrO (tv (T.op 0 0) rfl) fa44_3) ?_
  refine lO (OL.loadO1 (t := (tS a.Word)) (tv (T.op 0 3) rfl) rfl rfl st9) ?_
  refine fO (OF.fieldAddrO (tv (T.op 2 0) rfl) fa48_3) ?_
  refine cO (B.storeO (us := [(tS a.Word)]) (ws := [(tI a.Tester), (tI a.Slot), (tI a.Kind), (tS a.Word)]) (tv (T.op 2 3) rfl) (tv (tS a.Word) rfl) nofun rfl rfl (Nat.le_of_ble_eq_true rfl) if9 sz9 (ball_cons rfl (ball_nil)) rfl) ?_
  refine nt ?_
  refine sr ?_
  refine lO (OL.loadOn (us := (eReport false a)) (tv (T.op 2 0) rfl) rfl st48 sz48 (Nat.le_of_ble_eq_true rfl) rfl) ?_
  refine cO (B.storeO (us := (eReport false a)) (ws := (eReport false a)) (tv (T.op 1 0) rfl) (tv (T.agg (eReport false a)) rfl) nofun rfl rfl (Nat.le_of_ble_eq_true rfl) if48 sz48 (ball_cons rfl (ball_cons rfl (ball_cons rfl (ball_cons rfl (ball_nil))))) rfl) ?_
  refine nt ?_
  refine rt ?_
  refine vfin.eq (r' := (T.agg (eReport false a))) ?_ (vfin.r (VRes.celln (ws := (eReport false a)) rfl rfl st48 sz48 (Nat.le_of_ble_eq_true rfl) rfl VRes.nil) (Give.agg (GiveL.cons (Give.int _ _) (GiveL.cons (Give.int _ _) (GiveL.cons (Give.int _ _) (GiveL.cons (Give.str _) GiveL.nil (by decide)) (by decide)) (by decide)) (by decide))))
  show (T.agg (eReport false a)) = (T.agg (eReport true a))
  first | rfl | (exact decN (by omega)) | (symm; rw [decide_eq_false_iff_not]; omega) | (symm; rw [decide_eq_true_eq]; omega) | (simp_all; done)
theorem W_laws_toReportS (n : Nat) (a : List D.Report) (ha : a.length ≤ mx) : Pure (acall Try.prog (n + 2)) 22 [(rd 4 eReport a)] (T.sl true 4 (a.map (eReport true))) := by
  refine Pure.intro (rs := [ResultVar.tmp 2]) Try.func22 rfl rfl rfl (E0 := [(0, (rd 4 eReport a))]) rfl ?_
  have hlim : lim = 1099511627776 := rfl
  have hmx : mx = 1048576 := rfl
  have hmax : maxLen = 9223372036854775807 := rfl
  refine sr ?_
  refine fO (OF.assign VEv.nils) ?_
  refine nt ?_
  refine sr ?_
  refine mO (rd 4 eReport a) rfl ?_
  refine lO (B.lenR (m := a.length) (tv (rd 4 eReport a) rfl) Try.underlying29 (List.length_map ..)) ?_
  refine kO (B.makeZ (n := a.length) (m := ((List.replicate a.length (D.Report.mk 0 0 0 ByteArray.empty)).map (eReport true)).length) (rows := ((List.replicate a.length (D.Report.mk 0 0 0 ByteArray.empty)).map (eReport true))) (zr := (eReport true (D.Report.mk 0 0 0 ByteArray.empty))) (tv (tN a.length) rfl) (tv (tN a.length) rfl) rfl Try.underlying32 zo48 zc48 rfl (by rw [sz48]; decide) (by first | omega | (simp only [List.length_map]; omega) | (simp only [List.length_map, List.length_append, List.length_cons, List.length_nil, List.length_replicate, List.length_set, List.length_drop, List.length_take, lim] at *; omega)) (of_decide_eq_true (by kernel_rfl)) (Z0.int (Z0.int (Z0.int (Z0.str Z0.nil)))) sz48 (List.map_replicate ..).symm (by rw [List.length_map, List.length_replicate])) ?_
  refine aO (T.os 4 0 0 (((List.replicate a.length (D.Report.mk 0 0 0 ByteArray.empty)).map (eReport true)).length)) rfl ?_
  refine nt ?_
  refine sq ?_
  refine sr ?_
  refine fO (OF.assign (VEv.int .i64 0)) ?_
  refine nt ?_
  refine VRun.block ?_
  have he1 : (List.replicate a.length (D.Report.mk 0 0 0 ByteArray.empty)) = (a.take 0 ++ List.replicate (a.length - 0) (D.Report.mk 0 0 0 ByteArray.empty)) := by first | rfl | (exact fill_next hx1) | (simp; done) | omega
  refine VRun.loop (A := Nat) (fun s_ => [(0, (rd 4 eReport a)), (2, T.nils), (3, (T.os 4 0 0 (((a.take s_ ++ List.replicate (a.length - s_) (D.Report.mk 0 0 0 ByteArray.empty)).map (eReport true)).length))), (4, (tN s_))]) (fun s_ => mkO [(0, (Obj.rows 4 ((a.take s_ ++ List.replicate (a.length - s_) (D.Report.mk 0 0 0 ByteArray.empty)).map (eReport true))))]) 1 (fun s_ => s_ ≤ a.length) (fun s_ => a.length - s_) (0 : Nat) ?_ (Wk.mk (fun k => k) ?_ ?_ ?_) ?_
  · first | trivial | (simp; done) | omega | (constructor <;> simp)
  · exact (ball_cons ⟨rfl, rfl⟩ (ball_cons ⟨rfl, rfl⟩ (ball_cons ⟨(congrArg (fun l_ => T.os 4 0 0 (List.map (eReport true) l_).length) he1), rfl⟩ (ball_cons ⟨rfl, rfl⟩ (ball_nil)))))
  · exact (ball_cons ⟨(congrArg (fun l_ => some (Obj.rows 4 (List.map (eReport true) l_))) he1), (Nat.le_of_ble_eq_true rfl), rfl⟩ (ball_nil))
  · show List.Nodup ([0] : List Nat)
    decide
  rintro i hI
  have hI' : i ≤ a.length := hI
  clear hI
  show VRun _ _ _ [(0, (rd 4 eReport a)), (2, T.nils), (3, (T.os 4 0 0 (((a.take i ++ List.replicate (a.length - i) (D.Report.mk 0 0 0 ByteArray.empty)).map (eReport true)).length))), (4, (tN i))] (mkO [(0, (Obj.rows 4 ((a.take i ++ List.replicate (a.length - i) (D.Report.mk 0 0 0 ByteArray.empty)).map (eReport true))))]) 1 _
  have hfl := fill_at (w := (D.Report.mk 0 0 0 ByteArray.empty)) hI'
  refine sq ?_
  refine sr ?_
  refine mO (tN i) rfl ?_
  refine mO (rd 4 eReport a) rfl ?_
  refine lO (B.lenR (m := a.length) (tv (rd 4 eReport a) rfl) Try.underlying29 (List.length_map ..)) ?_
  refine fO (B.lss (c := (decide (i < a.length))) (tv (tN i) rfl) (tv (tN a.length) rfl) (by first | (exact decN (by omega)))) ?_
  refine nt ?_
  refine VRun.cond (tv (tB (decide (i < a.length))) rfl) (fun hc0 => ?_) (fun hc0 => ?_)
  · have fhc0 : i < a.length := of_decide_eq_true hc0
    refine sk ?_
    refine tn ?_
    refine sq ?_
    refine VRun.block ?_
    refine VRun.region ?_
    refine mO (T.os 4 0 0 (((a.take i ++ List.replicate (a.length - i) (D.Report.mk 0 0 0 ByteArray.empty)).map (eReport true)).length)) rfl ?_
    refine mO (tN i) rfl ?_
    refine mO (rd 4 eReport a) rfl ?_
    refine mO (tN i) rfl ?_
    obtain ⟨x1, hx1⟩ : ∃ x, a[i]? = some x := ⟨_, List.getElem?_eq_getElem (by first | omega)⟩
    refine fO (OF.indexAddrR (row := (eReport false x1)) (i := i) (tv (rd 4 eReport a) rfl) (tv (tN i) rfl) rfl (map_at _ hx1) Try.underlying29 sz44 if44) ?_
    refine lO (OL.loadRn (us := (eReport false x1)) (tv (T.rp (eReport false x1)) rfl) st44 sz44 (Nat.le_of_ble_eq_true rfl) rfl) ?_
    refine cO (cS (vc (tv (T.agg (eReport false x1)) rfl) VEvs.nil) (LendL.cons (lg okeReport) (LendL.nil)) (W_laws_toReport (n + 0) x1 ) rfl rfl) ?_
    obtain ⟨x2, hx2⟩ : ∃ x, (a.take i ++ List.replicate (a.length - i) (D.Report.mk 0 0 0 ByteArray.empty))[i]? = some x := ⟨_, List.getElem?_eq_getElem (by first | omega | (simp only [List.length_map]; omega) | (simp only [List.length_map, List.length_append, List.length_cons, List.length_nil, List.length_replicate, List.length_set, List.length_drop, List.length_take, lim] at *; omega))⟩
    refine fO (B.indexAddrO (i := i) (tv (T.os 4 0 0 (((a.take i ++ List.replicate (a.length - i) (D.Report.mk 0 0 0 ByteArray.empty)).map (eReport true)).length)) rfl) (tv (tN i) rfl) rfl (by first | omega | (simp only [List.length_map]; omega) | (simp only [List.length_map, List.length_append, List.length_cons, List.length_nil, List.length_replicate, List.length_set, List.length_drop, List.length_take, lim] at *; omega)) Try.underlying32 sz48 if48) ?_
    refine cO (B.storeP (us := (eReport true x1)) (rows' := (((a.take i ++ List.replicate (a.length - i) (D.Report.mk 0 0 0 ByteArray.empty)).set i x1).map (eReport true))) (row := (eReport true x2)) (tv (T.orp 4 0 i 0) rfl) (tv (T.agg (eReport true x1)) rfl) nofun rfl (map_at _ hx2) rfl (Nat.le_of_ble_eq_true rfl) if48 sz48 (ball_cons rfl (ball_cons rfl (ball_cons rfl (ball_cons rfl (ball_nil))))) (by intro r hr t ht; obtain ⟨x, _, rfl⟩ := List.mem_map.1 hr; rw [flReport] at ht; exact isPl_flat (okeReport.pl _ t ht)) (set_mapE rfl)) ?_
    refine VRunO.nil ?_
    refine vinB.n ?_
    refine tn ?_
    refine VRun.region ?_
    refine mO (tN i) rfl ?_
    refine fO (B.add (n := (((i + 1) : Nat) : Int)) (tv (tN i) rfl) (VEv.int .i64 1) (by first | rfl | (rw [wrap64 (by omega)]; omega) | (rw [wrap64 (by omega)]; done))) ?_
    refine aO (tN (i + 1)) rfl ?_
    refine VRunO.nil ?_
    refine tn ?_
    have he2 : ((a.take i ++ List.replicate (a.length - i) (D.Report.mk 0 0 0 ByteArray.empty)).set i x1) = (a.take (i + 1) ++ List.replicate (a.length - (i + 1)) (D.Report.mk 0 0 0 ByteArray.empty)) := by first | rfl | (exact fill_next hx1) | (simp; done) | omega
    refine ⟨(i + 1 : Nat), ?_, ?_, Wk.mk (fun k => k) ?_ ?_ ?_⟩
    · first | trivial | omega | (simp; done) | exact ⟨by omega, hI'.2⟩
    · first | omega | (simp only []; omega) | (show _ < _; omega) | (simp; omega)
    · exact (ball_cons ⟨rfl, rfl⟩ (ball_cons ⟨rfl, rfl⟩ (ball_cons ⟨(congrArg (fun n_ => T.os 4 0 0 n_) (show ((a.take i ++ List.replicate (a.length - i) (D.Report.mk 0 0 0 ByteArray.empty)).map (eReport true)).length = ((a.take (i + 1) ++ List.replicate (a.length - (i + 1)) (D.Report.mk 0 0 0 ByteArray.empty)).map (eReport true)).length from (by first | rfl | (simp only [List.length_map]; omega) | (simp only [List.length_map, List.length_set, List.length_append, List.length_take, List.length_replicate, List.length_cons, List.length_nil]; omega)))), rfl⟩ (ball_cons ⟨rfl, rfl⟩ (ball_nil)))))
    · exact (ball_cons ⟨(congrArg (fun l_ => some (Obj.rows 4 (List.map (eReport true) l_))) he2), (Nat.le_of_ble_eq_true rfl), rfl⟩ (ball_nil))
    · show List.Nodup ([0] : List Nat)
      decide
  have fhc0 : ¬ (i < a.length) := of_decide_eq_false hc0
  refine VRun.exit ?_
  refine vthn.e ?_
  refine vthn.e ?_
  refine vinB.e ?_
  refine tn ?_
  refine sr ?_
  refine mO (T.os 4 0 0 (((a.take i ++ List.replicate (a.length - i) (D.Report.mk 0 0 0 ByteArray.empty)).map (eReport true)).length)) rfl ?_
  refine aO (T.os 4 0 0 (((a.take i ++ List.replicate (a.length - i) (D.Report.mk 0 0 0 ByteArray.empty)).map (eReport true)).length)) rfl ?_
  refine nt ?_
  refine rt ?_
  refine vfin.eq (r' := (T.sl true 4 ((a.take i ++ List.replicate (a.length - i) (D.Report.mk 0 0 0 ByteArray.empty)).map (eReport true)))) ?_ (vfin.r (VRes.tmp (t := (T.os 4 0 0 (((a.take i ++ List.replicate (a.length - i) (D.Report.mk 0 0 0 ByteArray.empty)).map (eReport true)).length))) rfl VRes.nil) (Give.os rfl rfl (okeReport.cleanMap _)))
  show (T.sl true 4 ((a.take i ++ List.replicate (a.length - i) (D.Report.mk 0 0 0 ByteArray.empty)).map (eReport true))) = (T.sl true 4 (a.map (eReport true)))
  refine congrArg (fun l_ => T.sl true 4 (List.map (eReport true) l_)) ?_
  exact fill_done fhc0
end Go.Proofs.Ythdnjihmjdbdkaa.AE
