/- Walks of the program's functions over trees. Conditions: as each theorem states. -/
import Derived.Test.YthdnjihmjdbdkaaKFnExactTooSoonFsz
namespace Go.Proofs.Ythdnjihmjdbdkaa.AE
open Go Go.RowKit
set_option linter.unusedVariables false
set_option linter.unusedSimpArgs false
set_option maxRecDepth 20000
set_option maxHeartbeats 2000000

theorem W_laws_toUsed (n : Nat) (a : D.Used)  : Pure (acall Try.prog (n + 1)) 82 [(T.agg (eUsed false a))] (T.agg (eUsed true a)) := by
  refine Pure.intro (rs := [ResultVar.cell 2 127]) Try.func82 rfl rfl rfl (E0 := [(0, (T.agg (eUsed false a)))]) rfl ?_
  have hlim : lim = 1099511627776 := rfl
  have hmx : mx = 1048576 := rfl
  have hmax : maxLen = 9223372036854775807 := rfl
  refine sr ?_
  refine kO (B.box (ts := (eUsed false a)) (tv (T.agg (eUsed false a)) rfl) nofun rfl) ?_
  refine kO (B.alloc (t := (T.agg [(tS ByteArray.empty), (tN 0)])) (ts := [(tS ByteArray.empty), (tN 0)]) zo127 zc127 nofun (fun _ => .agg _ _ rfl (RLof (RL.cons (.str _) (RL.cons (.int _ _) (RL.nil _))))) rfl) ?_
  refine nt ?_
  refine sr ?_
  refine kO (B.alloc (t := (T.agg [(tS ByteArray.empty), (tN 0)])) (ts := [(tS ByteArray.empty), (tN 0)]) zo127 zc127 nofun (fun _ => .agg _ _ rfl (RLof (RL.cons (.str _) (RL.cons (.int _ _) (RL.nil _))))) rfl) ?_
  refine nt ?_
  refine sr ?_
  refine fO (OF.fieldAddrO (tv (T.op 0 0) rfl) fa125_0) ?_
  refine lO (OL.loadO1 (t := (tS a.Word)) (tv (T.op 0 0) rfl) rfl rfl st9) ?_
  refine fO (OF.fieldAddrO (tv (T.op 2 0) rfl) fa127_0) ?_
  refine cO (B.storeO (us := [(tS a.Word)]) (ws := [(tS a.Word), (tN 0)]) (tv (T.op 2 0) rfl) (tv (tS a.Word) rfl) nofun rfl rfl (Nat.le_of_ble_eq_true rfl) if9 sz9 (ball_cons rfl (ball_nil)) rfl) ?_
  refine nt ?_
  refine sr ?_
  refine fO (OF.fieldAddrO (tv (T.op 0 0) rfl) fa125_1) ?_
  refine lO (OL.loadO1 (t := (tI a.Issue)) (tv (T.op 0 1) rfl) rfl rfl st3) ?_
  refine fO (OF.fieldAddrO (tv (T.op 2 0) rfl) fa127_1) ?_
  refine cO (B.storeO (us := [(tI a.Issue)]) (ws := [(tS a.Word), (tI a.Issue)]) (tv (T.op 2 1) rfl) (tv (tI a.Issue) rfl) nofun rfl rfl (Nat.le_of_ble_eq_true rfl) if3 sz3 (ball_cons rfl (ball_nil)) rfl) ?_
  refine nt ?_
  refine sr ?_
  refine lO (OL.loadOn (us := (eUsed false a)) (tv (T.op 2 0) rfl) rfl st127 sz127 (Nat.le_of_ble_eq_true rfl) rfl) ?_
  refine cO (B.storeO (us := (eUsed false a)) (ws := (eUsed false a)) (tv (T.op 1 0) rfl) (tv (T.agg (eUsed false a)) rfl) nofun rfl rfl (Nat.le_of_ble_eq_true rfl) if127 sz127 (ball_cons rfl (ball_cons rfl (ball_nil))) rfl) ?_
  refine nt ?_
  refine rt ?_
  refine vfin.eq (r' := (T.agg (eUsed false a))) ?_ (vfin.r (VRes.celln (ws := (eUsed false a)) rfl rfl st127 sz127 (Nat.le_of_ble_eq_true rfl) rfl VRes.nil) (Give.agg (GiveL.cons (Give.str _) (GiveL.cons (Give.int _ _) GiveL.nil (by decide)) (by decide))))
  show (T.agg (eUsed false a)) = (T.agg (eUsed true a))
  first | rfl | (exact decN (by omega)) | (symm; rw [decide_eq_false_iff_not]; omega) | (symm; rw [decide_eq_true_eq]; omega) | (simp_all; done)
theorem W_laws_toUsedS (n : Nat) (a : List D.Used) (ha : a.length ≤ mx) : Pure (acall Try.prog (n + 2)) 17 [(rd 2 eUsed a)] (T.sl true 2 (a.map (eUsed true))) := by
  refine Pure.intro (rs := [ResultVar.tmp 2]) Try.func17 rfl rfl rfl (E0 := [(0, (rd 2 eUsed a))]) rfl ?_
  have hlim : lim = 1099511627776 := rfl
  have hmx : mx = 1048576 := rfl
  have hmax : maxLen = 9223372036854775807 := rfl
  refine sr ?_
  refine fO (OF.assign VEv.nils) ?_
  refine nt ?_
  refine sr ?_
  refine mO (rd 2 eUsed a) rfl ?_
  refine lO (B.lenR (m := a.length) (tv (rd 2 eUsed a) rfl) Try.underlying22 (List.length_map ..)) ?_
  refine kO (B.makeZ (n := a.length) (m := ((List.replicate a.length (D.Used.mk ByteArray.empty 0)).map (eUsed true)).length) (rows := ((List.replicate a.length (D.Used.mk ByteArray.empty 0)).map (eUsed true))) (zr := (eUsed true (D.Used.mk ByteArray.empty 0))) (tv (tN a.length) rfl) (tv (tN a.length) rfl) rfl Try.underlying25 zo127 zc127 rfl (by rw [sz127]; decide) (by first | omega | (simp only [List.length_map]; omega) | (simp only [List.length_map, List.length_append, List.length_cons, List.length_nil, List.length_replicate, List.length_set, List.length_drop, List.length_take, lim] at *; omega)) (of_decide_eq_true (by kernel_rfl)) (Z0.str (Z0.int Z0.nil)) sz127 (List.map_replicate ..).symm (by rw [List.length_map, List.length_replicate])) ?_
  refine aO (T.os 2 0 0 (((List.replicate a.length (D.Used.mk ByteArray.empty 0)).map (eUsed true)).length)) rfl ?_
  refine nt ?_
  refine sq ?_
  refine sr ?_
  refine fO (OF.assign (VEv.int .i64 0)) ?_
  refine nt ?_
  refine VRun.block ?_
  have he1 : (List.replicate a.length (D.Used.mk ByteArray.empty 0)) = (a.take 0 ++ List.replicate (a.length - 0) (D.Used.mk ByteArray.empty 0)) := by first | rfl | (exact fill_next hx1) | (simp; done) | omega
  refine VRun.loop (A := Nat) (fun s_ => [(0, (rd 2 eUsed a)), (2, T.nils), (3, (T.os 2 0 0 (((a.take s_ ++ List.replicate (a.length - s_) (D.Used.mk ByteArray.empty 0)).map (eUsed true)).length))), (4, (tN s_))]) (fun s_ => mkO [(0, (Obj.rows 2 ((a.take s_ ++ List.replicate (a.length - s_) (D.Used.mk ByteArray.empty 0)).map (eUsed true))))]) 1 (fun s_ => s_ ≤ a.length) (fun s_ => a.length - s_) (0 : Nat) ?_ (Wk.mk (fun k => k) ?_ ?_ ?_) ?_
  · first | trivial | (simp; done) | omega | (constructor <;> simp)
  · exact (ball_cons ⟨rfl, rfl⟩ (ball_cons ⟨rfl, rfl⟩ (ball_cons ⟨(congrArg (fun l_ => T.os 2 0 0 (List.map (eUsed true) l_).length) he1), rfl⟩ (ball_cons ⟨rfl, rfl⟩ (ball_nil)))))
  · exact (ball_cons ⟨(congrArg (fun l_ => some (Obj.rows 2 (List.map (eUsed true) l_))) he1), (Nat.le_of_ble_eq_true rfl), rfl⟩ (ball_nil))
  · show List.Nodup ([0] : List Nat)
    decide
  rintro i hI
  have hI' : i ≤ a.length := hI
  clear hI
  show VRun _ _ _ [(0, (rd 2 eUsed a)), (2, T.nils), (3, (T.os 2 0 0 (((a.take i ++ List.replicate (a.length - i) (D.Used.mk ByteArray.empty 0)).map (eUsed true)).length))), (4, (tN i))] (mkO [(0, (Obj.rows 2 ((a.take i ++ List.replicate (a.length - i) (D.Used.mk ByteArray.empty 0)).map (eUsed true))))]) 1 _
  have hfl := fill_at (w := (D.Used.mk ByteArray.empty 0)) hI'
  refine sq ?_
  refine sr ?_
  refine mO (tN i) rfl ?_
  refine mO (rd 2 eUsed a) rfl ?_
  refine lO (B.lenR (m := a.length) (tv (rd 2 eUsed a) rfl) Try.underlying22 (List.length_map ..)) ?_
  refine fO (B.lss (c := (decide (i < a.length))) (tv (tN i) rfl) (tv (tN a.length) rfl) (by first | (exact decN (by omega)))) ?_
  refine nt ?_
  refine VRun.cond (tv (tB (decide (i < a.length))) rfl) (fun hc0 => ?_) (fun hc0 => ?_)
  · have fhc0 : i < a.length := of_decide_eq_true hc0
    refine sk ?_
    refine tn ?_
    refine sq ?_
    refine VRun.block ?_
    refine VRun.region ?_
    refine mO (T.os 2 0 0 (((a.take i ++ List.replicate (a.length - i) (D.Used.mk ByteArray.empty 0)).map (eUsed true)).length)) rfl ?_
    refine mO (tN i) rfl ?_
    refine mO (rd 2 eUsed a) rfl ?_
    refine mO (tN i) rfl ?_
    obtain ⟨x1, hx1⟩ : ∃ x, a[i]? = some x := ⟨_, List.getElem?_eq_getElem (by first | omega)⟩
    refine fO (OF.indexAddrR (row := (eUsed false x1)) (i := i) (tv (rd 2 eUsed a) rfl) (tv (tN i) rfl) rfl (map_at _ hx1) Try.underlying22 sz125 if125) ?_
    refine lO (OL.loadRn (us := (eUsed false x1)) (tv (T.rp (eUsed false x1)) rfl) st125 sz125 (Nat.le_of_ble_eq_true rfl) rfl) ?_
    refine cO (cS (vc (tv (T.agg (eUsed false x1)) rfl) VEvs.nil) (LendL.cons (lg okeUsed) (LendL.nil)) (W_laws_toUsed (n + 0) x1 ) rfl rfl) ?_
    obtain ⟨x2, hx2⟩ : ∃ x, (a.take i ++ List.replicate (a.length - i) (D.Used.mk ByteArray.empty 0))[i]? = some x := ⟨_, List.getElem?_eq_getElem (by first | omega | (simp only [List.length_map]; omega) | (simp only [List.length_map, List.length_append, List.length_cons, List.length_nil, List.length_replicate, List.length_set, List.length_drop, List.length_take, lim] at *; omega))⟩
    refine fO (B.indexAddrO (i := i) (tv (T.os 2 0 0 (((a.take i ++ List.replicate (a.length - i) (D.Used.mk ByteArray.empty 0)).map (eUsed true)).length)) rfl) (tv (tN i) rfl) rfl (by first | omega | (simp only [List.length_map]; omega) | (simp only [List.length_map, List.length_append, List.length_cons, List.length_nil, List.length_replicate, List.length_set, List.length_drop, List.length_take, lim] at *; omega)) Try.underlying25 sz127 if127) ?_
    refine cO (B.storeP (us := (eUsed true x1)) (rows' := (((a.take i ++ List.replicate (a.length - i) (D.Used.mk ByteArray.empty 0)).set i x1).map (eUsed true))) (row := (eUsed true x2)) (tv (T.orp 2 0 i 0) rfl) (tv (T.agg (eUsed true x1)) rfl) nofun rfl (map_at _ hx2) rfl (Nat.le_of_ble_eq_true rfl) if127 sz127 (ball_cons rfl (ball_cons rfl (ball_nil))) (by intro r hr t ht; obtain ⟨x, _, rfl⟩ := List.mem_map.1 hr; rw [flUsed] at ht; exact isPl_flat (okeUsed.pl _ t ht)) (set_mapE rfl)) ?_
    refine VRunO.nil ?_
    refine vinB.n ?_
    refine tn ?_
    refine VRun.region ?_
    refine mO (tN i) rfl ?_
    refine fO (B.add (n := (((i + 1) : Nat) : Int)) (tv (tN i) rfl) (VEv.int .i64 1) (by first | rfl | (rw [wrap64 (by omega)]; omega) | (rw [wrap64 (by omega)]; done))) ?_
    refine aO (tN (i + 1)) rfl ?_
    refine VRunO.nil ?_
    refine tn ?_
    have he2 : ((a.take i ++ List.replicate (a.length - i) (D.Used.mk ByteArray.empty 0)).set i x1) = (a.take (i + 1) ++ List.replicate (a.length - (i + 1)) (D.Used.mk ByteArray.empty 0)) := by first | rfl | (exact fill_next hx1) | (simp; done) | omega
    refine ⟨(i + 1 : Nat), ?_, ?_, Wk.mk (fun k => k) ?_ ?_ ?_⟩
    · first | trivial | omega | (simp; done) | exact ⟨by omega, hI'.2⟩
    · first | omega | (simp only []; omega) | (show _ < _; omega) | (simp; omega)
    · exact (ball_cons ⟨rfl, rfl⟩ (ball_cons ⟨rfl, rfl⟩ (ball_cons ⟨(congrArg (fun n_ => T.os 2 0 0 n_) (show ((a.take i ++ List.replicate (a.length - i) (D.Used.mk ByteArray.empty 0)).map (eUsed true)).length = ((a.take (i + 1) ++ List.replicate (a.length - (i + 1)) (D.Used.mk ByteArray.empty 0)).map (eUsed true)).length from (by first | rfl | (simp only [List.length_map]; omega) | (simp only [List.length_map, List.length_set, List.length_append, List.length_take, List.length_replicate, List.length_cons, List.length_nil]; omega)))), rfl⟩ (ball_cons ⟨rfl, rfl⟩ (ball_nil)))))
    · exact (ball_cons ⟨(congrArg (fun l_ => some (Obj.rows 2 (List.map (eUsed true) l_))) he2), (Nat.le_of_ble_eq_true rfl), rfl⟩ (ball_nil))
    · show List.Nodup ([0] : List Nat)
      decide
  have fhc0 : ¬ (i < a.length) := of_decide_eq_false hc0
  refine VRun.exit ?_
  refine vthn.e ?_
  refine vthn.e ?_
  refine vinB.e ?_
  refine tn ?_
  refine sr ?_
  refine mO (T.os 2 0 0 (((a.take i ++ List.replicate (a.length - i) (D.Used.mk ByteArray.empty 0)).map (eUsed true)).length)) rfl ?_
  refine aO (T.os 2 0 0 (((a.take i ++ List.replicate (a.length - i) (D.Used.mk ByteArray.empty 0)).map (eUsed true)).length)) rfl ?_
  refine nt ?_
  refine rt ?_
  refine vfin.eq (r' := (T.sl true 2 ((a.take i ++ List.replicate (a.length - i) (D.Used.mk ByteArray.empty 0)).map (eUsed true)))) ?_ (vfin.r (VRes.tmp (t := (T.os 2 0 0 (((a.take i ++ List.replicate (a.length - i) (D.Used.mk ByteArray.empty 0)).map (eUsed true)).length))) rfl VRes.nil) (Give.os rfl rfl (okeUsed.cleanMap _)))
  show (T.sl true 2 ((a.take i ++ List.replicate (a.length - i) (D.Used.mk ByteArray.empty 0)).map (eUsed true))) = (T.sl true 2 (a.map (eUsed true)))
  refine congrArg (fun l_ => T.sl true 2 (List.map (eUsed true) l_)) ?_
  exact fill_done fhc0
theorem W_laws_toStringS (n : Nat) (a : List ByteArray) (ha : a.length ≤ mx) : Pure (acall Try.prog (n + 1)) 27 [(rd 1 eStr a)] (T.sl true 1 (a.map (eStr true))) := by
  refine Pure.intro (rs := [ResultVar.tmp 2]) Try.func27 rfl rfl rfl (E0 := [(0, (rd 1 eStr a))]) rfl ?_
  have hlim : lim = 1099511627776 := rfl
  have hmx : mx = 1048576 := rfl
  have hmax : maxLen = 9223372036854775807 := rfl
  refine sr ?_
  refine fO (OF.assign VEv.nils) ?_
  refine nt ?_
  refine sr ?_
  refine mO (rd 1 eStr a) rfl ?_
  refine lO (B.lenR (m := a.length) (tv (rd 1 eStr a) rfl) Try.underlying36 (List.length_map ..)) ?_
  refine kO (B.makeZ (n := a.length) (m := ((List.replicate a.length ByteArray.empty).map (eStr true)).length) (rows := ((List.replicate a.length ByteArray.empty).map (eStr true))) (zr := (eStr true ByteArray.empty)) (tv (tN a.length) rfl) (tv (tN a.length) rfl) rfl Try.underlying36 zo9 zc9 rfl (by rw [sz9]; decide) (by first | omega | (simp only [List.length_map]; omega) | (simp only [List.length_map, List.length_append, List.length_cons, List.length_nil, List.length_replicate, List.length_set, List.length_drop, List.length_take, lim] at *; omega)) (of_decide_eq_true (by kernel_rfl)) (Z0.str Z0.nil) sz9 (List.map_replicate ..).symm (by rw [List.length_map, List.length_replicate])) ?_
  refine aO (T.os 1 0 0 (((List.replicate a.length ByteArray.empty).map (eStr true)).length)) rfl ?_
  refine nt ?_
  refine sq ?_
  refine sr ?_
  refine fO (OF.assign (VEv.int .i64 0)) ?_
  refine nt ?_
  refine VRun.block ?_
  have he1 : (List.replicate a.length ByteArray.empty) = (a.take 0 ++ List.replicate (a.length - 0) ByteArray.empty) := by first | rfl | (exact fill_next hx1) | (simp; done) | omega
  refine VRun.loop (A := Nat) (fun s_ => [(0, (rd 1 eStr a)), (2, T.nils), (3, (T.os 1 0 0 (((a.take s_ ++ List.replicate (a.length - s_) ByteArray.empty).map (eStr true)).length))), (4, (tN s_))]) (fun s_ => mkO [(0, (Obj.rows 1 ((a.take s_ ++ List.replicate (a.length - s_) ByteArray.empty).map (eStr true))))]) 1 (fun s_ => s_ ≤ a.length) (fun s_ => a.length - s_) (0 : Nat) ?_ (Wk.mk (fun k => k) ?_ ?_ ?_) ?_
  · first | trivial | (simp; done) | omega | (constructor <;> simp)
  · exact (ball_cons ⟨rfl, rfl⟩ (ball_cons ⟨rfl, rfl⟩ (ball_cons ⟨(congrArg (fun l_ => T.os 1 0 0 (List.map (eStr true) l_).length) he1), rfl⟩ (ball_cons ⟨rfl, rfl⟩ (ball_nil)))))
  · exact (ball_cons ⟨(congrArg (fun l_ => some (Obj.rows 1 (List.map (eStr true) l_))) he1), (Nat.le_of_ble_eq_true rfl), rfl⟩ (ball_nil))
  · show List.Nodup ([0] : List Nat)
    decide
  rintro i hI
  have hI' : i ≤ a.length := hI
  clear hI
  show VRun _ _ _ [(0, (rd 1 eStr a)), (2, T.nils), (3, (T.os 1 0 0 (((a.take i ++ List.replicate (a.length - i) ByteArray.empty).map (eStr true)).length))), (4, (tN i))] (mkO [(0, (Obj.rows 1 ((a.take i ++ List.replicate (a.length - i) ByteArray.empty).map (eStr true))))]) 1 _
  have hfl := fill_at (w := ByteArray.empty) hI'
  refine sq ?_
  refine sr ?_
  refine mO (tN i) rfl ?_
  refine mO (rd 1 eStr a) rfl ?_
  refine lO (B.lenR (m := a.length) (tv (rd 1 eStr a) rfl) Try.underlying36 (List.length_map ..)) ?_
  refine fO (B.lss (c := (decide (i < a.length))) (tv (tN i) rfl) (tv (tN a.length) rfl) (by first | (exact decN (by omega)))) ?_
  refine nt ?_
  refine VRun.cond (tv (tB (decide (i < a.length))) rfl) (fun hc0 => ?_) (fun hc0 => ?_)
  · have fhc0 : i < a.length := of_decide_eq_true hc0
    refine sk ?_
    refine tn ?_
    refine sq ?_
    refine VRun.block ?_
    refine VRun.region ?_
    refine mO (T.os 1 0 0 (((a.take i ++ List.replicate (a.length - i) ByteArray.empty).map (eStr true)).length)) rfl ?_
    refine mO (tN i) rfl ?_
    refine mO (rd 1 eStr a) rfl ?_
    refine mO (tN i) rfl ?_
    obtain ⟨x1, hx1⟩ : ∃ x, a[i]? = some x := ⟨_, List.getElem?_eq_getElem (by first | omega)⟩
    refine fO (OF.indexAddrR (row := (eStr false x1)) (i := i) (tv (rd 1 eStr a) rfl) (tv (tN i) rfl) rfl (map_at _ hx1) Try.underlying36 sz9 if9) ?_
    refine lO (OL.loadR1 (t := (tS x1)) (tv (T.rp [(tS x1)]) rfl) rfl st9) ?_
    obtain ⟨x2, hx2⟩ : ∃ x, (a.take i ++ List.replicate (a.length - i) ByteArray.empty)[i]? = some x := ⟨_, List.getElem?_eq_getElem (by first | omega | (simp only [List.length_map]; omega) | (simp only [List.length_map, List.length_append, List.length_cons, List.length_nil, List.length_replicate, List.length_set, List.length_drop, List.length_take, lim] at *; omega))⟩
    refine fO (B.indexAddrO (i := i) (tv (T.os 1 0 0 (((a.take i ++ List.replicate (a.length - i) ByteArray.empty).map (eStr true)).length)) rfl) (tv (tN i) rfl) rfl (by first | omega | (simp only [List.length_map]; omega) | (simp only [List.length_map, List.length_append, List.length_cons, List.length_nil, List.length_replicate, List.length_set, List.length_drop, List.length_take, lim] at *; omega)) Try.underlying36 sz9 if9) ?_
    refine cO (B.storeP (us := [(tS x1)]) (rows' := (((a.take i ++ List.replicate (a.length - i) ByteArray.empty).set i x1).map (eStr true))) (row := (eStr true x2)) (tv (T.orp 1 0 i 0) rfl) (tv (tS x1) rfl) nofun rfl (map_at _ hx2) rfl (Nat.le_of_ble_eq_true rfl) if9 sz9 (ball_cons rfl (ball_nil)) (by intro r hr t ht; obtain ⟨x, _, rfl⟩ := List.mem_map.1 hr; rw [flStr] at ht; exact isPl_flat (okStr.pl _ t ht)) (set_mapE rfl)) ?_
    refine VRunO.nil ?_
    refine vinB.n ?_
    refine tn ?_
    refine VRun.region ?_
    refine mO (tN i) rfl ?_
    refine fO (B.add (n := (((i + 1) : Nat) : Int)) (tv (tN i) rfl) (VEv.int .i64 1) (by first | rfl | (rw [wrap64 (by omega)]; omega) | (rw [wrap64 (by omega)]; done))) ?_
    refine aO (tN (i + 1)) rfl ?_
    refine VRunO.nil ?_
    refine tn ?_
    have he2 : ((a.take i ++ List.replicate (a.length - i) ByteArray.empty).set i x1) = (a.take (i + 1) ++ List.replicate (a.length - (i + 1)) ByteArray.empty) := by first | rfl | (exact fill_next hx1) | (simp; done) | omega
    refine ⟨(i + 1 : Nat), ?_, ?_, Wk.mk (fun k => k) ?_ ?_ ?_⟩
    · first | trivial | omega | (simp; done) | exact ⟨by omega, hI'.2⟩
    · first | omega | (simp only []; omega) | (show _ < _; omega) | (simp; omega)
    · exact (ball_cons ⟨rfl, rfl⟩ (ball_cons ⟨rfl, rfl⟩ (ball_cons ⟨(congrArg (fun n_ => T.os 1 0 0 n_) (show ((a.take i ++ List.replicate (a.length - i) ByteArray.empty).map (eStr true)).length = ((a.take (i + 1) ++ List.replicate (a.length - (i + 1)) ByteArray.empty).map (eStr true)).length from (by first | rfl | (simp only [List.length_map]; omega) | (simp only [List.length_map, List.length_set, List.length_append, List.length_take, List.length_replicate, List.length_cons, List.length_nil]; omega)))), rfl⟩ (ball_cons ⟨rfl, rfl⟩ (ball_nil)))))
    · exact (ball_cons ⟨(congrArg (fun l_ => some (Obj.rows 1 (List.map (eStr true) l_))) he2), (Nat.le_of_ble_eq_true rfl), rfl⟩ (ball_nil))
    · show List.Nodup ([0] : List Nat)
      decide
  have fhc0 : ¬ (i < a.length) := of_decide_eq_false hc0
  refine VRun.exit ?_
  refine vthn.e ?_
  refine vthn.e ?_
  refine vinB.e ?_
  refine tn ?_
  refine sr ?_
  refine mO (T.os 1 0 0 (((a.take i ++ List.replicate (a.length - i) ByteArray.empty).map (eStr true)).length)) rfl ?_
  refine aO (T.os 1 0 0 (((a.take i ++ List.replicate (a.length - i) ByteArray.empty).map (eStr true)).length)) rfl ?_
  refine nt ?_
  refine rt ?_
  refine vfin.eq (r' := (T.sl true 1 ((a.take i ++ List.replicate (a.length - i) ByteArray.empty).map (eStr true)))) ?_ (vfin.r (VRes.tmp (t := (T.os 1 0 0 (((a.take i ++ List.replicate (a.length - i) ByteArray.empty).map (eStr true)).length))) rfl VRes.nil) (Give.os rfl rfl (okStr.cleanMap _)))
  show (T.sl true 1 ((a.take i ++ List.replicate (a.length - i) ByteArray.empty).map (eStr true))) = (T.sl true 1 (a.map (eStr true)))
  refine congrArg (fun l_ => T.sl true 1 (List.map (eStr true) l_)) ?_
  exact fill_done fhc0
end Go.Proofs.Ythdnjihmjdbdkaa.AE
