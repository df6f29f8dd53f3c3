/- Walks of the program's functions over trees. Conditions: as each theorem states. -/
import Derived.Test.YtfdefabncdddkaaKFnExactEqualHousesFsz
namespace Go.Proofs.Ytfdefabncdddkaa.AE
open Go Go.RowKit
set_option linter.unusedVariables false
set_option linter.unusedSimpArgs false
set_option maxRecDepth 20000
set_option maxHeartbeats 2000000

theorem W_laws_toIntS (n : Nat) (a : List Int) (ha : a.length ≤ mx) : Pure (acall Try.prog (n + 1)) 174 [(rd 1 eInt a)] (T.sl true 1 (a.map (eInt true))) := by
  refine Pure.intro (rs := [ResultVar.tmp 2]) Try.func174 rfl rfl rfl (E0 := [(0, (rd 1 eInt a))]) rfl ?_
  have hlim : lim = 1099511627776 := rfl
  have hmx : mx = 1048576 := rfl
  have hmax : maxLen = 9223372036854775807 := rfl
  refine sr ?_
  refine fO (OF.assign VEv.nils) ?_
  refine nt ?_
  refine sr ?_
  refine mO (rd 1 eInt a) rfl ?_
  refine lO (B.lenR (m := a.length) (tv (rd 1 eInt a) rfl) Try.underlying56 (List.length_map ..)) ?_
  refine kO (B.makeZ (n := a.length) (m := ((List.replicate a.length 0).map (eInt true)).length) (rows := ((List.replicate a.length 0).map (eInt true))) (zr := (eInt true 0)) (tv (tN a.length) rfl) (tv (tN a.length) rfl) rfl Try.underlying56 zo3 zc3 rfl (by rw [sz3]; decide) (by first | omega | (simp only [List.length_map]; omega) | (simp only [List.length_map, List.length_append, List.length_cons, List.length_nil, List.length_replicate, List.length_set, List.length_drop, List.length_take, lim] at *; omega)) (of_decide_eq_true (by kernel_rfl)) (Z0.int Z0.nil) sz3 (List.map_replicate ..).symm (by rw [List.length_map, List.length_replicate])) ?_
  refine aO (T.os 1 0 0 (((List.replicate a.length 0).map (eInt true)).length)) rfl ?_
  refine nt ?_
  refine sq ?_
  refine sr ?_
  refine fO (OF.assign (VEv.int .i64 0)) ?_
  refine nt ?_
  refine VRun.block ?_
  have he1 : (List.replicate a.length 0) = (a.take 0 ++ List.replicate (a.length - 0) 0) := by first | rfl | (exact fill_next hx1) | (simp; done) | omega
  refine VRun.loop (A := Nat) (fun s_ => [(0, (rd 1 eInt a)), (2, T.nils), (3, (T.os 1 0 0 (((a.take s_ ++ List.replicate (a.length - s_) 0).map (eInt true)).length))), (4, (tN s_))]) (fun s_ => mkO [(0, (Obj.rows 1 ((a.take s_ ++ List.replicate (a.length - s_) 0).map (eInt true))))]) 1 (fun s_ => s_ ≤ a.length) (fun s_ => a.length - s_) (0 : Nat) ?_ (Wk.mk (fun k => k) ?_ ?_ ?_) ?_
  · first | trivial | (simp; done) | omega | (constructor <;> simp)
  · exact (ball_cons ⟨rfl, rfl⟩ (ball_cons ⟨rfl, rfl⟩ (ball_cons ⟨(congrArg (fun l_ => T.os 1 0 0 (List.map (eInt true) l_).length) he1), rfl⟩ (ball_cons ⟨rfl, rfl⟩ (ball_nil)))))
  · exact (ball_cons ⟨(congrArg (fun l_ => some (Obj.rows 1 (List.map (eInt true) l_))) he1), (Nat.le_of_ble_eq_true rfl), rfl⟩ (ball_nil))
  · show List.Nodup ([0] : List Nat)
    decide
  rintro i hI
  have hI' : i ≤ a.length := hI
  clear hI
  show VRun _ _ _ [(0, (rd 1 eInt a)), (2, T.nils), (3, (T.os 1 0 0 (((a.take i ++ List.replicate (a.length - i) 0).map (eInt true)).length))), (4, (tN i))] (mkO [(0, (Obj.rows 1 ((a.take i ++ List.replicate (a.length - i) 0).map (eInt true))))]) 1 _
  have hfl := fill_at (w := 0) hI'
  refine sq ?_
  refine sr ?_
  refine mO (tN i) rfl ?_
  refine mO (rd 1 eInt a) rfl ?_
  refine lO (B.lenR (m := a.length) (tv (rd 1 eInt a) rfl) Try.underlying56 (List.length_map ..)) ?_
  refine fO (B.lss (c := (decide (i < a.length))) (tv (tN i) rfl) (tv (tN a.length) rfl) (by first | (exact decN (by omega)))) ?_
  refine nt ?_
  refine VRun.cond (tv (tB (decide (i < a.length))) rfl) (fun hc0 => ?_) (fun hc0 => ?_)
  · have fhc0 : i < a.length := of_decide_eq_true hc0
    refine sk ?_
    refine tn ?_
    refine sq ?_
    refine VRun.block ?_
    refine VRun.region ?_
    refine mO (T.os 1 0 0 (((a.take i ++ List.replicate (a.length - i) 0).map (eInt true)).length)) rfl ?_
    refine mO (tN i) rfl ?_
    refine mO (rd 1 eInt a) rfl ?_
    refine mO (tN i) rfl ?_
    obtain ⟨x1, hx1⟩ : ∃ x, a[i]? = some x := ⟨_, List.getElem?_eq_getElem (by first | omega)⟩
    refine fO (OF.indexAddrR (row := (eInt false x1)) (i := i) (tv (rd 1 eInt a) rfl) (tv (tN i) rfl) rfl (map_at _ hx1) Try.underlying56 sz3 if3) ?_
    refine lO (OL.loadR1 (t := (tI x1)) (tv (T.rp [(tI x1)]) rfl) rfl st3) ?_
    obtain ⟨x2, hx2⟩ : ∃ x, (a.take i ++ List.replicate (a.length - i) 0)[i]? = some x := ⟨_, List.getElem?_eq_getElem (by first | omega | (simp only [List.length_map]; omega) | (simp only [List.length_map, List.length_append, List.length_cons, List.length_nil, List.length_replicate, List.length_set, List.length_drop, List.length_take, lim] at *; omega))⟩
    refine fO (B.indexAddrO (i := i) (tv (T.os 1 0 0 (((a.take i ++ List.replicate (a.length - i) 0).map (eInt true)).length)) rfl) (tv (tN i) rfl) rfl (by first | omega | (simp only [List.length_map]; omega) | (simp only [List.length_map, List.length_append, List.length_cons, List.length_nil, List.length_replicate, List.length_set, List.length_drop, List.length_take, lim] at *; omega)) Try.underlying56 sz3 if3) ?_
    refine cO (B.storeP (us := [(tI x1)]) (rows' := (((a.take i ++ List.replicate (a.length - i) 0).set i x1).map (eInt true))) (row := (eInt true x2)) (tv (T.orp 1 0 i 0) rfl) (tv (tI x1) rfl) nofun rfl (map_at _ hx2) rfl (Nat.le_of_ble_eq_true rfl) if3 sz3 (ball_cons rfl (ball_nil)) (by intro r hr t ht; obtain ⟨x, _, rfl⟩ := List.mem_map.1 hr; rw [flInt] at ht; exact isPl_flat (okInt.pl _ t ht)) (set_mapE rfl)) ?_
    refine VRunO.nil ?_
    refine vinB.n ?_
    refine tn ?_
    refine VRun.region ?_
    refine mO (tN i) rfl ?_
    refine fO (B.add (n := (((i + 1) : Nat) : Int)) (tv (tN i) rfl) (VEv.int .i64 1) (by first | rfl | (rw [wrap64 (by omega)]; omega) | (rw [wrap64 (by omega)]; done))) ?_
    refine aO (tN (i + 1)) rfl ?_
    refine VRunO.nil ?_
    refine tn ?_
    have he2 : ((a.take i ++ List.replicate (a.length - i) 0).set i x1) = (a.take (i + 1) ++ List.replicate (a.length - (i + 1)) 0) := by first | rfl | (exact fill_next hx1) | (simp; done) | omega
    refine ⟨(i + 1 : Nat), ?_, ?_, Wk.mk (fun k => k) ?_ ?_ ?_⟩
    · first | trivial | omega | (simp; done) | exact ⟨by omega, hI'.2⟩
    · first | omega | (simp only []; omega) | (show _ < _; omega) | (simp; omega)
    · exact (ball_cons ⟨rfl, rfl⟩ (ball_cons ⟨rfl, rfl⟩ (ball_cons ⟨(congrArg (fun n_ => T.os 1 0 0 n_) (show ((a.take i ++ List.replicate (a.length - i) 0).map (eInt true)).length = ((a.take (i + 1) ++ List.replicate (a.length - (i + 1)) 0).map (eInt true)).length from (by first | rfl | (simp only [List.length_map]; omega) | (simp only [List.length_map, List.length_set, List.length_append, List.length_take, List.length_replicate, List.length_cons, List.length_nil]; omega)))), rfl⟩ (ball_cons ⟨rfl, rfl⟩ (ball_nil)))))
    · exact (ball_cons ⟨(congrArg (fun l_ => some (Obj.rows 1 (List.map (eInt true) l_))) he2), (Nat.le_of_ble_eq_true rfl), rfl⟩ (ball_nil))
    · show List.Nodup ([0] : List Nat)
      decide
  have fhc0 : ¬ (i < a.length) := of_decide_eq_false hc0
  refine VRun.exit ?_
  refine vthn.e ?_
  refine vthn.e ?_
  refine vinB.e ?_
  refine tn ?_
  refine sr ?_
  refine mO (T.os 1 0 0 (((a.take i ++ List.replicate (a.length - i) 0).map (eInt true)).length)) rfl ?_
  refine aO (T.os 1 0 0 (((a.take i ++ List.replicate (a.length - i) 0).map (eInt true)).length)) rfl ?_
  refine nt ?_
  refine rt ?_
  refine vfin.eq (r' := (T.sl true 1 ((a.take i ++ List.replicate (a.length - i) 0).map (eInt true)))) ?_ (vfin.r (VRes.tmp (t := (T.os 1 0 0 (((a.take i ++ List.replicate (a.length - i) 0).map (eInt true)).length))) rfl VRes.nil) (Give.os rfl rfl (okInt.cleanMap _)))
  show (T.sl true 1 ((a.take i ++ List.replicate (a.length - i) 0).map (eInt true))) = (T.sl true 1 (a.map (eInt true)))
  refine congrArg (fun l_ => T.sl true 1 (List.map (eInt true) l_)) ?_
  exact fill_done fhc0
theorem W_laws_toGrid (n : Nat) (a : D.Grid)  : Pure (acall Try.prog (n + 1)) 41 [(T.agg (eGrid false a))] (T.agg (eGrid true a)) := by
  refine Pure.intro (rs := [ResultVar.cell 2 29]) Try.func41 rfl rfl rfl (E0 := [(0, (T.agg (eGrid false a)))]) rfl ?_
  have hlim : lim = 1099511627776 := rfl
  have hmx : mx = 1048576 := rfl
  have hmax : maxLen = 9223372036854775807 := rfl
  refine sr ?_
  refine kO (B.box (ts := (eGrid false a)) (tv (T.agg (eGrid false a)) rfl) nofun rfl) ?_
  refine kO (B.alloc (t := (T.agg [(tN 0), (tN 0), (tS ByteArray.empty)])) (ts := [(tN 0), (tN 0), (tS ByteArray.empty)]) zo29 zc29 nofun (fun _ => .agg _ _ rfl (RLof (RL.cons (.int _ _) (RL.cons (.int _ _) (RL.cons (.str _) (RL.nil _)))))) rfl) ?_
  refine nt ?_
  refine sr ?_
  refine kO (B.alloc (t := (T.agg [(tN 0), (tN 0), (tS ByteArray.empty)])) (ts := [(tN 0), (tN 0), (tS ByteArray.empty)]) zo29 zc29 nofun (fun _ => .agg _ _ rfl (RLof (RL.cons (.int _ _) (RL.cons (.int _ _) (RL.cons (.str _) (RL.nil _)))))) rfl) ?_
  refine nt ?_
  refine sr ?_
  refine fO (OF.fieldAddrO (tv (T.op 0 0) rfl) fa23_0) ?_
  refine lO (OL.loadO1 (t := (tI a.Rows)) (tv (T.op 0 0) rfl) rfl rfl st3) ?_
  refine fO (OF.fieldAddrO (tv (T.op 2 0) rfl) fa29_0) ?_
  refine cO (B.storeO (us := [(tI a.Rows)]) (ws := [(tI a.Rows), (tN 0), (tS ByteArray.empty)]) (tv (T.op 2 0) rfl) (tv (tI a.Rows) rfl) nofun rfl rfl (Nat.le_of_ble_eq_true rfl) if3 sz3 (ball_cons rfl (ball_nil)) rfl) ?_
  refine nt ?_
  refine sr ?_
  refine fO (OF.fieldAddrO (tv (T.op 0 0) rfl) fa23_1) ?_
  refine lO (OL.loadO1 (t := (tI a.Cols)) (tv (T.op 0 1) rfl) rfl rfl st3) ?_
  refine fO (OF.fieldAddrO (tv (T.op 2 0) rfl) fa29_1) ?_
  refine cO (B.storeO (us := [(tI a.Cols)]) (ws := [(tI a.Rows), (tI a.Cols), (tS ByteArray.empty)]) (tv (T.op 2 1) rfl) (tv (tI a.Cols) rfl) nofun rfl rfl (Nat.le_of_ble_eq_true rfl) if3 sz3 (ball_cons rfl (ball_nil)) rfl) ?_
  refine nt ?_
  refine sr ?_
  refine fO (OF.fieldAddrO (tv (T.op 0 0) rfl) fa23_2) ?_
  refine lO (OL.loadO1 (t := (tS a.Cells)) (tv (T.op 0 2) rfl) rfl rfl st9) ?_
  refine fO (OF.fieldAddrO (tv (T.op 2 0) rfl) fa29_2) ?_
  refine cO (B.storeO (us := [(tS a.Cells)]) (ws := [(tI a.Rows), (tI a.Cols), (tS a.Cells)]) (tv (T.op 2 2) rfl) (tv (tS a.Cells) rfl) nofun rfl rfl (Nat.le_of_ble_eq_true rfl) if9 sz9 (ball_cons rfl (ball_nil)) rfl) ?_
  refine nt ?_
  refine sr ?_
  refine lO (OL.loadOn (us := (eGrid false a)) (tv (T.op 2 0) rfl) rfl st29 sz29 (Nat.le_of_ble_eq_true rfl) rfl) ?_
  refine cO (B.storeO (us := (eGrid false a)) (ws := (eGrid false a)) (tv (T.op 1 0) rfl) (tv (T.agg (eGrid false a)) rfl) nofun rfl rfl (Nat.le_of_ble_eq_true rfl) if29 sz29 (ball_cons rfl (ball_cons rfl (ball_cons rfl (ball_nil)))) rfl) ?_
  refine nt ?_
  refine rt ?_
  refine vfin.eq (r' := (T.agg (eGrid false a))) ?_ (vfin.r (VRes.celln (ws := (eGrid false a)) rfl rfl st29 sz29 (Nat.le_of_ble_eq_true rfl) rfl VRes.nil) (Give.agg (GiveL.cons (Give.int _ _) (GiveL.cons (Give.int _ _) (GiveL.cons (Give.str _) GiveL.nil (by decide)) (by decide)) (by decide))))
  show (T.agg (eGrid false a)) = (T.agg (eGrid true a))
  first | rfl | (exact decN (by omega)) | (symm; rw [decide_eq_false_iff_not]; omega) | (symm; rw [decide_eq_true_eq]; omega) | (simp_all; done)
theorem W_laws_toStep (n : Nat) (a : D.Step)  : Pure (acall Try.prog (n + 1)) 143 [(T.agg (eStep false a))] (T.agg (eStep true a)) := by
  refine Pure.intro (rs := [ResultVar.cell 2 151]) Try.func143 rfl rfl rfl (E0 := [(0, (T.agg (eStep false a)))]) rfl ?_
  have hlim : lim = 1099511627776 := rfl
  have hmx : mx = 1048576 := rfl
  have hmax : maxLen = 9223372036854775807 := rfl
  refine sr ?_
  refine kO (B.box (ts := (eStep false a)) (tv (T.agg (eStep false a)) rfl) nofun rfl) ?_
  refine kO (B.alloc (t := (T.agg [(tN 0), (tS ByteArray.empty), (tN 0), (tN 0)])) (ts := [(tN 0), (tS ByteArray.empty), (tN 0), (tN 0)]) zo151 zc151 nofun (fun _ => .agg _ _ rfl (RLof (RL.cons (.int _ _) (RL.cons (.str _) (RL.cons (.int _ _) (RL.cons (.int _ _) (RL.nil _))))))) rfl) ?_
  refine nt ?_
  refine sr ?_
  refine kO (B.alloc (t := (T.agg [(tN 0), (tS ByteArray.empty), (tN 0), (tN 0)])) (ts := [(tN 0), (tS ByteArray.empty), (tN 0), (tN 0)]) zo151 zc151 nofun (fun _ => .agg _ _ rfl (RLof (RL.cons (.int _ _) (RL.cons (.str _) (RL.cons (.int _ _) (RL.cons (.int _ _) (RL.nil _))))))) rfl) ?_
  refine nt ?_
  refine sr ?_
  refine fO (OF.fieldAddrO (tv (T.op 0 0) rfl) fa182_0) ?_
  refine lO (OL.loadO1 (t := (tI a.Kind)) (tv (T.op 0 0) rfl) rfl rfl st3) ?_
  refine fO (OF.fieldAddrO (tv (T.op 2 0) rfl) fa151_0) ?_
  refine cO (B.storeO (us := [(tI a.Kind)]) (ws := [(tI a.Kind), (tS ByteArray.empty), (tN 0), (tN 0)]) (tv (T.op 2 0) rfl) (tv (tI a.Kind) rfl) nofun rfl rfl (Nat.le_of_ble_eq_true rfl) if3 sz3 (ball_cons rfl (ball_nil)) rfl) ?_
  refine nt ?_
  refine sr ?_
  refine fO (OF.fieldAddrO (tv (T.op 0 0) rfl) fa182_1) ?_
  refine lO (OL.loadO1 (t := (tS a.Word)) (tv (T.op 0 1) rfl) rfl rfl st9) ?_
  refine fO (OF.fieldAddrO (tv (T.op 2 0) rfl) fa151_1) ?_
  refine cO (B.storeO (us := [(tS a.Word)]) (ws := [(tI a.Kind), (tS a.Word), (tN 0), (tN 0)]) (tv (T.op 2 1) rfl) (tv (tS a.Word) rfl) nofun rfl rfl (Nat.le_of_ble_eq_true rfl) if9 sz9 (ball_cons rfl (ball_nil)) rfl) ?_
  refine nt ?_
  refine sr ?_
  refine fO (OF.fieldAddrO (tv (T.op 0 0) rfl) fa182_2) ?_
  refine lO (OL.loadO1 (t := (tI a.A)) (tv (T.op 0 2) rfl) rfl rfl st3) ?_
  refine fO (OF.fieldAddrO (tv (T.op 2 0) rfl) fa151_2) ?_
  refine cO (B.storeO (us := [(tI a.A)]) (ws := [(tI a.Kind), (tS a.Word), (tI a.A), (tN 0)]) (tv (T.op 2 2) rfl) (tv (tI a.A) rfl) nofun rfl rfl (Nat.le_of_ble_eq_true rfl) if3 sz3 (ball_cons rfl (ball_nil)) rfl) ?_
  refine nt ?_
  refine sr ?_
  refine fO (OF.fieldAddrO (tv (T.op 0 0) rfl) fa182_3) ?_
  refine lO (OL.loadO1 (t := (tI a.B)) (tv (T.op 0 3) rfl) rfl rfl st3) ?_
  refine fO (OF.fieldAddrO (tv (T.op 2 0) rfl) fa151_3) ?_
  refine cO (B.storeO (us := [(tI a.B)]) (ws := [(tI a.Kind), (tS a.Word), (tI a.A), (tI a.B)]) (tv (T.op 2 3) rfl) (tv (tI a.B) rfl) nofun rfl rfl (Nat.le_of_ble_eq_true rfl) if3 sz3 (ball_cons rfl (ball_nil)) rfl) ?_
  refine nt ?_
  refine sr ?_
  refine lO (OL.loadOn (us := (eStep false a)) (tv (T.op 2 0) rfl) rfl st151 sz151 (Nat.le_of_ble_eq_true rfl) rfl) ?_
  refine cO (B.storeO (us := (eStep false a)) (ws := (eStep false a)) (tv (T.op 1 0) rfl) (tv (T.agg (eStep false a)) rfl) nofun rfl rfl (Nat.le_of_ble_eq_true rfl) if151 sz151 (ball_cons rfl (ball_cons rfl (ball_cons rfl (ball_cons rfl (ball_nil))))) rfl) ?_
  refine nt ?_
  refine rt ?_
  refine vfin.eq (r' := (T.agg (eStep false a))) ?_ (vfin.r (VRes.celln (ws := (eStep false a)) rfl rfl st151 sz151 (Nat.le_of_ble_eq_true rfl) rfl VRes.nil) (Give.agg (GiveL.cons (Give.int _ _) (GiveL.cons (Give.str _) (GiveL.cons (Give.int _ _) (GiveL.cons (Give.int _ _) GiveL.nil (by decide)) (by decide)) (by decide)) (by decide))))
  show (T.agg (eStep false a)) = (T.agg (eStep true a))
  first | rfl | (exact decN (by omega)) | (symm; rw [decide_eq_false_iff_not]; omega) | (symm; rw [decide_eq_true_eq]; omega) | (simp_all; done)
theorem W_laws_toStepS (n : Nat) (a : List D.Step) (ha : a.length ≤ mx) : Pure (acall Try.prog (n + 2)) 90 [(rd 4 eStep a)] (T.sl true 4 (a.map (eStep true))) := by
  refine Pure.intro (rs := [ResultVar.tmp 2]) Try.func90 rfl rfl rfl (E0 := [(0, (rd 4 eStep a))]) rfl ?_
  have hlim : lim = 1099511627776 := rfl
  have hmx : mx = 1048576 := rfl
  have hmax : maxLen = 9223372036854775807 := rfl
  refine sr ?_
  refine fO (OF.assign VEv.nils) ?_
  refine nt ?_
  refine sr ?_
  refine mO (rd 4 eStep a) rfl ?_
  refine lO (B.lenR (m := a.length) (tv (rd 4 eStep a) rfl) Try.underlying62 (List.length_map ..)) ?_
  refine kO (B.makeZ (n := a.length) (m := ((List.replicate a.length (D.Step.mk 0 ByteArray.empty 0 0)).map (eStep true)).length) (rows := ((List.replicate a.length (D.Step.mk 0 ByteArray.empty 0 0)).map (eStep true))) (zr := (eStep true (D.Step.mk 0 ByteArray.empty 0 0))) (tv (tN a.length) rfl) (tv (tN a.length) rfl) rfl Try.underlying68 zo151 zc151 rfl (by rw [sz151]; decide) (by first | omega | (simp only [List.length_map]; omega) | (simp only [List.length_map, List.length_append, List.length_cons, List.length_nil, List.length_replicate, List.length_set, List.length_drop, List.length_take, lim] at *; omega)) (of_decide_eq_true (by kernel_rfl)) (Z0.int (Z0.str (Z0.int (Z0.int Z0.nil)))) sz151 (List.map_replicate ..).symm (by rw [List.length_map, List.length_replicate])) ?_
  refine aO (T.os 4 0 0 (((List.replicate a.length (D.Step.mk 0 ByteArray.empty 0 0)).map (eStep true)).length)) rfl ?_
  refine nt ?_
  refine sq ?_
  refine sr ?_
  refine fO (OF.assign (VEv.int .i64 0)) ?_
  refine nt ?_
  refine VRun.block ?_
  have he1 : (List.replicate a.length (D.Step.mk 0 ByteArray.empty 0 0)) = (a.take 0 ++ List.replicate (a.length - 0) (D.Step.mk 0 ByteArray.empty 0 0)) := by first | rfl | (exact fill_next hx1) | (simp; done) | omega
  refine VRun.loop (A := Nat) (fun s_ => [(0, (rd 4 eStep a)), (2, T.nils), (3, (T.os 4 0 0 (((a.take s_ ++ List.replicate (a.length - s_) (D.Step.mk 0 ByteArray.empty 0 0)).map (eStep true)).length))), (4, (tN s_))]) (fun s_ => mkO [(0, (Obj.rows 4 ((a.take s_ ++ List.replicate (a.length - s_) (D.Step.mk 0 ByteArray.empty 0 0)).map (eStep true))))]) 1 (fun s_ => s_ ≤ a.length) (fun s_ => a.length - s_) (0 : Nat) ?_ (Wk.mk (fun k => k) ?_ ?_ ?_) ?_
  · first | trivial | (simp; done) | omega | (constructor <;> simp)
  · exact (ball_cons ⟨rfl, rfl⟩ (ball_cons ⟨rfl, rfl⟩ (ball_cons ⟨(congrArg (fun l_ => T.os 4 0 0 (List.map (eStep true) l_).length) he1), rfl⟩ (ball_cons ⟨rfl, rfl⟩ (ball_nil)))))
  · exact (ball_cons ⟨(congrArg (fun l_ => some (Obj.rows 4 (List.map (eStep true) l_))) he1), (Nat.le_of_ble_eq_true rfl), rfl⟩ (ball_nil))
  · show List.Nodup ([0] : List Nat)
    decide
  rintro i hI
  have hI' : i ≤ a.length := hI
  clear hI
  show VRun _ _ _ [(0, (rd 4 eStep a)), (2, T.nils), (3, (T.os 4 0 0 (((a.take i ++ List.replicate (a.length - i) (D.Step.mk 0 ByteArray.empty 0 0)).map (eStep true)).length))), (4, (tN i))] (mkO [(0, (Obj.rows 4 ((a.take i ++ List.replicate (a.length - i) (D.Step.mk 0 ByteArray.empty 0 0)).map (eStep true))))]) 1 _
  have hfl := fill_at (w := (D.Step.mk 0 ByteArray.empty 0 0)) hI'
  refine sq ?_
  refine sr ?_
  refine mO (tN i) rfl ?_
  refine mO (rd 4 eStep a) rfl ?_
  refine lO (B.lenR (m := a.length) (tv (rd 4 eStep a) rfl) Try.underlying62 (List.length_map ..)) ?_
  refine fO (B.lss (c := (decide (i < a.length))) (tv (tN i) rfl) (tv (tN a.length) rfl) (by first | (exact decN (by omega)))) ?_
  refine nt ?_
  refine VRun.cond (tv (tB (decide (i < a.length))) rfl) (fun hc0 => ?_) (fun hc0 => ?_)
  · have fhc0 : i < a.length := of_decide_eq_true hc0
    refine sk ?_
    refine tn ?_
    refine sq ?_
    refine VRun.block ?_
    refine VRun.region ?_
    refine mO (T.os 4 0 0 (((a.take i ++ List.replicate (a.length - i) (D.Step.mk 0 ByteArray.empty 0 0)).map (eStep true)).length)) rfl ?_
    refine mO (tN i) rfl ?_
    refine mO (rd 4 eStep a) rfl ?_
    refine mO (tN i) rfl ?_
    obtain ⟨x1, hx1⟩ : ∃ x, a[i]? = some x := ⟨_, List.getElem?_eq_getElem (by first | omega)⟩
    refine fO (OF.indexAddrR (row := (eStep false x1)) (i := i) (tv (rd 4 eStep a) rfl) (tv (tN i) rfl) rfl (map_at _ hx1) Try.underlying62 sz182 if182) ?_
    refine lO (OL.loadRn (us := (eStep false x1)) (tv (T.rp (eStep false x1)) rfl) st182 sz182 (Nat.le_of_ble_eq_true rfl) rfl) ?_
    refine cO (cS (vc (tv (T.agg (eStep false x1)) rfl) VEvs.nil) (LendL.cons (lg okeStep) (LendL.nil)) (W_laws_toStep (n + 0) x1 ) rfl rfl) ?_
    obtain ⟨x2, hx2⟩ : ∃ x, (a.take i ++ List.replicate (a.length - i) (D.Step.mk 0 ByteArray.empty 0 0))[i]? = some x := ⟨_, List.getElem?_eq_getElem (by first | omega | (simp only [List.length_map]; omega) | (simp only [List.length_map, List.length_append, List.length_cons, List.length_nil, List.length_replicate, List.length_set, List.length_drop, List.length_take, lim] at *; omega))⟩
    refine fO (B.indexAddrO (i := i) (tv (T.os 4 0 0 (((a.take i ++ List.replicate (a.length - i) (D.Step.mk 0 ByteArray.empty 0 0)).map (eStep true)).length)) rfl) (tv (tN i) rfl) rfl (by first | omega | (simp only [List.length_map]; omega) | (simp only [List.length_map, List.length_append, List.length_cons, List.length_nil, List.length_replicate, List.length_set, List.length_drop, List.length_take, lim] at *; omega)) Try.underlying68 sz151 if151) ?_
    refine cO (B.storeP (us := (eStep true x1)) (rows' := (((a.take i ++ List.replicate (a.length - i) (D.Step.mk 0 ByteArray.empty 0 0)).set i x1).map (eStep true))) (row := (eStep true x2)) (tv (T.orp 4 0 i 0) rfl) (tv (T.agg (eStep true x1)) rfl) nofun rfl (map_at _ hx2) rfl (Nat.le_of_ble_eq_true rfl) if151 sz151 (ball_cons rfl (ball_cons rfl (ball_cons rfl (ball_cons rfl (ball_nil))))) (by intro r hr t ht; obtain ⟨x, _, rfl⟩ := List.mem_map.1 hr; rw [flStep] at ht; exact isPl_flat (okeStep.pl _ t ht)) (set_mapE rfl)) ?_
    refine VRunO.nil ?_
    refine vinB.n ?_
    refine tn ?_
    refine VRun.region ?_
    refine mO (tN i) rfl ?_
    refine fO (B.add (n := (((i + 1) : Nat) : Int)) (tv (tN i) rfl) (VEv.int .i64 1) (by first | rfl | (rw [wrap64 (by omega)]; omega) | (rw [wrap64 (by omega)]; done))) ?_
    refine aO (tN (i + 1)) rfl ?_
    refine VRunO.nil ?_
    refine tn ?_
    have he2 : ((a.take i ++ List.replicate (a.length - i) (D.Step.mk 0 ByteArray.empty 0 0)).set i x1) = (a.take (i + 1) ++ List.replicate (a.length - (i + 1)) (D.Step.mk 0 ByteArray.empty 0 0)) := by first | rfl | (exact fill_next hx1) | (simp; done) | omega
    refine ⟨(i + 1 : Nat), ?_, ?_, Wk.mk (fun k => k) ?_ ?_ ?_⟩
    · first | trivial | omega | (simp; done) | exact ⟨by omega, hI'.2⟩
    · first | omega | (simp only []; omega) | (show _ < _; omega) | (simp; omega)
    · exact (ball_cons ⟨rfl, rfl⟩ (ball_cons ⟨rfl, rfl⟩ (ball_cons ⟨(congrArg (fun n_ => T.os 4 0 0 n_) (show ((a.take i ++ List.replicate (a.length - i) (D.Step.mk 0 ByteArray.empty 0 0)).map (eStep true)).length = ((a.take (i + 1) ++ List.replicate (a.length - (i + 1)) (D.Step.mk 0 ByteArray.empty 0 0)).map (eStep true)).length from (by first | rfl | (simp only [List.length_map]; omega) | (simp only [List.length_map, List.length_set, List.length_append, List.length_take, List.length_replicate, List.length_cons, List.length_nil]; omega)))), rfl⟩ (ball_cons ⟨rfl, rfl⟩ (ball_nil)))))
    · exact (ball_cons ⟨(congrArg (fun l_ => some (Obj.rows 4 (List.map (eStep true) l_))) he2), (Nat.le_of_ble_eq_true rfl), rfl⟩ (ball_nil))
    · show List.Nodup ([0] : List Nat)
      decide
  have fhc0 : ¬ (i < a.length) := of_decide_eq_false hc0
  refine VRun.exit ?_
  refine vthn.e ?_
  refine vthn.e ?_
  refine vinB.e ?_
  refine tn ?_
  refine sr ?_
  refine mO (T.os 4 0 0 (((a.take i ++ List.replicate (a.length - i) (D.Step.mk 0 ByteArray.empty 0 0)).map (eStep true)).length)) rfl ?_
  refine aO (T.os 4 0 0 (((a.take i ++ List.replicate (a.length - i) (D.Step.mk 0 ByteArray.empty 0 0)).map (eStep true)).length)) rfl ?_
  refine nt ?_
  refine rt ?_
  refine vfin.eq (r' := (T.sl true 4 ((a.take i ++ List.replicate (a.length - i) (D.Step.mk 0 ByteArray.empty 0 0)).map (eStep true)))) ?_ (vfin.r (VRes.tmp (t := (T.os 4 0 0 (((a.take i ++ List.replicate (a.length - i) (D.Step.mk 0 ByteArray.empty 0 0)).map (eStep true)).length))) rfl VRes.nil) (Give.os rfl rfl (okeStep.cleanMap _)))
  show (T.sl true 4 ((a.take i ++ List.replicate (a.length - i) (D.Step.mk 0 ByteArray.empty 0 0)).map (eStep true))) = (T.sl true 4 (a.map (eStep true)))
  refine congrArg (fun l_ => T.sl true 4 (List.map (eStep true) l_)) ?_
  exact fill_done fhc0
theorem W_laws_toClue (n : Nat) (a : D.Clue) (ha : zClue a ≤ mx) : Pure (acall Try.prog (n + 3)) 26 [(T.agg (eClue false a))] (T.agg (eClue true a)) := by
  refine Pure.intro (rs := [ResultVar.cell 2 70]) Try.func26 rfl rfl rfl (E0 := [(0, (T.agg (eClue false a)))]) rfl ?_
  have hlim : lim = 1099511627776 := rfl
  have hmx : mx = 1048576 := rfl
  have hmax : maxLen = 9223372036854775807 := rfl
  simp only [zClue] at ha
  have hla_Play := zL_len (z := zStep) a.Play
  refine sr ?_
  refine kO (B.box (ts := (eClue false a)) (tv (T.agg (eClue false a)) rfl) nofun rfl) ?_
  refine kO (B.alloc (t := (T.agg [(tN 0), T.nils])) (ts := [(tN 0), T.nils]) zo70 zc70 nofun (fun _ => .agg _ _ rfl (RLof (RL.cons (.int _ _) (RL.cons (.nils) (RL.nil _))))) rfl) ?_
  refine nt ?_
  refine sr ?_
  refine kO (B.alloc (t := (T.agg [(tN 0), T.nils])) (ts := [(tN 0), T.nils]) zo70 zc70 nofun (fun _ => .agg _ _ rfl (RLof (RL.cons (.int _ _) (RL.cons (.nils) (RL.nil _))))) rfl) ?_
  refine nt ?_
  refine sr ?_
  refine fO (OF.fieldAddrO (tv (T.op 0 0) rfl) fa64_0) ?_
  refine lO (OL.loadO1 (t := (tI a.Sense)) (tv (T.op 0 0) rfl) rfl rfl st3) ?_
  refine fO (OF.fieldAddrO (tv (T.op 2 0) rfl) fa70_0) ?_
  refine cO (B.storeO (us := [(tI a.Sense)]) (ws := [(tI a.Sense), T.nils]) (tv (T.op 2 0) rfl) (tv (tI a.Sense) rfl) nofun rfl rfl (Nat.le_of_ble_eq_true rfl) if3 sz3 (ball_cons rfl (ball_nil)) rfl) ?_
  refine nt ?_
  refine sr ?_
  refine fO (OF.fieldAddrO (tv (T.op 0 0) rfl) fa64_1) ?_
  refine lO (OL.loadO1 (t := (rd 4 eStep a.Play)) (tv (T.op 0 1) rfl) rfl rfl st62) ?_
  refine cO (OC.callF (us := [(rd 4 eStep a.Play)]) (r := (T.sl true 4 (a.Play.map (eStep true)))) (r' := (T.os 4 3 0 ((a.Play.map (eStep true)).length))) (objs := [(Obj.rows 4 (a.Play.map (eStep true)))]) rfl (vc (tv (rd 4 eStep a.Play) rfl) VEvs.nil) (lp rfl (LendL.nil)) (W_laws_toStepS (n + 0) a.Play (by first | assumption | omega)) rfl) ?_
  refine fO (OF.fieldAddrO (tv (T.op 2 0) rfl) fa70_1) ?_
  refine cO (B.storeO (us := [(T.os 4 3 0 ((a.Play.map (eStep true)).length))]) (ws := [(tI a.Sense), (T.os 4 3 0 ((a.Play.map (eStep true)).length))]) (tv (T.op 2 1) rfl) (tv (T.os 4 3 0 ((a.Play.map (eStep true)).length)) rfl) nofun rfl rfl (Nat.le_of_ble_eq_true rfl) if68 sz68 (ball_cons rfl (ball_nil)) rfl) ?_
  refine nt ?_
  refine sr ?_
  refine lO (OL.loadOn (us := [(tI a.Sense), (T.os 4 3 0 ((a.Play.map (eStep true)).length))]) (tv (T.op 2 0) rfl) rfl st70 sz70 (Nat.le_of_ble_eq_true rfl) rfl) ?_
  refine cO (B.storeO (us := [(tI a.Sense), (T.os 4 3 0 ((a.Play.map (eStep true)).length))]) (ws := [(tI a.Sense), (T.os 4 3 0 ((a.Play.map (eStep true)).length))]) (tv (T.op 1 0) rfl) (tv (T.agg [(tI a.Sense), (T.os 4 3 0 ((a.Play.map (eStep true)).length))]) rfl) nofun rfl rfl (Nat.le_of_ble_eq_true rfl) if70 sz70 (ball_cons rfl (ball_cons rfl (ball_nil))) rfl) ?_
  refine nt ?_
  refine rt ?_
  refine vfin.eq (r' := (T.agg [(tI a.Sense), (T.sl true 4 (a.Play.map (eStep true)))])) ?_ (vfin.r (VRes.celln (ws := [(tI a.Sense), (T.os 4 3 0 ((a.Play.map (eStep true)).length))]) rfl rfl st70 sz70 (Nat.le_of_ble_eq_true rfl) rfl VRes.nil) (Give.agg (GiveL.cons (Give.int _ _) (GiveL.cons (Give.os rfl rfl (okeStep.cleanMap _)) GiveL.nil (by decide)) (by decide))))
  show (T.agg [(tI a.Sense), (T.sl true 4 (a.Play.map (eStep true)))]) = (T.agg (eClue true a))
  first | rfl | (exact decN (by omega)) | (symm; rw [decide_eq_false_iff_not]; omega) | (symm; rw [decide_eq_true_eq]; omega) | (simp_all; done)
theorem W_laws_toClueS (n : Nat) (a : List D.Clue) (ha : zL zClue a ≤ mx) : Pure (acall Try.prog (n + 4)) 42 [(rd 2 eClue a)] (T.sl true 2 (a.map (eClue true))) := by
  refine Pure.intro (rs := [ResultVar.tmp 2]) Try.func42 rfl rfl rfl (E0 := [(0, (rd 2 eClue a))]) rfl ?_
  have hlim : lim = 1099511627776 := rfl
  have hmx : mx = 1048576 := rfl
  have hmax : maxLen = 9223372036854775807 := rfl
  have hla := zL_len (z := zClue) a
  refine sr ?_
  refine fO (OF.assign VEv.nils) ?_
  refine nt ?_
  refine sr ?_
  refine mO (rd 2 eClue a) rfl ?_
  refine lO (B.lenR (m := a.length) (tv (rd 2 eClue a) rfl) Try.underlying24 (List.length_map ..)) ?_
  refine kO (B.makeZ (n := a.length) (m := ((List.replicate a.length (D.Clue.mk 0 [])).map (eClue true)).length) (rows := ((List.replicate a.length (D.Clue.mk 0 [])).map (eClue true))) (zr := (eClue true (D.Clue.mk 0 []))) (tv (tN a.length) rfl) (tv (tN a.length) rfl) rfl Try.underlying30 zo70 zc70 rfl (by rw [sz70]; decide) (by first | exact Nat.le_trans (zL_at hx1) ha | omega | (simp only [List.length_map]; omega) | (simp only [List.length_map, List.length_append, List.length_cons, List.length_nil, List.length_replicate, List.length_set, List.length_drop, List.length_take, lim] at *; omega)) (of_decide_eq_true (by kernel_rfl)) (Z0.int (Z0.sl Z0.nil)) sz70 (List.map_replicate ..).symm (by rw [List.length_map, List.length_replicate])) ?_
  refine aO (T.os 2 0 0 (((List.replicate a.length (D.Clue.mk 0 [])).map (eClue true)).length)) rfl ?_
  refine nt ?_
  refine sq ?_
  refine sr ?_
  refine fO (OF.assign (VEv.int .i64 0)) ?_
  refine nt ?_
  refine VRun.block ?_
  have he1 : (List.replicate a.length (D.Clue.mk 0 [])) = (a.take 0 ++ List.replicate (a.length - 0) (D.Clue.mk 0 [])) := by first | rfl | (exact fill_next hx1) | (simp; done) | omega
  refine VRun.loop (A := Nat) (fun s_ => [(0, (rd 2 eClue a)), (2, T.nils), (3, (T.os 2 0 0 (((a.take s_ ++ List.replicate (a.length - s_) (D.Clue.mk 0 [])).map (eClue true)).length))), (4, (tN s_))]) (fun s_ => mkO [(0, (Obj.rows 2 ((a.take s_ ++ List.replicate (a.length - s_) (D.Clue.mk 0 [])).map (eClue true))))]) 1 (fun s_ => s_ ≤ a.length) (fun s_ => a.length - s_) (0 : Nat) ?_ (Wk.mk (fun k => k) ?_ ?_ ?_) ?_
  · first | trivial | (simp; done) | omega | (constructor <;> simp)
  · exact (ball_cons ⟨rfl, rfl⟩ (ball_cons ⟨rfl, rfl⟩ (ball_cons ⟨(congrArg (fun l_ => T.os 2 0 0 (List.map (eClue true) l_).length) he1), rfl⟩ (ball_cons ⟨rfl, rfl⟩ (ball_nil)))))
  · exact (ball_cons ⟨(congrArg (fun l_ => some (Obj.rows 2 (List.map (eClue true) l_))) he1), (Nat.le_of_ble_eq_true rfl), rfl⟩ (ball_nil))
  · show List.Nodup ([0] : List Nat)
    decide
  rintro i hI
  have hI' : i ≤ a.length := hI
  clear hI
  show VRun _ _ _ [(0, (rd 2 eClue a)), (2, T.nils), (3, (T.os 2 0 0 (((a.take i ++ List.replicate (a.length - i) (D.Clue.mk 0 [])).map (eClue true)).length))), (4, (tN i))] (mkO [(0, (Obj.rows 2 ((a.take i ++ List.replicate (a.length - i) (D.Clue.mk 0 [])).map (eClue true))))]) 1 _
  have hfl := fill_at (w := (D.Clue.mk 0 [])) hI'
  refine sq ?_
  refine sr ?_
  refine mO (tN i) rfl ?_
  refine mO (rd 2 eClue a) rfl ?_
  refine lO (B.lenR (m := a.length) (tv (rd 2 eClue a) rfl) Try.underlying24 (List.length_map ..)) ?_
  refine fO (B.lss (c := (decide (i < a.length))) (tv (tN i) rfl) (tv (tN a.length) rfl) (by first | exact Nat.le_trans (zL_at hx1) ha | (exact decN (by omega)))) ?_
  refine nt ?_
  refine VRun.cond (tv (tB (decide (i < a.length))) rfl) (fun hc0 => ?_) (fun hc0 => ?_)
  · have fhc0 : i < a.length := of_decide_eq_true hc0
    refine sk ?_
    refine tn ?_
    refine sq ?_
    refine VRun.block ?_
    refine VRun.region ?_
    refine mO (T.os 2 0 0 (((a.take i ++ List.replicate (a.length - i) (D.Clue.mk 0 [])).map (eClue true)).length)) rfl ?_
    refine mO (tN i) rfl ?_
    refine mO (rd 2 eClue a) rfl ?_
    refine mO (tN i) rfl ?_
    obtain ⟨x1, hx1⟩ : ∃ x, a[i]? = some x := ⟨_, List.getElem?_eq_getElem (by first | exact Nat.le_trans (zL_at hx1) ha | omega)⟩
    refine fO (OF.indexAddrR (row := (eClue false x1)) (i := i) (tv (rd 2 eClue a) rfl) (tv (tN i) rfl) rfl (map_at _ hx1) Try.underlying24 sz64 if64) ?_
    refine lO (OL.loadRn (us := (eClue false x1)) (tv (T.rp (eClue false x1)) rfl) st64 sz64 (Nat.le_of_ble_eq_true rfl) rfl) ?_
    refine cO (OC.callF (us := [(T.agg (eClue false x1))]) (r := (T.agg (eClue true x1))) (r' := (T.agg [(tI x1.Sense), (T.os 4 1 0 ((x1.Play.map (eStep true)).length))])) (objs := [(Obj.rows 4 (x1.Play.map (eStep true)))]) rfl (vc (tv (T.agg (eClue false x1)) rfl) VEvs.nil) (LendL.cons (lg okeClue) (LendL.nil)) (W_laws_toClue (n + 0) x1 (by first | exact Nat.le_trans (zL_at hx1) ha | assumption | omega)) rfl) ?_
    obtain ⟨x2, hx2⟩ : ∃ x, (a.take i ++ List.replicate (a.length - i) (D.Clue.mk 0 []))[i]? = some x := ⟨_, List.getElem?_eq_getElem (by first | exact Nat.le_trans (zL_at hx1) ha | omega | (simp only [List.length_map]; omega) | (simp only [List.length_map, List.length_append, List.length_cons, List.length_nil, List.length_replicate, List.length_set, List.length_drop, List.length_take, lim] at *; omega))⟩
    refine fO (B.indexAddrO (i := i) (tv (T.os 2 0 0 (((a.take i ++ List.replicate (a.length - i) (D.Clue.mk 0 [])).map (eClue true)).length)) rfl) (tv (tN i) rfl) rfl (by first | exact Nat.le_trans (zL_at hx1) ha | omega | (simp only [List.length_map]; omega) | (simp only [List.length_map, List.length_append, List.length_cons, List.length_nil, List.length_replicate, List.length_set, List.length_drop, List.length_take, lim] at *; omega)) Try.underlying30 sz70 if70) ?_
    refine cO (B.storeB (us := [(tI x1.Sense), (T.os 4 1 0 ((x1.Play.map (eStep true)).length))]) (ws := [(tI x1.Sense), (T.sl true 4 (x1.Play.map (eStep true)))]) (rows' := (((a.take i ++ List.replicate (a.length - i) (D.Clue.mk 0 [])).set i x1).map (eClue true))) (row := (eClue true x2)) (tv (T.orp 2 0 i 0) rfl) (tv (T.agg [(tI x1.Sense), (T.os 4 1 0 ((x1.Play.map (eStep true)).length))]) rfl) nofun rfl (map_at _ hx2) rfl (Nat.le_of_ble_eq_true rfl) if70 sz70 (ball_cons rfl (ball_cons rfl (ball_nil))) (Bury.pl rfl (Bury.os rfl rfl Bury.nil (by decide))) rfl (by decide) (set_mapE rfl)) ?_
    refine VRunO.nil ?_
    refine vinB.n ?_
    refine tn ?_
    refine VRun.region ?_
    refine mO (tN i) rfl ?_
    refine fO (B.add (n := (((i + 1) : Nat) : Int)) (tv (tN i) rfl) (VEv.int .i64 1) (by first | exact Nat.le_trans (zL_at hx1) ha | rfl | (rw [wrap64 (by omega)]; omega) | (rw [wrap64 (by omega)]; done))) ?_
    refine aO (tN (i + 1)) rfl ?_
    refine VRunO.nil ?_
    refine tn ?_
    have he2 : ((a.take i ++ List.replicate (a.length - i) (D.Clue.mk 0 [])).set i x1) = (a.take (i + 1) ++ List.replicate (a.length - (i + 1)) (D.Clue.mk 0 [])) := by first | rfl | (exact fill_next hx1) | (simp; done) | omega
    refine ⟨(i + 1 : Nat), ?_, ?_, Wk.mk (fun k => k) ?_ ?_ ?_⟩
    · first | trivial | omega | (simp; done) | exact ⟨by omega, hI'.2⟩
    · first | omega | (simp only []; omega) | (show _ < _; omega) | (simp; omega)
    · exact (ball_cons ⟨rfl, rfl⟩ (ball_cons ⟨rfl, rfl⟩ (ball_cons ⟨(congrArg (fun n_ => T.os 2 0 0 n_) (show ((a.take i ++ List.replicate (a.length - i) (D.Clue.mk 0 [])).map (eClue true)).length = ((a.take (i + 1) ++ List.replicate (a.length - (i + 1)) (D.Clue.mk 0 [])).map (eClue true)).length from (by first | rfl | (simp only [List.length_map]; omega) | (simp only [List.length_map, List.length_set, List.length_append, List.length_take, List.length_replicate, List.length_cons, List.length_nil]; omega)))), rfl⟩ (ball_cons ⟨rfl, rfl⟩ (ball_nil)))))
    · exact (ball_cons ⟨(congrArg (fun l_ => some (Obj.rows 2 (List.map (eClue true) l_))) he2), (Nat.le_of_ble_eq_true rfl), rfl⟩ (ball_nil))
    · show List.Nodup ([0] : List Nat)
      decide
  have fhc0 : ¬ (i < a.length) := of_decide_eq_false hc0
  refine VRun.exit ?_
  refine vthn.e ?_
  refine vthn.e ?_
  refine vinB.e ?_
  refine tn ?_
  refine sr ?_
  refine mO (T.os 2 0 0 (((a.take i ++ List.replicate (a.length - i) (D.Clue.mk 0 [])).map (eClue true)).length)) rfl ?_
  refine aO (T.os 2 0 0 (((a.take i ++ List.replicate (a.length - i) (D.Clue.mk 0 [])).map (eClue true)).length)) rfl ?_
  refine nt ?_
  refine rt ?_
  refine vfin.eq (r' := (T.sl true 2 ((a.take i ++ List.replicate (a.length - i) (D.Clue.mk 0 [])).map (eClue true)))) ?_ (vfin.r (VRes.tmp (t := (T.os 2 0 0 (((a.take i ++ List.replicate (a.length - i) (D.Clue.mk 0 [])).map (eClue true)).length))) rfl VRes.nil) (Give.os rfl rfl (okeClue.cleanMap _)))
  show (T.sl true 2 ((a.take i ++ List.replicate (a.length - i) (D.Clue.mk 0 [])).map (eClue true))) = (T.sl true 2 (a.map (eClue true)))
  refine congrArg (fun l_ => T.sl true 2 (List.map (eClue true) l_)) ?_
  exact fill_done fhc0
theorem W_laws_toDraft (n : Nat) (a : D.Draft) (ha : zDraft a ≤ mx) : Pure (acall Try.prog (n + 5)) 10 [(T.agg (eDraft false a))] (T.agg (eDraft true a)) := by
  refine Pure.intro (rs := [ResultVar.cell 2 32]) Try.func10 rfl rfl rfl (E0 := [(0, (T.agg (eDraft false a)))]) rfl ?_
  have hlim : lim = 1099511627776 := rfl
  have hmx : mx = 1048576 := rfl
  have hmax : maxLen = 9223372036854775807 := rfl
  simp only [zDraft] at ha
  have hla_Clues := zL_len (z := zClue) a.Clues
  refine sr ?_
  refine kO (B.box (ts := (eDraft false a)) (tv (T.agg (eDraft false a)) rfl) nofun rfl) ?_
  refine kO (B.alloc (t := (T.agg [(tN 0), (tN 0), (tS ByteArray.empty), (tS ByteArray.empty), T.nils, (tN 0)])) (ts := [(tN 0), (tN 0), (tS ByteArray.empty), (tS ByteArray.empty), T.nils, (tN 0)]) zo32 zc32 nofun (fun _ => .agg _ _ rfl (RLof (RL.cons (.int _ _) (RL.cons (.int _ _) (RL.cons (.str _) (RL.cons (.str _) (RL.cons (.nils) (RL.cons (.int _ _) (RL.nil _))))))))) rfl) ?_
  refine nt ?_
  refine sr ?_
  refine kO (B.alloc (t := (T.agg [(tN 0), (tN 0), (tS ByteArray.empty), (tS ByteArray.empty), T.nils, (tN 0)])) (ts := [(tN 0), (tN 0), (tS ByteArray.empty), (tS ByteArray.empty), T.nils, (tN 0)]) zo32 zc32 nofun (fun _ => .agg _ _ rfl (RLof (RL.cons (.int _ _) (RL.cons (.int _ _) (RL.cons (.str _) (RL.cons (.str _) (RL.cons (.nils) (RL.cons (.int _ _) (RL.nil _))))))))) rfl) ?_
  refine nt ?_
  refine sr ?_
  refine fO (OF.fieldAddrO (tv (T.op 0 0) rfl) fa26_0) ?_
  refine lO (OL.loadOn (us := (eGrid false a.Grid)) (tv (T.op 0 0) rfl) rfl st23 sz23 (Nat.le_of_ble_eq_true rfl) rfl) ?_
  refine cO (cS (vc (tv (T.agg (eGrid false a.Grid)) rfl) VEvs.nil) (LendL.cons (lg okeGrid) (LendL.nil)) (W_laws_toGrid (n + 3) a.Grid ) rfl rfl) ?_
  refine fO (OF.fieldAddrO (tv (T.op 2 0) rfl) fa32_0) ?_
  refine cO (B.storeO (us := (eGrid true a.Grid)) (ws := [(tI a.Grid.Rows), (tI a.Grid.Cols), (tS a.Grid.Cells), (tS ByteArray.empty), T.nils, (tN 0)]) (tv (T.op 2 0) rfl) (tv (T.agg (eGrid true a.Grid)) rfl) nofun rfl rfl (Nat.le_of_ble_eq_true rfl) if29 sz29 (ball_cons rfl (ball_cons rfl (ball_cons rfl (ball_nil)))) rfl) ?_
  refine nt ?_
  refine sr ?_
  refine fO (OF.fieldAddrO (tv (T.op 0 0) rfl) fa26_1) ?_
  refine lO (OL.loadO1 (t := (tS a.Fill)) (tv (T.op 0 3) rfl) rfl rfl st9) ?_
  refine fO (OF.fieldAddrO (tv (T.op 2 0) rfl) fa32_1) ?_
  refine cO (B.storeO (us := [(tS a.Fill)]) (ws := [(tI a.Grid.Rows), (tI a.Grid.Cols), (tS a.Grid.Cells), (tS a.Fill), T.nils, (tN 0)]) (tv (T.op 2 3) rfl) (tv (tS a.Fill) rfl) nofun rfl rfl (Nat.le_of_ble_eq_true rfl) if9 sz9 (ball_cons rfl (ball_nil)) rfl) ?_
  refine nt ?_
  refine sr ?_
  refine fO (OF.fieldAddrO (tv (T.op 0 0) rfl) fa26_2) ?_
  refine lO (OL.loadO1 (t := (rd 2 eClue a.Clues)) (tv (T.op 0 4) rfl) rfl rfl st24) ?_
  refine cO (OC.callF (us := [(rd 2 eClue a.Clues)]) (r := (T.sl true 2 (a.Clues.map (eClue true)))) (r' := (T.os 2 3 0 ((a.Clues.map (eClue true)).length))) (objs := [(Obj.rows 2 (a.Clues.map (eClue true)))]) rfl (vc (tv (rd 2 eClue a.Clues) rfl) VEvs.nil) (lp rfl (LendL.nil)) (W_laws_toClueS (n + 0) a.Clues (by first | assumption | omega)) rfl) ?_
  refine fO (OF.fieldAddrO (tv (T.op 2 0) rfl) fa32_2) ?_
  refine cO (B.storeO (us := [(T.os 2 3 0 ((a.Clues.map (eClue true)).length))]) (ws := [(tI a.Grid.Rows), (tI a.Grid.Cols), (tS a.Grid.Cells), (tS a.Fill), (T.os 2 3 0 ((a.Clues.map (eClue true)).length)), (tN 0)]) (tv (T.op 2 4) rfl) (tv (T.os 2 3 0 ((a.Clues.map (eClue true)).length)) rfl) nofun rfl rfl (Nat.le_of_ble_eq_true rfl) if30 sz30 (ball_cons rfl (ball_nil)) rfl) ?_
  refine nt ?_
  refine sr ?_
  refine fO (OF.fieldAddrO (tv (T.op 0 0) rfl) fa26_3) ?_
  refine lO (OL.loadO1 (t := (tI a.Version)) (tv (T.op 0 5) rfl) rfl rfl st3) ?_
  refine fO (OF.fieldAddrO (tv (T.op 2 0) rfl) fa32_3) ?_
  refine cO (B.storeO (us := [(tI a.Version)]) (ws := [(tI a.Grid.Rows), (tI a.Grid.Cols), (tS a.Grid.Cells), (tS a.Fill), (T.os 2 3 0 ((a.Clues.map (eClue true)).length)), (tI a.Version)]) (tv (T.op 2 5) rfl) (tv (tI a.Version) rfl) nofun rfl rfl (Nat.le_of_ble_eq_true rfl) if3 sz3 (ball_cons rfl (ball_nil)) rfl) ?_
  refine nt ?_
  refine sr ?_
  refine lO (OL.loadOn (us := [(tI a.Grid.Rows), (tI a.Grid.Cols), (tS a.Grid.Cells), (tS a.Fill), (T.os 2 3 0 ((a.Clues.map (eClue true)).length)), (tI a.Version)]) (tv (T.op 2 0) rfl) rfl st32 sz32 (Nat.le_of_ble_eq_true rfl) rfl) ?_
  refine cO (B.storeO (us := [(tI a.Grid.Rows), (tI a.Grid.Cols), (tS a.Grid.Cells), (tS a.Fill), (T.os 2 3 0 ((a.Clues.map (eClue true)).length)), (tI a.Version)]) (ws := [(tI a.Grid.Rows), (tI a.Grid.Cols), (tS a.Grid.Cells), (tS a.Fill), (T.os 2 3 0 ((a.Clues.map (eClue true)).length)), (tI a.Version)]) (tv (T.op 1 0) rfl) (tv (T.agg [(tI a.Grid.Rows), (tI a.Grid.Cols), (tS a.Grid.Cells), (tS a.Fill), (T.os 2 3 0 ((a.Clues.map (eClue true)).length)), (tI a.Version)]) rfl) nofun rfl rfl (Nat.le_of_ble_eq_true rfl) if32 sz32 (ball_cons rfl (ball_cons rfl (ball_cons rfl (ball_cons rfl (ball_cons rfl (ball_cons rfl (ball_nil))))))) rfl) ?_
  refine nt ?_
  refine rt ?_
  refine vfin.eq (r' := (T.agg [(tI a.Grid.Rows), (tI a.Grid.Cols), (tS a.Grid.Cells), (tS a.Fill), (T.sl true 2 (a.Clues.map (eClue true))), (tI a.Version)])) ?_ (vfin.r (VRes.celln (ws := [(tI a.Grid.Rows), (tI a.Grid.Cols), (tS a.Grid.Cells), (tS a.Fill), (T.os 2 3 0 ((a.Clues.map (eClue true)).length)), (tI a.Version)]) rfl rfl st32 sz32 (Nat.le_of_ble_eq_true rfl) rfl VRes.nil) (Give.agg (GiveL.cons (Give.int _ _) (GiveL.cons (Give.int _ _) (GiveL.cons (Give.str _) (GiveL.cons (Give.str _) (GiveL.cons (Give.os rfl rfl (okeClue.cleanMap _)) (GiveL.cons (Give.int _ _) GiveL.nil (by decide)) (by decide)) (by decide)) (by decide)) (by decide)) (by decide))))
  show (T.agg [(tI a.Grid.Rows), (tI a.Grid.Cols), (tS a.Grid.Cells), (tS a.Fill), (T.sl true 2 (a.Clues.map (eClue true))), (tI a.Version)]) = (T.agg (eDraft true a))
  first | rfl | (exact decN (by omega)) | (symm; rw [decide_eq_false_iff_not]; omega) | (symm; rw [decide_eq_true_eq]; omega) | (simp_all; done)
theorem W_laws_toListed (n : Nat) (a : D.Listed)  : Pure (acall Try.prog (n + 1)) 126 [(T.agg (eListed false a))] (T.agg (eListed true a)) := by
  refine Pure.intro (rs := [ResultVar.cell 2 111]) Try.func126 rfl rfl rfl (E0 := [(0, (T.agg (eListed false a)))]) rfl ?_
  have hlim : lim = 1099511627776 := rfl
  have hmx : mx = 1048576 := rfl
  have hmax : maxLen = 9223372036854775807 := rfl
  refine sr ?_
  refine kO (B.box (ts := (eListed false a)) (tv (T.agg (eListed false a)) rfl) nofun rfl) ?_
  refine kO (B.alloc (t := (T.agg [(tS ByteArray.empty), (tN 0), (tN 0), (tN 0)])) (ts := [(tS ByteArray.empty), (tN 0), (tN 0), (tN 0)]) zo111 zc111 nofun (fun _ => .agg _ _ rfl (RLof (RL.cons (.str _) (RL.cons (.int _ _) (RL.cons (.int _ _) (RL.cons (.int _ _) (RL.nil _))))))) rfl) ?_
  refine nt ?_
  refine sr ?_
  refine kO (B.alloc (t := (T.agg [(tS ByteArray.empty), (tN 0), (tN 0), (tN 0)])) (ts := [(tS ByteArray.empty), (tN 0), (tN 0), (tN 0)]) zo111 zc111 nofun (fun _ => .agg _ _ rfl (RLof (RL.cons (.str _) (RL.cons (.int _ _) (RL.cons (.int _ _) (RL.cons (.int _ _) (RL.nil _))))))) rfl) ?_
  refine nt ?_
  refine sr ?_
  refine fO (OF.fieldAddrO (tv (T.op 0 0) rfl) fa153_0) ?_
  refine lO (OL.loadO1 (t := (tS a.Word)) (tv (T.op 0 0) rfl) rfl rfl st9) ?_
  refine fO (OF.fieldAddrO (tv (T.op 2 0) rfl) fa111_0) ?_
  refine cO (B.storeO (us := [(tS a.Word)]) (ws := [(tS a.Word), (tN 0), (tN 0), (tN 0)]) (tv (T.op 2 0) rfl) (tv (tS a.Word) rfl) nofun rfl rfl (Nat.le_of_ble_eq_true rfl) if9 sz9 (ball_cons rfl (ball_nil)) rfl) ?_
  refine nt ?_
  refine sr ?_
  refine fO (OF.fieldAddrO (tv (T.op 0 0) rfl) fa153_1) ?_
  refine lO (OL.loadO1 (t := (tI a.From)) (tv (T.op 0 1) rfl) rfl rfl st3) ?_
  refine fO (OF.fieldAddrO (tv (T.op 2 0) rfl) fa111_1) ?_
  refine cO (B.storeO (us := [(tI a.From)]) (ws := [(tS a.Word), (tI a.From), (tN 0), (tN 0)]) (tv (T.op 2 1) rfl) (tv (tI a.From) rfl) nofun rfl rfl (Nat.le_of_ble_eq_true rfl) if3 sz3 (ball_cons rfl (ball_nil)) rfl) ?_
  refine nt ?_
  refine sr ?_
  refine fO (OF.fieldAddrO (tv (T.op 0 0) rfl) fa153_2) ?_
  refine lO (OL.loadO1 (t := (tI a.Until)) (tv (T.op 0 2) rfl) rfl rfl st3) ?_
  refine fO (OF.fieldAddrO (tv (T.op 2 0) rfl) fa111_2) ?_
  refine cO (B.storeO (us := [(tI a.Until)]) (ws := [(tS a.Word), (tI a.From), (tI a.Until), (tN 0)]) (tv (T.op 2 2) rfl) (tv (tI a.Until) rfl) nofun rfl rfl (Nat.le_of_ble_eq_true rfl) if3 sz3 (ball_cons rfl (ball_nil)) rfl) ?_
  refine nt ?_
  refine sr ?_
  refine fO (OF.fieldAddrO (tv (T.op 0 0) rfl) fa153_3) ?_
  refine lO (OL.loadO1 (t := (tI a.Score)) (tv (T.op 0 3) rfl) rfl rfl st3) ?_
  refine fO (OF.fieldAddrO (tv (T.op 2 0) rfl) fa111_3) ?_
  refine cO (B.storeO (us := [(tI a.Score)]) (ws := [(tS a.Word), (tI a.From), (tI a.Until), (tI a.Score)]) (tv (T.op 2 3) rfl) (tv (tI a.Score) rfl) nofun rfl rfl (Nat.le_of_ble_eq_true rfl) if3 sz3 (ball_cons rfl (ball_nil)) rfl) ?_
  refine nt ?_
  refine sr ?_
  refine lO (OL.loadOn (us := (eListed false a)) (tv (T.op 2 0) rfl) rfl st111 sz111 (Nat.le_of_ble_eq_true rfl) rfl) ?_
  refine cO (B.storeO (us := (eListed false a)) (ws := (eListed false a)) (tv (T.op 1 0) rfl) (tv (T.agg (eListed false a)) rfl) nofun rfl rfl (Nat.le_of_ble_eq_true rfl) if111 sz111 (ball_cons rfl (ball_cons rfl (ball_cons rfl (ball_cons rfl (ball_nil))))) rfl) ?_
  refine nt ?_
  refine rt ?_
  refine vfin.eq (r' := (T.agg (eListed false a))) ?_ (vfin.r (VRes.celln (ws := (eListed false a)) rfl rfl st111 sz111 (Nat.le_of_ble_eq_true rfl) rfl VRes.nil) (Give.agg (GiveL.cons (Give.str _) (GiveL.cons (Give.int _ _) (GiveL.cons (Give.int _ _) (GiveL.cons (Give.int _ _) GiveL.nil (by decide)) (by decide)) (by decide)) (by decide))))
  show (T.agg (eListed false a)) = (T.agg (eListed true a))
  first | rfl | (exact decN (by omega)) | (symm; rw [decide_eq_false_iff_not]; omega) | (symm; rw [decide_eq_true_eq]; omega) | (simp_all; done)
theorem W_laws_toListedS (n : Nat) (a : List D.Listed) (ha : a.length ≤ mx) : Pure (acall Try.prog (n + 2)) 63 [(rd 4 eListed a)] (T.sl true 4 (a.map (eListed true))) := by
  refine Pure.intro (rs := [ResultVar.tmp 2]) Try.func63 rfl rfl rfl (E0 := [(0, (rd 4 eListed a))]) rfl ?_
  have hlim : lim = 1099511627776 := rfl
  have hmx : mx = 1048576 := rfl
  have hmax : maxLen = 9223372036854775807 := rfl
  refine sr ?_
  refine fO (OF.assign VEv.nils) ?_
  refine nt ?_
  refine sr ?_
  refine mO (rd 4 eListed a) rfl ?_
  refine lO (B.lenR (m := a.length) (tv (rd 4 eListed a) rfl) Try.underlying36 (List.length_map ..)) ?_
  refine kO (B.makeZ (n := a.length) (m := ((List.replicate a.length (D.Listed.mk ByteArray.empty 0 0 0)).map (eListed true)).length) (rows := ((List.replicate a.length (D.Listed.mk ByteArray.empty 0 0 0)).map (eListed true))) (zr := (eListed true (D.Listed.mk ByteArray.empty 0 0 0))) (tv (tN a.length) rfl) (tv (tN a.length) rfl) rfl Try.underlying46 zo111 zc111 rfl (by rw [sz111]; decide) (by first | omega | (simp only [List.length_map]; omega) | (simp only [List.length_map, List.length_append, List.length_cons, List.length_nil, List.length_replicate, List.length_set, List.length_drop, List.length_take, lim] at *; omega)) (of_decide_eq_true (by kernel_rfl)) (Z0.str (Z0.int (Z0.int (Z0.int Z0.nil)))) sz111 (List.map_replicate ..).symm (by rw [List.length_map, List.length_replicate])) ?_
  refine aO (T.os 4 0 0 (((List.replicate a.length (D.Listed.mk ByteArray.empty 0 0 0)).map (eListed true)).length)) rfl ?_
  refine nt ?_
  refine sq ?_
  refine sr ?_
  refine fO (OF.assign (VEv.int .i64 0)) ?_
  refine nt ?_
  refine VRun.block ?_
  have he1 : (List.replicate a.length (D.Listed.mk ByteArray.empty 0 0 0)) = (a.take 0 ++ List.replicate (a.length - 0) (D.Listed.mk ByteArray.empty 0 0 0)) := by first | rfl | (exact fill_next hx1) | (simp; done) | omega
  refine VRun.loop (A := Nat) (fun s_ => [(0, (rd 4 eListed a)), (2, T.nils), (3, (T.os 4 0 0 (((a.take s_ ++ List.replicate (a.length - s_) (D.Listed.mk ByteArray.empty 0 0 0)).map (eListed true)).length))), (4, (tN s_))]) (fun s_ => mkO [(0, (Obj.rows 4 ((a.take s_ ++ List.replicate (a.length - s_) (D.Listed.mk ByteArray.empty 0 0 0)).map (eListed true))))]) 1 (fun s_ => s_ ≤ a.length) (fun s_ => a.length - s_) (0 : Nat) ?_ (Wk.mk (fun k => k) ?_ ?_ ?_) ?_
  · first | trivial | (simp; done) | omega | (constructor <;> simp)
  · exact (ball_cons ⟨rfl, rfl⟩ (ball_cons ⟨rfl, rfl⟩ (ball_cons ⟨(congrArg (fun l_ => T.os 4 0 0 (List.map (eListed true) l_).length) he1), rfl⟩ (ball_cons ⟨rfl, rfl⟩ (ball_nil)))))
  · exact (ball_cons ⟨(congrArg (fun l_ => some (Obj.rows 4 (List.map (eListed true) l_))) he1), (Nat.le_of_ble_eq_true rfl), rfl⟩ (ball_nil))
  · show List.Nodup ([0] : List Nat)
    decide
  rintro i hI
  have hI' : i ≤ a.length := hI
  clear hI
  show VRun _ _ _ [(0, (rd 4 eListed a)), (2, T.nils), (3, (T.os 4 0 0 (((a.take i ++ List.replicate (a.length - i) (D.Listed.mk ByteArray.empty 0 0 0)).map (eListed true)).length))), (4, (tN i))] (mkO [(0, (Obj.rows 4 ((a.take i ++ List.replicate (a.length - i) (D.Listed.mk ByteArray.empty 0 0 0)).map (eListed true))))]) 1 _
  have hfl := fill_at (w := (D.Listed.mk ByteArray.empty 0 0 0)) hI'
  refine sq ?_
  refine sr ?_
  refine mO (tN i) rfl ?_
  refine mO (rd 4 eListed a) rfl ?_
  refine lO (B.lenR (m := a.length) (tv (rd 4 eListed a) rfl) Try.underlying36 (List.length_map ..)) ?_
  refine fO (B.lss (c := (decide (i < a.length))) (tv (tN i) rfl) (tv (tN a.length) rfl) (by first | (exact decN (by omega)))) ?_
  refine nt ?_
  refine VRun.cond (tv (tB (decide (i < a.length))) rfl) (fun hc0 => ?_) (fun hc0 => ?_)
  · have fhc0 : i < a.length := of_decide_eq_true hc0
    refine sk ?_
    refine tn ?_
    refine sq ?_
    refine VRun.block ?_
    refine VRun.region ?_
    refine mO (T.os 4 0 0 (((a.take i ++ List.replicate (a.length - i) (D.Listed.mk ByteArray.empty 0 0 0)).map (eListed true)).length)) rfl ?_
    refine mO (tN i) rfl ?_
    refine mO (rd 4 eListed a) rfl ?_
    refine mO (tN i) rfl ?_
    obtain ⟨x1, hx1⟩ : ∃ x, a[i]? = some x := ⟨_, List.getElem?_eq_getElem (by first | omega)⟩
    refine fO (OF.indexAddrR (row := (eListed false x1)) (i := i) (tv (rd 4 eListed a) rfl) (tv (tN i) rfl) rfl (map_at _ hx1) Try.underlying36 sz153 if153) ?_
    refine lO (OL.loadRn (us := (eListed false x1)) (tv (T.rp (eListed false x1)) rfl) st153 sz153 (Nat.le_of_ble_eq_true rfl) rfl) ?_
    refine cO (cS (vc (tv (T.agg (eListed false x1)) rfl) VEvs.nil) (LendL.cons (lg okeListed) (LendL.nil)) (W_laws_toListed (n + 0) x1 ) rfl rfl) ?_
    obtain ⟨x2, hx2⟩ : ∃ x, (a.take i ++ List.replicate (a.length - i) (D.Listed.mk ByteArray.empty 0 0 0))[i]? = some x := ⟨_, List.getElem?_eq_getElem (by first | omega | (simp only [List.length_map]; omega) | (simp only [List.length_map, List.length_append, List.length_cons, List.length_nil, List.length_replicate, List.length_set, List.length_drop, List.length_take, lim] at *; omega))⟩
    refine fO (B.indexAddrO (i := i) (tv (T.os 4 0 0 (((a.take i ++ List.replicate (a.length - i) (D.Listed.mk ByteArray.empty 0 0 0)).map (eListed true)).length)) rfl) (tv (tN i) rfl) rfl (by first | omega | (simp only [List.length_map]; omega) | (simp only [List.length_map, List.length_append, List.length_cons, List.length_nil, List.length_replicate, List.length_set, List.length_drop, List.length_take, lim] at *; omega)) Try.underlying46 sz111 if111) ?_
    refine cO (B.storeP (us := (eListed true x1)) (rows' := (((a.take i ++ List.replicate (a.length - i) (D.Listed.mk ByteArray.empty 0 0 0)).set i x1).map (eListed true))) (row := (eListed true x2)) (tv (T.orp 4 0 i 0) rfl) (tv (T.agg (eListed true x1)) rfl) nofun rfl (map_at _ hx2) rfl (Nat.le_of_ble_eq_true rfl) if111 sz111 (ball_cons rfl (ball_cons rfl (ball_cons rfl (ball_cons rfl (ball_nil))))) (by intro r hr t ht; obtain ⟨x, _, rfl⟩ := List.mem_map.1 hr; rw [flListed] at ht; exact isPl_flat (okeListed.pl _ t ht)) (set_mapE rfl)) ?_
    refine VRunO.nil ?_
    refine vinB.n ?_
    refine tn ?_
    refine VRun.region ?_
    refine mO (tN i) rfl ?_
    refine fO (B.add (n := (((i + 1) : Nat) : Int)) (tv (tN i) rfl) (VEv.int .i64 1) (by first | rfl | (rw [wrap64 (by omega)]; omega) | (rw [wrap64 (by omega)]; done))) ?_
    refine aO (tN (i + 1)) rfl ?_
    refine VRunO.nil ?_
    refine tn ?_
    have he2 : ((a.take i ++ List.replicate (a.length - i) (D.Listed.mk ByteArray.empty 0 0 0)).set i x1) = (a.take (i + 1) ++ List.replicate (a.length - (i + 1)) (D.Listed.mk ByteArray.empty 0 0 0)) := by first | rfl | (exact fill_next hx1) | (simp; done) | omega
    refine ⟨(i + 1 : Nat), ?_, ?_, Wk.mk (fun k => k) ?_ ?_ ?_⟩
    · first | trivial | omega | (simp; done) | exact ⟨by omega, hI'.2⟩
    · first | omega | (simp only []; omega) | (show _ < _; omega) | (simp; omega)
    · exact (ball_cons ⟨rfl, rfl⟩ (ball_cons ⟨rfl, rfl⟩ (ball_cons ⟨(congrArg (fun n_ => T.os 4 0 0 n_) (show ((a.take i ++ List.replicate (a.length - i) (D.Listed.mk ByteArray.empty 0 0 0)).map (eListed true)).length = ((a.take (i + 1) ++ List.replicate (a.length - (i + 1)) (D.Listed.mk ByteArray.empty 0 0 0)).map (eListed true)).length from (by first | rfl | (simp only [List.length_map]; omega) | (simp only [List.length_map, List.length_set, List.length_append, List.length_take, List.length_replicate, List.length_cons, List.length_nil]; omega)))), rfl⟩ (ball_cons ⟨rfl, rfl⟩ (ball_nil)))))
    · exact (ball_cons ⟨(congrArg (fun l_ => some (Obj.rows 4 (List.map (eListed true) l_))) he2), (Nat.le_of_ble_eq_true rfl), rfl⟩ (ball_nil))
    · show List.Nodup ([0] : List Nat)
      decide
  have fhc0 : ¬ (i < a.length) := of_decide_eq_false hc0
  refine VRun.exit ?_
  refine vthn.e ?_
  refine vthn.e ?_
  refine vinB.e ?_
  refine tn ?_
  refine sr ?_
  refine mO (T.os 4 0 0 (((a.take i ++ List.replicate (a.length - i) (D.Listed.mk ByteArray.empty 0 0 0)).map (eListed true)).length)) rfl ?_
  refine aO (T.os 4 0 0 (((a.take i ++ List.replicate (a.length - i) (D.Listed.mk ByteArray.empty 0 0 0)).map (eListed true)).length)) rfl ?_
  refine nt ?_
  refine rt ?_
  refine vfin.eq (r' := (T.sl true 4 ((a.take i ++ List.replicate (a.length - i) (D.Listed.mk ByteArray.empty 0 0 0)).map (eListed true)))) ?_ (vfin.r (VRes.tmp (t := (T.os 4 0 0 (((a.take i ++ List.replicate (a.length - i) (D.Listed.mk ByteArray.empty 0 0 0)).map (eListed true)).length))) rfl VRes.nil) (Give.os rfl rfl (okeListed.cleanMap _)))
  show (T.sl true 4 ((a.take i ++ List.replicate (a.length - i) (D.Listed.mk ByteArray.empty 0 0 0)).map (eListed true))) = (T.sl true 4 (a.map (eListed true)))
  refine congrArg (fun l_ => T.sl true 4 (List.map (eListed true) l_)) ?_
  exact fill_done fhc0
theorem W_laws_toMeaning (n : Nat) (a : D.Meaning)  : Pure (acall Try.prog (n + 1)) 127 [(T.agg (eMeaning false a))] (T.agg (eMeaning true a)) := by
  refine Pure.intro (rs := [ResultVar.cell 2 114]) Try.func127 rfl rfl rfl (E0 := [(0, (T.agg (eMeaning false a)))]) rfl ?_
  have hlim : lim = 1099511627776 := rfl
  have hmx : mx = 1048576 := rfl
  have hmax : maxLen = 9223372036854775807 := rfl
  refine sr ?_
  refine kO (B.box (ts := (eMeaning false a)) (tv (T.agg (eMeaning false a)) rfl) nofun rfl) ?_
  refine kO (B.alloc (t := (T.agg [(tS ByteArray.empty), (tN 0)])) (ts := [(tS ByteArray.empty), (tN 0)]) zo114 zc114 nofun (fun _ => .agg _ _ rfl (RLof (RL.cons (.str _) (RL.cons (.int _ _) (RL.nil _))))) rfl) ?_
  refine nt ?_
  refine sr ?_
  refine kO (B.alloc (t := (T.agg [(tS ByteArray.empty), (tN 0)])) (ts := [(tS ByteArray.empty), (tN 0)]) zo114 zc114 nofun (fun _ => .agg _ _ rfl (RLof (RL.cons (.str _) (RL.cons (.int _ _) (RL.nil _))))) rfl) ?_
  refine nt ?_
  refine sr ?_
  refine fO (OF.fieldAddrO (tv (T.op 0 0) rfl) fa155_0) ?_
  refine lO (OL.loadO1 (t := (tS a.Word)) (tv (T.op 0 0) rfl) rfl rfl st9) ?_
  refine fO (OF.fieldAddrO (tv (T.op 2 0) rfl) fa114_0) ?_
  refine cO (B.storeO (us := [(tS a.Word)]) (ws := [(tS a.Word), (tN 0)]) (tv (T.op 2 0) rfl) (tv (tS a.Word) rfl) nofun rfl rfl (Nat.le_of_ble_eq_true rfl) if9 sz9 (ball_cons rfl (ball_nil)) rfl) ?_
  refine nt ?_
  refine sr ?_
  refine fO (OF.fieldAddrO (tv (T.op 0 0) rfl) fa155_1) ?_
  refine lO (OL.loadO1 (t := (tI a.Sense)) (tv (T.op 0 1) rfl) rfl rfl st3) ?_
  refine fO (OF.fieldAddrO (tv (T.op 2 0) rfl) fa114_1) ?_
  refine cO (B.storeO (us := [(tI a.Sense)]) (ws := [(tS a.Word), (tI a.Sense)]) (tv (T.op 2 1) rfl) (tv (tI a.Sense) rfl) nofun rfl rfl (Nat.le_of_ble_eq_true rfl) if3 sz3 (ball_cons rfl (ball_nil)) rfl) ?_
  refine nt ?_
  refine sr ?_
  refine lO (OL.loadOn (us := (eMeaning false a)) (tv (T.op 2 0) rfl) rfl st114 sz114 (Nat.le_of_ble_eq_true rfl) rfl) ?_
  refine cO (B.storeO (us := (eMeaning false a)) (ws := (eMeaning false a)) (tv (T.op 1 0) rfl) (tv (T.agg (eMeaning false a)) rfl) nofun rfl rfl (Nat.le_of_ble_eq_true rfl) if114 sz114 (ball_cons rfl (ball_cons rfl (ball_nil))) rfl) ?_
  refine nt ?_
  refine rt ?_
  refine vfin.eq (r' := (T.agg (eMeaning false a))) ?_ (vfin.r (VRes.celln (ws := (eMeaning false a)) rfl rfl st114 sz114 (Nat.le_of_ble_eq_true rfl) rfl VRes.nil) (Give.agg (GiveL.cons (Give.str _) (GiveL.cons (Give.int _ _) GiveL.nil (by decide)) (by decide))))
  show (T.agg (eMeaning false a)) = (T.agg (eMeaning true a))
  first | rfl | (exact decN (by omega)) | (symm; rw [decide_eq_false_iff_not]; omega) | (symm; rw [decide_eq_true_eq]; omega) | (simp_all; done)
theorem W_laws_toMeaningS (n : Nat) (a : List D.Meaning) (ha : a.length ≤ mx) : Pure (acall Try.prog (n + 2)) 64 [(rd 2 eMeaning a)] (T.sl true 2 (a.map (eMeaning true))) := by
  refine Pure.intro (rs := [ResultVar.tmp 2]) Try.func64 rfl rfl rfl (E0 := [(0, (rd 2 eMeaning a))]) rfl ?_
  have hlim : lim = 1099511627776 := rfl
  have hmx : mx = 1048576 := rfl
  have hmax : maxLen = 9223372036854775807 := rfl
  refine sr ?_
  refine fO (OF.assign VEv.nils) ?_
  refine nt ?_
  refine sr ?_
  refine mO (rd 2 eMeaning a) rfl ?_
  refine lO (B.lenR (m := a.length) (tv (rd 2 eMeaning a) rfl) Try.underlying37 (List.length_map ..)) ?_
  refine kO (B.makeZ (n := a.length) (m := ((List.replicate a.length (D.Meaning.mk ByteArray.empty 0)).map (eMeaning true)).length) (rows := ((List.replicate a.length (D.Meaning.mk ByteArray.empty 0)).map (eMeaning true))) (zr := (eMeaning true (D.Meaning.mk ByteArray.empty 0))) (tv (tN a.length) rfl) (tv (tN a.length) rfl) rfl Try.underlying47 zo114 zc114 rfl (by rw [sz114]; decide) (by first | omega | (simp only [List.length_map]; omega) | (simp only [List.length_map, List.length_append, List.length_cons, List.length_nil, List.length_replicate, List.length_set, List.length_drop, List.length_take, lim] at *; omega)) (of_decide_eq_true (by kernel_rfl)) (Z0.str (Z0.int Z0.nil)) sz114 (List.map_replicate ..).symm (by rw [List.length_map, List.length_replicate])) ?_
  refine aO (T.os 2 0 0 (((List.replicate a.length (D.Meaning.mk ByteArray.empty 0)).map (eMeaning true)).length)) rfl ?_
  refine nt ?_
  refine sq ?_
  refine sr ?_
  refine fO (OF.assign (VEv.int .i64 0)) ?_
  refine nt ?_
  refine VRun.block ?_
  have he1 : (List.replicate a.length (D.Meaning.mk ByteArray.empty 0)) = (a.take 0 ++ List.replicate (a.length - 0) (D.Meaning.mk ByteArray.empty 0)) := by first | rfl | (exact fill_next hx1) | (simp; done) | omega
  refine VRun.loop (A := Nat) (fun s_ => [(0, (rd 2 eMeaning a)), (2, T.nils), (3, (T.os 2 0 0 (((a.take s_ ++ List.replicate (a.length - s_) (D.Meaning.mk ByteArray.empty 0)).map (eMeaning true)).length))), (4, (tN s_))]) (fun s_ => mkO [(0, (Obj.rows 2 ((a.take s_ ++ List.replicate (a.length - s_) (D.Meaning.mk ByteArray.empty 0)).map (eMeaning true))))]) 1 (fun s_ => s_ ≤ a.length) (fun s_ => a.length - s_) (0 : Nat) ?_ (Wk.mk (fun k => k) ?_ ?_ ?_) ?_
  · first | trivial | (simp; done) | omega | (constructor <;> simp)
  · exact (ball_cons ⟨rfl, rfl⟩ (ball_cons ⟨rfl, rfl⟩ (ball_cons ⟨(congrArg (fun l_ => T.os 2 0 0 (List.map (eMeaning true) l_).length) he1), rfl⟩ (ball_cons ⟨rfl, rfl⟩ (ball_nil)))))
  · exact (ball_cons ⟨(congrArg (fun l_ => some (Obj.rows 2 (List.map (eMeaning true) l_))) he1), (Nat.le_of_ble_eq_true rfl), rfl⟩ (ball_nil))
  · show List.Nodup ([0] : List Nat)
    decide
  rintro i hI
  have hI' : i ≤ a.length := hI
  clear hI
  show VRun _ _ _ [(0, (rd 2 eMeaning a)), (2, T.nils), (3, (T.os 2 0 0 (((a.take i ++ List.replicate (a.length - i) (D.Meaning.mk ByteArray.empty 0)).map (eMeaning true)).length))), (4, (tN i))] (mkO [(0, (Obj.rows 2 ((a.take i ++ List.replicate (a.length - i) (D.Meaning.mk ByteArray.empty 0)).map (eMeaning true))))]) 1 _
  have hfl := fill_at (w := (D.Meaning.mk ByteArray.empty 0)) hI'
  refine sq ?_
  refine sr ?_
  refine mO (tN i) rfl ?_
  refine mO (rd 2 eMeaning a) rfl ?_
  refine lO (B.lenR (m := a.length) (tv (rd 2 eMeaning a) rfl) Try.underlying37 (List.length_map ..)) ?_
  refine fO (B.lss (c := (decide (i < a.length))) (tv (tN i) rfl) (tv (tN a.length) rfl) (by first | (exact decN (by omega)))) ?_
  refine nt ?_
  refine VRun.cond (tv (tB (decide (i < a.length))) rfl) (fun hc0 => ?_) (fun hc0 => ?_)
  · have fhc0 : i < a.length := of_decide_eq_true hc0
    refine sk ?_
    refine tn ?_
    refine sq ?_
    refine VRun.block ?_
    refine VRun.region ?_
    refine mO (T.os 2 0 0 (((a.take i ++ List.replicate (a.length - i) (D.Meaning.mk ByteArray.empty 0)).map (eMeaning true)).length)) rfl ?_
    refine mO (tN i) rfl ?_
    refine mO (rd 2 eMeaning a) rfl ?_
    refine mO (tN i) rfl ?_
    obtain ⟨x1, hx1⟩ : ∃ x, a[i]? = some x := ⟨_, List.getElem?_eq_getElem (by first | omega)⟩
    refine fO (OF.indexAddrR (row := (eMeaning false x1)) (i := i) (tv (rd 2 eMeaning a) rfl) (tv (tN i) rfl) rfl (map_at _ hx1) Try.underlying37 sz155 if155) ?_
    refine lO (OL.loadRn (us := (eMeaning false x1)) (tv (T.rp (eMeaning false x1)) rfl) st155 sz155 (Nat.le_of_ble_eq_true rfl) rfl) ?_
    refine cO (cS (vc (tv (T.agg (eMeaning false x1)) rfl) VEvs.nil) (LendL.cons (lg okeMeaning) (LendL.nil)) (W_laws_toMeaning (n + 0) x1 ) rfl rfl) ?_
    obtain ⟨x2, hx2⟩ : ∃ x, (a.take i ++ List.replicate (a.length - i) (D.Meaning.mk ByteArray.empty 0))[i]? = some x := ⟨_, List.getElem?_eq_getElem (by first | omega | (simp only [List.length_map]; omega) | (simp only [List.length_map, List.length_append, List.length_cons, List.length_nil, List.length_replicate, List.length_set, List.length_drop, List.length_take, lim] at *; omega))⟩
    refine fO (B.indexAddrO (i := i) (tv (T.os 2 0 0 (((a.take i ++ List.replicate (a.length - i) (D.Meaning.mk ByteArray.empty 0)).map (eMeaning true)).length)) rfl) (tv (tN i) rfl) rfl (by first | omega | (simp only [List.length_map]; omega) | (simp only [List.length_map, List.length_append, List.length_cons, List.length_nil, List.length_replicate, List.length_set, List.length_drop, List.length_take, lim] at *; omega)) Try.underlying47 sz114 if114) ?_
    refine cO (B.storeP (us := (eMeaning true x1)) (rows' := (((a.take i ++ List.replicate (a.length - i) (D.Meaning.mk ByteArray.empty 0)).set i x1).map (eMeaning true))) (row := (eMeaning true x2)) (tv (T.orp 2 0 i 0) rfl) (tv (T.agg (eMeaning true x1)) rfl) nofun rfl (map_at _ hx2) rfl (Nat.le_of_ble_eq_true rfl) if114 sz114 (ball_cons rfl (ball_cons rfl (ball_nil))) (by intro r hr t ht; obtain ⟨x, _, rfl⟩ := List.mem_map.1 hr; rw [flMeaning] at ht; exact isPl_flat (okeMeaning.pl _ t ht)) (set_mapE rfl)) ?_
    refine VRunO.nil ?_
    refine vinB.n ?_
    refine tn ?_
    refine VRun.region ?_
    refine mO (tN i) rfl ?_
    refine fO (B.add (n := (((i + 1) : Nat) : Int)) (tv (tN i) rfl) (VEv.int .i64 1) (by first | rfl | (rw [wrap64 (by omega)]; omega) | (rw [wrap64 (by omega)]; done))) ?_
    refine aO (tN (i + 1)) rfl ?_
    refine VRunO.nil ?_
    refine tn ?_
    have he2 : ((a.take i ++ List.replicate (a.length - i) (D.Meaning.mk ByteArray.empty 0)).set i x1) = (a.take (i + 1) ++ List.replicate (a.length - (i + 1)) (D.Meaning.mk ByteArray.empty 0)) := by first | rfl | (exact fill_next hx1) | (simp; done) | omega
    refine ⟨(i + 1 : Nat), ?_, ?_, Wk.mk (fun k => k) ?_ ?_ ?_⟩
    · first | trivial | omega | (simp; done) | exact ⟨by omega, hI'.2⟩
    · first | omega | (simp only []; omega) | (show _ < _; omega) | (simp; omega)
    · exact (ball_cons ⟨rfl, rfl⟩ (ball_cons ⟨rfl, rfl⟩ (ball_cons ⟨(congrArg (fun n_ => T.os 2 0 0 n_) (show ((a.take i ++ List.replicate (a.length - i) (D.Meaning.mk ByteArray.empty 0)).map (eMeaning true)).length = ((a.take (i + 1) ++ List.replicate (a.length - (i + 1)) (D.Meaning.mk ByteArray.empty 0)).map (eMeaning true)).length from (by first | rfl | (simp only [List.length_map]; omega) | (simp only [List.length_map, List.length_set, List.length_append, List.length_take, List.length_replicate, List.length_cons, List.length_nil]; omega)))), rfl⟩ (ball_cons ⟨rfl, rfl⟩ (ball_nil)))))
    · exact (ball_cons ⟨(congrArg (fun l_ => some (Obj.rows 2 (List.map (eMeaning true) l_))) he2), (Nat.le_of_ble_eq_true rfl), rfl⟩ (ball_nil))
    · show List.Nodup ([0] : List Nat)
      decide
  have fhc0 : ¬ (i < a.length) := of_decide_eq_false hc0
  refine VRun.exit ?_
  refine vthn.e ?_
  refine vthn.e ?_
  refine vinB.e ?_
  refine tn ?_
  refine sr ?_
  refine mO (T.os 2 0 0 (((a.take i ++ List.replicate (a.length - i) (D.Meaning.mk ByteArray.empty 0)).map (eMeaning true)).length)) rfl ?_
  refine aO (T.os 2 0 0 (((a.take i ++ List.replicate (a.length - i) (D.Meaning.mk ByteArray.empty 0)).map (eMeaning true)).length)) rfl ?_
  refine nt ?_
  refine rt ?_
  refine vfin.eq (r' := (T.sl true 2 ((a.take i ++ List.replicate (a.length - i) (D.Meaning.mk ByteArray.empty 0)).map (eMeaning true)))) ?_ (vfin.r (VRes.tmp (t := (T.os 2 0 0 (((a.take i ++ List.replicate (a.length - i) (D.Meaning.mk ByteArray.empty 0)).map (eMeaning true)).length))) rfl VRes.nil) (Give.os rfl rfl (okeMeaning.cleanMap _)))
  show (T.sl true 2 ((a.take i ++ List.replicate (a.length - i) (D.Meaning.mk ByteArray.empty 0)).map (eMeaning true))) = (T.sl true 2 (a.map (eMeaning true)))
  refine congrArg (fun l_ => T.sl true 2 (List.map (eMeaning true) l_)) ?_
  exact fill_done fhc0
theorem W_laws_toPuzzle (n : Nat) (a : D.Puzzle) (ha : zPuzzle a ≤ mx) : Pure (acall Try.prog (n + 5)) 163 [(T.agg (ePuzzle false a))] (T.agg (ePuzzle true a)) := by
  refine Pure.intro (rs := [ResultVar.cell 2 98]) Try.func163 rfl rfl rfl (E0 := [(0, (T.agg (ePuzzle false a)))]) rfl ?_
  have hlim : lim = 1099511627776 := rfl
  have hmx : mx = 1048576 := rfl
  have hmax : maxLen = 9223372036854775807 := rfl
  simp only [zPuzzle] at ha
  have hla_Clues := zL_len (z := zClue) a.Clues
  have hla_Seals := zL_len (z := zI) a.Seals
  refine sr ?_
  refine kO (B.box (ts := (ePuzzle false a)) (tv (T.agg (ePuzzle false a)) rfl) nofun rfl) ?_
  refine kO (B.alloc (t := (T.agg [(tN 0), (tN 0), (tS ByteArray.empty), T.nils, T.nils, (tN 0)])) (ts := [(tN 0), (tN 0), (tS ByteArray.empty), T.nils, T.nils, (tN 0)]) zo98 zc98 nofun (fun _ => .agg _ _ rfl (RLof (RL.cons (.int _ _) (RL.cons (.int _ _) (RL.cons (.str _) (RL.cons (.nils) (RL.cons (.nils) (RL.cons (.int _ _) (RL.nil _))))))))) rfl) ?_
  refine nt ?_
  refine sr ?_
  refine kO (B.alloc (t := (T.agg [(tN 0), (tN 0), (tS ByteArray.empty), T.nils, T.nils, (tN 0)])) (ts := [(tN 0), (tN 0), (tS ByteArray.empty), T.nils, T.nils, (tN 0)]) zo98 zc98 nofun (fun _ => .agg _ _ rfl (RLof (RL.cons (.int _ _) (RL.cons (.int _ _) (RL.cons (.str _) (RL.cons (.nils) (RL.cons (.nils) (RL.cons (.int _ _) (RL.nil _))))))))) rfl) ?_
  refine nt ?_
  refine sr ?_
  refine fO (OF.fieldAddrO (tv (T.op 0 0) rfl) fa158_0) ?_
  refine lO (OL.loadOn (us := (eGrid false a.Grid)) (tv (T.op 0 0) rfl) rfl st23 sz23 (Nat.le_of_ble_eq_true rfl) rfl) ?_
  refine cO (cS (vc (tv (T.agg (eGrid false a.Grid)) rfl) VEvs.nil) (LendL.cons (lg okeGrid) (LendL.nil)) (W_laws_toGrid (n + 3) a.Grid ) rfl rfl) ?_
  refine fO (OF.fieldAddrO (tv (T.op 2 0) rfl) fa98_0) ?_
  refine cO (B.storeO (us := (eGrid true a.Grid)) (ws := [(tI a.Grid.Rows), (tI a.Grid.Cols), (tS a.Grid.Cells), T.nils, T.nils, (tN 0)]) (tv (T.op 2 0) rfl) (tv (T.agg (eGrid true a.Grid)) rfl) nofun rfl rfl (Nat.le_of_ble_eq_true rfl) if29 sz29 (ball_cons rfl (ball_cons rfl (ball_cons rfl (ball_nil)))) rfl) ?_
  refine nt ?_
  refine sr ?_
  refine fO (OF.fieldAddrO (tv (T.op 0 0) rfl) fa158_1) ?_
  refine lO (OL.loadO1 (t := (rd 2 eClue a.Clues)) (tv (T.op 0 3) rfl) rfl rfl st24) ?_
  refine cO (OC.callF (us := [(rd 2 eClue a.Clues)]) (r := (T.sl true 2 (a.Clues.map (eClue true)))) (r' := (T.os 2 3 0 ((a.Clues.map (eClue true)).length))) (objs := [(Obj.rows 2 (a.Clues.map (eClue true)))]) rfl (vc (tv (rd 2 eClue a.Clues) rfl) VEvs.nil) (lp rfl (LendL.nil)) (W_laws_toClueS (n + 0) a.Clues (by first | assumption | omega)) rfl) ?_
  refine fO (OF.fieldAddrO (tv (T.op 2 0) rfl) fa98_1) ?_
  refine cO (B.storeO (us := [(T.os 2 3 0 ((a.Clues.map (eClue true)).length))]) (ws := [(tI a.Grid.Rows), (tI a.Grid.Cols), (tS a.Grid.Cells), (T.os 2 3 0 ((a.Clues.map (eClue true)).length)), T.nils, (tN 0)]) (tv (T.op 2 3) rfl) (tv (T.os 2 3 0 ((a.Clues.map (eClue true)).length)) rfl) nofun rfl rfl (Nat.le_of_ble_eq_true rfl) if30 sz30 (ball_cons rfl (ball_nil)) rfl) ?_
  refine nt ?_
  refine sr ?_
  refine fO (OF.fieldAddrO (tv (T.op 0 0) rfl) fa158_2) ?_
  refine lO (OL.loadO1 (t := (rd 1 eInt a.Seals)) (tv (T.op 0 4) rfl) rfl rfl st56) ?_
  refine cO (OC.callF (us := [(rd 1 eInt a.Seals)]) (r := (T.sl true 1 (a.Seals.map (eInt true)))) (r' := (T.os 1 4 0 ((a.Seals.map (eInt true)).length))) (objs := [(Obj.rows 1 (a.Seals.map (eInt true)))]) rfl (vc (tv (rd 1 eInt a.Seals) rfl) VEvs.nil) (lp rfl (LendL.nil)) (W_laws_toIntS (n + 3) a.Seals (by first | assumption | omega)) rfl) ?_
  refine fO (OF.fieldAddrO (tv (T.op 2 0) rfl) fa98_2) ?_
  refine cO (B.storeO (us := [(T.os 1 4 0 ((a.Seals.map (eInt true)).length))]) (ws := [(tI a.Grid.Rows), (tI a.Grid.Cols), (tS a.Grid.Cells), (T.os 2 3 0 ((a.Clues.map (eClue true)).length)), (T.os 1 4 0 ((a.Seals.map (eInt true)).length)), (tN 0)]) (tv (T.op 2 4) rfl) (tv (T.os 1 4 0 ((a.Seals.map (eInt true)).length)) rfl) nofun rfl rfl (Nat.le_of_ble_eq_true rfl) if56 sz56 (ball_cons rfl (ball_nil)) rfl) ?_
  refine nt ?_
  refine sr ?_
  refine fO (OF.fieldAddrO (tv (T.op 0 0) rfl) fa158_3) ?_
  refine lO (OL.loadO1 (t := (tI a.Salt)) (tv (T.op 0 5) rfl) rfl rfl st3) ?_
  refine fO (OF.fieldAddrO (tv (T.op 2 0) rfl) fa98_3) ?_
  refine cO (B.storeO (us := [(tI a.Salt)]) (ws := [(tI a.Grid.Rows), (tI a.Grid.Cols), (tS a.Grid.Cells), (T.os 2 3 0 ((a.Clues.map (eClue true)).length)), (T.os 1 4 0 ((a.Seals.map (eInt true)).length)), (tI a.Salt)]) (tv (T.op 2 5) rfl) (tv (tI a.Salt) rfl) nofun rfl rfl (Nat.le_of_ble_eq_true rfl) if3 sz3 (ball_cons rfl (ball_nil)) rfl) ?_
  refine nt ?_
  refine sr ?_
  refine lO (OL.loadOn (us := [(tI a.Grid.Rows), (tI a.Grid.Cols), (tS a.Grid.Cells), (T.os 2 3 0 ((a.Clues.map (eClue true)).length)), (T.os 1 4 0 ((a.Seals.map (eInt true)).length)), (tI a.Salt)]) (tv (T.op 2 0) rfl) rfl st98 sz98 (Nat.le_of_ble_eq_true rfl) rfl) ?_
  refine cO (B.storeO (us := [(tI a.Grid.Rows), (tI a.Grid.Cols), (tS a.Grid.Cells), (T.os 2 3 0 ((a.Clues.map (eClue true)).length)), (T.os 1 4 0 ((a.Seals.map (eInt true)).length)), (tI a.Salt)]) (ws := [(tI a.Grid.Rows), (tI a.Grid.Cols), (tS a.Grid.Cells), (T.os 2 3 0 ((a.Clues.map (eClue true)).length)), (T.os 1 4 0 ((a.Seals.map (eInt true)).length)), (tI a.Salt)]) (tv (T.op 1 0) rfl) (tv (T.agg [(tI a.Grid.Rows), (tI a.Grid.Cols), (tS a.Grid.Cells), (T.os 2 3 0 ((a.Clues.map (eClue true)).length)), (T.os 1 4 0 ((a.Seals.map (eInt true)).length)), (tI a.Salt)]) rfl) nofun rfl rfl (Nat.le_of_ble_eq_true rfl) if98 sz98 (ball_cons rfl (ball_cons rfl (ball_cons rfl (ball_cons rfl (ball_cons rfl (ball_cons rfl (ball_nil))))))) rfl) ?_
  refine nt ?_
  refine rt ?_
  refine vfin.eq (r' := (T.agg [(tI a.Grid.Rows), (tI a.Grid.Cols), (tS a.Grid.Cells), (T.sl true 2 (a.Clues.map (eClue true))), (T.sl true 1 (a.Seals.map (eInt true))), (tI a.Salt)])) ?_ (vfin.r (VRes.celln (ws := [(tI a.Grid.Rows), (tI a.Grid.Cols), (tS a.Grid.Cells), (T.os 2 3 0 ((a.Clues.map (eClue true)).length)), (T.os 1 4 0 ((a.Seals.map (eInt true)).length)), (tI a.Salt)]) rfl rfl st98 sz98 (Nat.le_of_ble_eq_true rfl) rfl VRes.nil) (Give.agg (GiveL.cons (Give.int _ _) (GiveL.cons (Give.int _ _) (GiveL.cons (Give.str _) (GiveL.cons (Give.os rfl rfl (okeClue.cleanMap _)) (GiveL.cons (Give.os rfl rfl (okInt.cleanMap _)) (GiveL.cons (Give.int _ _) GiveL.nil (by decide)) (by decide)) (by decide)) (by decide)) (by decide)) (by decide))))
  show (T.agg [(tI a.Grid.Rows), (tI a.Grid.Cols), (tS a.Grid.Cells), (T.sl true 2 (a.Clues.map (eClue true))), (T.sl true 1 (a.Seals.map (eInt true))), (tI a.Salt)]) = (T.agg (ePuzzle true a))
  first | rfl | (exact decN (by omega)) | (symm; rw [decide_eq_false_iff_not]; omega) | (symm; rw [decide_eq_true_eq]; omega) | (simp_all; done)
theorem W_laws_toIssue (n : Nat) (a : D.Issue) (ha : zIssue a ≤ mx) : Pure (acall Try.prog (n + 6)) 128 [(T.agg (eIssue false a))] (T.agg (eIssue true a)) := by
  refine Pure.intro (rs := [ResultVar.cell 2 100]) Try.func128 rfl rfl rfl (E0 := [(0, (T.agg (eIssue false a)))]) rfl ?_
  have hlim : lim = 1099511627776 := rfl
  have hmx : mx = 1048576 := rfl
  have hmax : maxLen = 9223372036854775807 := rfl
  simp only [zIssue] at ha
  refine sr ?_
  refine kO (B.box (ts := (eIssue false a)) (tv (T.agg (eIssue false a)) rfl) nofun rfl) ?_
  refine kO (B.alloc (t := (T.agg [(tN 0), (tN 0), (tN 0), (tS ByteArray.empty), T.nils, T.nils, (tN 0), (tS ByteArray.empty), (tN 0), (tN 0)])) (ts := [(tN 0), (tN 0), (tN 0), (tS ByteArray.empty), T.nils, T.nils, (tN 0), (tS ByteArray.empty), (tN 0), (tN 0)]) zo100 zc100 nofun (fun _ => .agg _ _ rfl (RLof (RL.cons (.int _ _) (RL.cons (.int _ _) (RL.cons (.int _ _) (RL.cons (.str _) (RL.cons (.nils) (RL.cons (.nils) (RL.cons (.int _ _) (RL.cons (.str _) (RL.cons (.int _ _) (RL.cons (.int _ _) (RL.nil _))))))))))))) rfl) ?_
  refine nt ?_
  refine sr ?_
  refine kO (B.alloc (t := (T.agg [(tN 0), (tN 0), (tN 0), (tS ByteArray.empty), T.nils, T.nils, (tN 0), (tS ByteArray.empty), (tN 0), (tN 0)])) (ts := [(tN 0), (tN 0), (tN 0), (tS ByteArray.empty), T.nils, T.nils, (tN 0), (tS ByteArray.empty), (tN 0), (tN 0)]) zo100 zc100 nofun (fun _ => .agg _ _ rfl (RLof (RL.cons (.int _ _) (RL.cons (.int _ _) (RL.cons (.int _ _) (RL.cons (.str _) (RL.cons (.nils) (RL.cons (.nils) (RL.cons (.int _ _) (RL.cons (.str _) (RL.cons (.int _ _) (RL.cons (.int _ _) (RL.nil _))))))))))))) rfl) ?_
  refine nt ?_
  refine sr ?_
  refine fO (OF.fieldAddrO (tv (T.op 0 0) rfl) fa160_0) ?_
  refine lO (OL.loadO1 (t := (tI a.Number)) (tv (T.op 0 0) rfl) rfl rfl st3) ?_
  refine fO (OF.fieldAddrO (tv (T.op 2 0) rfl) fa100_0) ?_
  refine cO (B.storeO (us := [(tI a.Number)]) (ws := [(tI a.Number), (tN 0), (tN 0), (tS ByteArray.empty), T.nils, T.nils, (tN 0), (tS ByteArray.empty), (tN 0), (tN 0)]) (tv (T.op 2 0) rfl) (tv (tI a.Number) rfl) nofun rfl rfl (Nat.le_of_ble_eq_true rfl) if3 sz3 (ball_cons rfl (ball_nil)) rfl) ?_
  refine nt ?_
  refine sr ?_
  refine fO (OF.fieldAddrO (tv (T.op 0 0) rfl) fa160_1) ?_
  refine lO (OL.loadOn (us := (ePuzzle false a.Puzzle)) (tv (T.op 0 1) rfl) rfl st158 sz158 (Nat.le_of_ble_eq_true rfl) rfl) ?_
  refine cO (OC.callF (us := [(T.agg (ePuzzle false a.Puzzle))]) (r := (T.agg (ePuzzle true a.Puzzle))) (r' := (T.agg [(tI a.Puzzle.Grid.Rows), (tI a.Puzzle.Grid.Cols), (tS a.Puzzle.Grid.Cells), (T.os 2 3 0 ((a.Puzzle.Clues.map (eClue true)).length)), (T.os 1 4 0 ((a.Puzzle.Seals.map (eInt true)).length)), (tI a.Puzzle.Salt)])) (objs := [(Obj.rows 2 (a.Puzzle.Clues.map (eClue true))), (Obj.rows 1 (a.Puzzle.Seals.map (eInt true)))]) rfl (vc (tv (T.agg (ePuzzle false a.Puzzle)) rfl) VEvs.nil) (LendL.cons (lg okePuzzle) (LendL.nil)) (W_laws_toPuzzle (n + 0) a.Puzzle (by first | assumption | omega)) rfl) ?_
  refine fO (OF.fieldAddrO (tv (T.op 2 0) rfl) fa100_1) ?_
  refine cO (B.storeO (us := [(tI a.Puzzle.Grid.Rows), (tI a.Puzzle.Grid.Cols), (tS a.Puzzle.Grid.Cells), (T.os 2 3 0 ((a.Puzzle.Clues.map (eClue true)).length)), (T.os 1 4 0 ((a.Puzzle.Seals.map (eInt true)).length)), (tI a.Puzzle.Salt)]) (ws := [(tI a.Number), (tI a.Puzzle.Grid.Rows), (tI a.Puzzle.Grid.Cols), (tS a.Puzzle.Grid.Cells), (T.os 2 3 0 ((a.Puzzle.Clues.map (eClue true)).length)), (T.os 1 4 0 ((a.Puzzle.Seals.map (eInt true)).length)), (tI a.Puzzle.Salt), (tS ByteArray.empty), (tN 0), (tN 0)]) (tv (T.op 2 1) rfl) (tv (T.agg [(tI a.Puzzle.Grid.Rows), (tI a.Puzzle.Grid.Cols), (tS a.Puzzle.Grid.Cells), (T.os 2 3 0 ((a.Puzzle.Clues.map (eClue true)).length)), (T.os 1 4 0 ((a.Puzzle.Seals.map (eInt true)).length)), (tI a.Puzzle.Salt)]) rfl) nofun rfl rfl (Nat.le_of_ble_eq_true rfl) if98 sz98 (ball_cons rfl (ball_cons rfl (ball_cons rfl (ball_cons rfl (ball_cons rfl (ball_cons rfl (ball_nil))))))) rfl) ?_
  refine nt ?_
  refine sr ?_
  refine fO (OF.fieldAddrO (tv (T.op 0 0) rfl) fa160_2) ?_
  refine lO (OL.loadO1 (t := (tS a.Fill)) (tv (T.op 0 7) rfl) rfl rfl st9) ?_
  refine fO (OF.fieldAddrO (tv (T.op 2 0) rfl) fa100_2) ?_
  refine cO (B.storeO (us := [(tS a.Fill)]) (ws := [(tI a.Number), (tI a.Puzzle.Grid.Rows), (tI a.Puzzle.Grid.Cols), (tS a.Puzzle.Grid.Cells), (T.os 2 3 0 ((a.Puzzle.Clues.map (eClue true)).length)), (T.os 1 4 0 ((a.Puzzle.Seals.map (eInt true)).length)), (tI a.Puzzle.Salt), (tS a.Fill), (tN 0), (tN 0)]) (tv (T.op 2 7) rfl) (tv (tS a.Fill) rfl) nofun rfl rfl (Nat.le_of_ble_eq_true rfl) if9 sz9 (ball_cons rfl (ball_nil)) rfl) ?_
  refine nt ?_
  refine sr ?_
  refine fO (OF.fieldAddrO (tv (T.op 0 0) rfl) fa160_3) ?_
  refine lO (OL.loadO1 (t := (tI a.Open)) (tv (T.op 0 8) rfl) rfl rfl st3) ?_
  refine fO (OF.fieldAddrO (tv (T.op 2 0) rfl) fa100_3) ?_
  refine cO (B.storeO (us := [(tI a.Open)]) (ws := [(tI a.Number), (tI a.Puzzle.Grid.Rows), (tI a.Puzzle.Grid.Cols), (tS a.Puzzle.Grid.Cells), (T.os 2 3 0 ((a.Puzzle.Clues.map (eClue true)).length)), (T.os 1 4 0 ((a.Puzzle.Seals.map (eInt true)).length)), (tI a.Puzzle.Salt), (tS a.Fill), (tI a.Open), (tN 0)]) (tv (T.op 2 8) rfl) (tv (tI a.Open) rfl) nofun rfl rfl (Nat.le_of_ble_eq_true rfl) if3 sz3 (ball_cons rfl (ball_nil)) rfl) ?_
  refine nt ?_
  refine sr ?_
  refine fO (OF.fieldAddrO (tv (T.op 0 0) rfl) fa160_4) ?_
  refine lO (OL.loadO1 (t := (tI a.Close)) (tv (T.op 0 9) rfl) rfl rfl st3) ?_
  refine fO (OF.fieldAddrO (tv (T.op 2 0) rfl) fa100_4) ?_
  refine cO (B.storeO (us := [(tI a.Close)]) (ws := [(tI a.Number), (tI a.Puzzle.Grid.Rows), (tI a.Puzzle.Grid.Cols), (tS a.Puzzle.Grid.Cells), (T.os 2 3 0 ((a.Puzzle.Clues.map (eClue true)).length)), (T.os 1 4 0 ((a.Puzzle.Seals.map (eInt true)).length)), (tI a.Puzzle.Salt), (tS a.Fill), (tI a.Open), (tI a.Close)]) (tv (T.op 2 9) rfl) (tv (tI a.Close) rfl) nofun rfl rfl (Nat.le_of_ble_eq_true rfl) if3 sz3 (ball_cons rfl (ball_nil)) rfl) ?_
  refine nt ?_
  refine sr ?_
  refine lO (OL.loadOn (us := [(tI a.Number), (tI a.Puzzle.Grid.Rows), (tI a.Puzzle.Grid.Cols), (tS a.Puzzle.Grid.Cells), (T.os 2 3 0 ((a.Puzzle.Clues.map (eClue true)).length)), (T.os 1 4 0 ((a.Puzzle.Seals.map (eInt true)).length)), (tI a.Puzzle.Salt), (tS a.Fill), (tI a.Open), (tI a.Close)]) (tv (T.op 2 0) rfl) rfl st100 sz100 (Nat.le_of_ble_eq_true rfl) rfl) ?_
  refine cO (B.storeO (us := [(tI a.Number), (tI a.Puzzle.Grid.Rows), (tI a.Puzzle.Grid.Cols), (tS a.Puzzle.Grid.Cells), (T.os 2 3 0 ((a.Puzzle.Clues.map (eClue true)).length)), (T.os 1 4 0 ((a.Puzzle.Seals.map (eInt true)).length)), (tI a.Puzzle.Salt), (tS a.Fill), (tI a.Open), (tI a.Close)]) (ws := [(tI a.Number), (tI a.Puzzle.Grid.Rows), (tI a.Puzzle.Grid.Cols), (tS a.Puzzle.Grid.Cells), (T.os 2 3 0 ((a.Puzzle.Clues.map (eClue true)).length)), (T.os 1 4 0 ((a.Puzzle.Seals.map (eInt true)).length)), (tI a.Puzzle.Salt), (tS a.Fill), (tI a.Open), (tI a.Close)]) (tv (T.op 1 0) rfl) (tv (T.agg [(tI a.Number), (tI a.Puzzle.Grid.Rows), (tI a.Puzzle.Grid.Cols), (tS a.Puzzle.Grid.Cells), (T.os 2 3 0 ((a.Puzzle.Clues.map (eClue true)).length)), (T.os 1 4 0 ((a.Puzzle.Seals.map (eInt true)).length)), (tI a.Puzzle.Salt), (tS a.Fill), (tI a.Open), (tI a.Close)]) rfl) nofun rfl rfl (Nat.le_of_ble_eq_true rfl) if100 sz100 (ball_cons rfl (ball_cons rfl (ball_cons rfl (ball_cons rfl (ball_cons rfl (ball_cons rfl (ball_cons rfl (ball_cons rfl (ball_cons rfl (ball_cons rfl (ball_nil))))))))))) rfl) ?_
  refine nt ?_
  refine rt ?_
  refine vfin.eq (r' := (T.agg [(tI a.Number), (tI a.Puzzle.Grid.Rows), (tI a.Puzzle.Grid.Cols), (tS a.Puzzle.Grid.Cells), (T.sl true 2 (a.Puzzle.Clues.map (eClue true))), (T.sl true 1 (a.Puzzle.Seals.map (eInt true))), (tI a.Puzzle.Salt), (tS a.Fill), (tI a.Open), (tI a.Close)])) ?_ (vfin.r (VRes.celln (ws := [(tI a.Number), (tI a.Puzzle.Grid.Rows), (tI a.Puzzle.Grid.Cols), (tS a.Puzzle.Grid.Cells), (T.os 2 3 0 ((a.Puzzle.Clues.map (eClue true)).length)), (T.os 1 4 0 ((a.Puzzle.Seals.map (eInt true)).length)), (tI a.Puzzle.Salt), (tS a.Fill), (tI a.Open), (tI a.Close)]) rfl rfl st100 sz100 (Nat.le_of_ble_eq_true rfl) rfl VRes.nil) (Give.agg (GiveL.cons (Give.int _ _) (GiveL.cons (Give.int _ _) (GiveL.cons (Give.int _ _) (GiveL.cons (Give.str _) (GiveL.cons (Give.os rfl rfl (okeClue.cleanMap _)) (GiveL.cons (Give.os rfl rfl (okInt.cleanMap _)) (GiveL.cons (Give.int _ _) (GiveL.cons (Give.str _) (GiveL.cons (Give.int _ _) (GiveL.cons (Give.int _ _) GiveL.nil (by decide)) (by decide)) (by decide)) (by decide)) (by decide)) (by decide)) (by decide)) (by decide)) (by decide)) (by decide))))
  show (T.agg [(tI a.Number), (tI a.Puzzle.Grid.Rows), (tI a.Puzzle.Grid.Cols), (tS a.Puzzle.Grid.Cells), (T.sl true 2 (a.Puzzle.Clues.map (eClue true))), (T.sl true 1 (a.Puzzle.Seals.map (eInt true))), (tI a.Puzzle.Salt), (tS a.Fill), (tI a.Open), (tI a.Close)]) = (T.agg (eIssue true a))
  first | rfl | (exact decN (by omega)) | (symm; rw [decide_eq_false_iff_not]; omega) | (symm; rw [decide_eq_true_eq]; omega) | (simp_all; done)
theorem W_laws_toIssueS (n : Nat) (a : List D.Issue) (ha : zL zIssue a ≤ mx) : Pure (acall Try.prog (n + 7)) 65 [(rd 10 eIssue a)] (T.sl true 10 (a.map (eIssue true))) := by
  refine Pure.intro (rs := [ResultVar.tmp 2]) Try.func65 rfl rfl rfl (E0 := [(0, (rd 10 eIssue a))]) rfl ?_
  have hlim : lim = 1099511627776 := rfl
  have hmx : mx = 1048576 := rfl
  have hmax : maxLen = 9223372036854775807 := rfl
  have hla := zL_len (z := zIssue) a
  refine sr ?_
  refine fO (OF.assign VEv.nils) ?_
  refine nt ?_
  refine sr ?_
  refine mO (rd 10 eIssue a) rfl ?_
  refine lO (B.lenR (m := a.length) (tv (rd 10 eIssue a) rfl) Try.underlying38 (List.length_map ..)) ?_
  refine kO (B.makeZ (n := a.length) (m := ((List.replicate a.length (D.Issue.mk 0 (D.Puzzle.mk (D.Grid.mk 0 0 ByteArray.empty) [] [] 0) ByteArray.empty 0 0)).map (eIssue true)).length) (rows := ((List.replicate a.length (D.Issue.mk 0 (D.Puzzle.mk (D.Grid.mk 0 0 ByteArray.empty) [] [] 0) ByteArray.empty 0 0)).map (eIssue true))) (zr := (eIssue true (D.Issue.mk 0 (D.Puzzle.mk (D.Grid.mk 0 0 ByteArray.empty) [] [] 0) ByteArray.empty 0 0))) (tv (tN a.length) rfl) (tv (tN a.length) rfl) rfl Try.underlying48 zo100 zc100 rfl (by rw [sz100]; decide) (by first | exact Nat.le_trans (zL_at hx1) ha | omega | (simp only [List.length_map]; omega) | (simp only [List.length_map, List.length_append, List.length_cons, List.length_nil, List.length_replicate, List.length_set, List.length_drop, List.length_take, lim] at *; omega)) (of_decide_eq_true (by kernel_rfl)) (Z0.int (Z0.int (Z0.int (Z0.str (Z0.sl (Z0.sl (Z0.int (Z0.str (Z0.int (Z0.int Z0.nil)))))))))) sz100 (List.map_replicate ..).symm (by rw [List.length_map, List.length_replicate])) ?_
  refine aO (T.os 10 0 0 (((List.replicate a.length (D.Issue.mk 0 (D.Puzzle.mk (D.Grid.mk 0 0 ByteArray.empty) [] [] 0) ByteArray.empty 0 0)).map (eIssue true)).length)) rfl ?_
  refine nt ?_
  refine sq ?_
  refine sr ?_
  refine fO (OF.assign (VEv.int .i64 0)) ?_
  refine nt ?_
  refine VRun.block ?_
  have he1 : (List.replicate a.length (D.Issue.mk 0 (D.Puzzle.mk (D.Grid.mk 0 0 ByteArray.empty) [] [] 0) ByteArray.empty 0 0)) = (a.take 0 ++ List.replicate (a.length - 0) (D.Issue.mk 0 (D.Puzzle.mk (D.Grid.mk 0 0 ByteArray.empty) [] [] 0) ByteArray.empty 0 0)) := by first | rfl | (exact fill_next hx1) | (simp; done) | omega
  refine VRun.loop (A := Nat) (fun s_ => [(0, (rd 10 eIssue a)), (2, T.nils), (3, (T.os 10 0 0 (((a.take s_ ++ List.replicate (a.length - s_) (D.Issue.mk 0 (D.Puzzle.mk (D.Grid.mk 0 0 ByteArray.empty) [] [] 0) ByteArray.empty 0 0)).map (eIssue true)).length))), (4, (tN s_))]) (fun s_ => mkO [(0, (Obj.rows 10 ((a.take s_ ++ List.replicate (a.length - s_) (D.Issue.mk 0 (D.Puzzle.mk (D.Grid.mk 0 0 ByteArray.empty) [] [] 0) ByteArray.empty 0 0)).map (eIssue true))))]) 1 (fun s_ => s_ ≤ a.length) (fun s_ => a.length - s_) (0 : Nat) ?_ (Wk.mk (fun k => k) ?_ ?_ ?_) ?_
  · first | trivial | (simp; done) | omega | (constructor <;> simp)
  · exact (ball_cons ⟨rfl, rfl⟩ (ball_cons ⟨rfl, rfl⟩ (ball_cons ⟨(congrArg (fun l_ => T.os 10 0 0 (List.map (eIssue true) l_).length) he1), rfl⟩ (ball_cons ⟨rfl, rfl⟩ (ball_nil)))))
  · exact (ball_cons ⟨(congrArg (fun l_ => some (Obj.rows 10 (List.map (eIssue true) l_))) he1), (Nat.le_of_ble_eq_true rfl), rfl⟩ (ball_nil))
  · show List.Nodup ([0] : List Nat)
    decide
  rintro i hI
  have hI' : i ≤ a.length := hI
  clear hI
  show VRun _ _ _ [(0, (rd 10 eIssue a)), (2, T.nils), (3, (T.os 10 0 0 (((a.take i ++ List.replicate (a.length - i) (D.Issue.mk 0 (D.Puzzle.mk (D.Grid.mk 0 0 ByteArray.empty) [] [] 0) ByteArray.empty 0 0)).map (eIssue true)).length))), (4, (tN i))] (mkO [(0, (Obj.rows 10 ((a.take i ++ List.replicate (a.length - i) (D.Issue.mk 0 (D.Puzzle.mk (D.Grid.mk 0 0 ByteArray.empty) [] [] 0) ByteArray.empty 0 0)).map (eIssue true))))]) 1 _
  have hfl := fill_at (w := (D.Issue.mk 0 (D.Puzzle.mk (D.Grid.mk 0 0 ByteArray.empty) [] [] 0) ByteArray.empty 0 0)) hI'
  refine sq ?_
  refine sr ?_
  refine mO (tN i) rfl ?_
  refine mO (rd 10 eIssue a) rfl ?_
  refine lO (B.lenR (m := a.length) (tv (rd 10 eIssue a) rfl) Try.underlying38 (List.length_map ..)) ?_
  refine fO (B.lss (c := (decide (i < a.length))) (tv (tN i) rfl) (tv (tN a.length) rfl) (by first | exact Nat.le_trans (zL_at hx1) ha | (exact decN (by omega)))) ?_
  refine nt ?_
  refine VRun.cond (tv (tB (decide (i < a.length))) rfl) (fun hc0 => ?_) (fun hc0 => ?_)
  · have fhc0 : i < a.length := of_decide_eq_true hc0
    refine sk ?_
    refine tn ?_
    refine sq ?_
    refine VRun.block ?_
    refine VRun.region ?_
    refine mO (T.os 10 0 0 (((a.take i ++ List.replicate (a.length - i) (D.Issue.mk 0 (D.Puzzle.mk (D.Grid.mk 0 0 ByteArray.empty) [] [] 0) ByteArray.empty 0 0)).map (eIssue true)).length)) rfl ?_
    refine mO (tN i) rfl ?_
    refine mO (rd 10 eIssue a) rfl ?_
    refine mO (tN i) rfl ?_
    obtain ⟨x1, hx1⟩ : ∃ x, a[i]? = some x := ⟨_, List.getElem?_eq_getElem (by first | exact Nat.le_trans (zL_at hx1) ha | omega)⟩
    refine fO (OF.indexAddrR (row := (eIssue false x1)) (i := i) (tv (rd 10 eIssue a) rfl) (tv (tN i) rfl) rfl (map_at _ hx1) Try.underlying38 sz160 if160) ?_
    refine lO (OL.loadRn (us := (eIssue false x1)) (tv (T.rp (eIssue false x1)) rfl) st160 sz160 (Nat.le_of_ble_eq_true rfl) rfl) ?_
    refine cO (OC.callF (us := [(T.agg (eIssue false x1))]) (r := (T.agg (eIssue true x1))) (r' := (T.agg [(tI x1.Number), (tI x1.Puzzle.Grid.Rows), (tI x1.Puzzle.Grid.Cols), (tS x1.Puzzle.Grid.Cells), (T.os 2 1 0 ((x1.Puzzle.Clues.map (eClue true)).length)), (T.os 1 2 0 ((x1.Puzzle.Seals.map (eInt true)).length)), (tI x1.Puzzle.Salt), (tS x1.Fill), (tI x1.Open), (tI x1.Close)])) (objs := [(Obj.rows 2 (x1.Puzzle.Clues.map (eClue true))), (Obj.rows 1 (x1.Puzzle.Seals.map (eInt true)))]) rfl (vc (tv (T.agg (eIssue false x1)) rfl) VEvs.nil) (LendL.cons (lg okeIssue) (LendL.nil)) (W_laws_toIssue (n + 0) x1 (by first | exact Nat.le_trans (zL_at hx1) ha | assumption | omega)) rfl) ?_
    obtain ⟨x2, hx2⟩ : ∃ x, (a.take i ++ List.replicate (a.length - i) (D.Issue.mk 0 (D.Puzzle.mk (D.Grid.mk 0 0 ByteArray.empty) [] [] 0) ByteArray.empty 0 0))[i]? = some x := ⟨_, List.getElem?_eq_getElem (by first | exact Nat.le_trans (zL_at hx1) ha | omega | (simp only [List.length_map]; omega) | (simp only [List.length_map, List.length_append, List.length_cons, List.length_nil, List.length_replicate, List.length_set, List.length_drop, List.length_take, lim] at *; omega))⟩
    refine fO (B.indexAddrO (i := i) (tv (T.os 10 0 0 (((a.take i ++ List.replicate (a.length - i) (D.Issue.mk 0 (D.Puzzle.mk (D.Grid.mk 0 0 ByteArray.empty) [] [] 0) ByteArray.empty 0 0)).map (eIssue true)).length)) rfl) (tv (tN i) rfl) rfl (by first | exact Nat.le_trans (zL_at hx1) ha | omega | (simp only [List.length_map]; omega) | (simp only [List.length_map, List.length_append, List.length_cons, List.length_nil, List.length_replicate, List.length_set, List.length_drop, List.length_take, lim] at *; omega)) Try.underlying48 sz100 if100) ?_
    refine cO (B.storeB (us := [(tI x1.Number), (tI x1.Puzzle.Grid.Rows), (tI x1.Puzzle.Grid.Cols), (tS x1.Puzzle.Grid.Cells), (T.os 2 1 0 ((x1.Puzzle.Clues.map (eClue true)).length)), (T.os 1 2 0 ((x1.Puzzle.Seals.map (eInt true)).length)), (tI x1.Puzzle.Salt), (tS x1.Fill), (tI x1.Open), (tI x1.Close)]) (ws := [(tI x1.Number), (tI x1.Puzzle.Grid.Rows), (tI x1.Puzzle.Grid.Cols), (tS x1.Puzzle.Grid.Cells), (T.sl true 2 (x1.Puzzle.Clues.map (eClue true))), (T.sl true 1 (x1.Puzzle.Seals.map (eInt true))), (tI x1.Puzzle.Salt), (tS x1.Fill), (tI x1.Open), (tI x1.Close)]) (rows' := (((a.take i ++ List.replicate (a.length - i) (D.Issue.mk 0 (D.Puzzle.mk (D.Grid.mk 0 0 ByteArray.empty) [] [] 0) ByteArray.empty 0 0)).set i x1).map (eIssue true))) (row := (eIssue true x2)) (tv (T.orp 10 0 i 0) rfl) (tv (T.agg [(tI x1.Number), (tI x1.Puzzle.Grid.Rows), (tI x1.Puzzle.Grid.Cols), (tS x1.Puzzle.Grid.Cells), (T.os 2 1 0 ((x1.Puzzle.Clues.map (eClue true)).length)), (T.os 1 2 0 ((x1.Puzzle.Seals.map (eInt true)).length)), (tI x1.Puzzle.Salt), (tS x1.Fill), (tI x1.Open), (tI x1.Close)]) rfl) nofun rfl (map_at _ hx2) rfl (Nat.le_of_ble_eq_true rfl) if100 sz100 (ball_cons rfl (ball_cons rfl (ball_cons rfl (ball_cons rfl (ball_cons rfl (ball_cons rfl (ball_cons rfl (ball_cons rfl (ball_cons rfl (ball_cons rfl (ball_nil))))))))))) (Bury.pl rfl (Bury.pl rfl (Bury.pl rfl (Bury.pl rfl (Bury.os rfl rfl (Bury.os rfl rfl (Bury.pl rfl (Bury.pl rfl (Bury.pl rfl (Bury.pl rfl Bury.nil)))) (by decide)) (by decide)))))) rfl (by decide) (set_mapE rfl)) ?_
    refine VRunO.nil ?_
    refine vinB.n ?_
    refine tn ?_
    refine VRun.region ?_
    refine mO (tN i) rfl ?_
    refine fO (B.add (n := (((i + 1) : Nat) : Int)) (tv (tN i) rfl) (VEv.int .i64 1) (by first | exact Nat.le_trans (zL_at hx1) ha | rfl | (rw [wrap64 (by omega)]; omega) | (rw [wrap64 (by omega)]; done))) ?_
    refine aO (tN (i + 1)) rfl ?_
    refine VRunO.nil ?_
    refine tn ?_
    have he2 : ((a.take i ++ List.replicate (a.length - i) (D.Issue.mk 0 (D.Puzzle.mk (D.Grid.mk 0 0 ByteArray.empty) [] [] 0) ByteArray.empty 0 0)).set i x1) = (a.take (i + 1) ++ List.replicate (a.length - (i + 1)) (D.Issue.mk 0 (D.Puzzle.mk (D.Grid.mk 0 0 ByteArray.empty) [] [] 0) ByteArray.empty 0 0)) := by first | rfl | (exact fill_next hx1) | (simp; done) | omega
    refine ⟨(i + 1 : Nat), ?_, ?_, Wk.mk (fun k => k) ?_ ?_ ?_⟩
    · first | trivial | omega | (simp; done) | exact ⟨by omega, hI'.2⟩
    · first | omega | (simp only []; omega) | (show _ < _; omega) | (simp; omega)
    · exact (ball_cons ⟨rfl, rfl⟩ (ball_cons ⟨rfl, rfl⟩ (ball_cons ⟨(congrArg (fun n_ => T.os 10 0 0 n_) (show ((a.take i ++ List.replicate (a.length - i) (D.Issue.mk 0 (D.Puzzle.mk (D.Grid.mk 0 0 ByteArray.empty) [] [] 0) ByteArray.empty 0 0)).map (eIssue true)).length = ((a.take (i + 1) ++ List.replicate (a.length - (i + 1)) (D.Issue.mk 0 (D.Puzzle.mk (D.Grid.mk 0 0 ByteArray.empty) [] [] 0) ByteArray.empty 0 0)).map (eIssue true)).length from (by first | rfl | (simp only [List.length_map]; omega) | (simp only [List.length_map, List.length_set, List.length_append, List.length_take, List.length_replicate, List.length_cons, List.length_nil]; omega)))), rfl⟩ (ball_cons ⟨rfl, rfl⟩ (ball_nil)))))
    · exact (ball_cons ⟨(congrArg (fun l_ => some (Obj.rows 10 (List.map (eIssue true) l_))) he2), (Nat.le_of_ble_eq_true rfl), rfl⟩ (ball_nil))
    · show List.Nodup ([0] : List Nat)
      decide
  have fhc0 : ¬ (i < a.length) := of_decide_eq_false hc0
  refine VRun.exit ?_
  refine vthn.e ?_
  refine vthn.e ?_
  refine vinB.e ?_
  refine tn ?_
  refine sr ?_
  refine mO (T.os 10 0 0 (((a.take i ++ List.replicate (a.length - i) (D.Issue.mk 0 (D.Puzzle.mk (D.Grid.mk 0 0 ByteArray.empty) [] [] 0) ByteArray.empty 0 0)).map (eIssue true)).length)) rfl ?_
  refine aO (T.os 10 0 0 (((a.take i ++ List.replicate (a.length - i) (D.Issue.mk 0 (D.Puzzle.mk (D.Grid.mk 0 0 ByteArray.empty) [] [] 0) ByteArray.empty 0 0)).map (eIssue true)).length)) rfl ?_
  refine nt ?_
  refine rt ?_
  refine vfin.eq (r' := (T.sl true 10 ((a.take i ++ List.replicate (a.length - i) (D.Issue.mk 0 (D.Puzzle.mk (D.Grid.mk 0 0 ByteArray.empty) [] [] 0) ByteArray.empty 0 0)).map (eIssue true)))) ?_ (vfin.r (VRes.tmp (t := (T.os 10 0 0 (((a.take i ++ List.replicate (a.length - i) (D.Issue.mk 0 (D.Puzzle.mk (D.Grid.mk 0 0 ByteArray.empty) [] [] 0) ByteArray.empty 0 0)).map (eIssue true)).length))) rfl VRes.nil) (Give.os rfl rfl (okeIssue.cleanMap _)))
  show (T.sl true 10 ((a.take i ++ List.replicate (a.length - i) (D.Issue.mk 0 (D.Puzzle.mk (D.Grid.mk 0 0 ByteArray.empty) [] [] 0) ByteArray.empty 0 0)).map (eIssue true))) = (T.sl true 10 (a.map (eIssue true)))
  refine congrArg (fun l_ => T.sl true 10 (List.map (eIssue true) l_)) ?_
  exact fill_done fhc0
theorem W_laws_toUsed (n : Nat) (a : D.Used)  : Pure (acall Try.prog (n + 1)) 129 [(T.agg (eUsed false a))] (T.agg (eUsed true a)) := by
  refine Pure.intro (rs := [ResultVar.cell 2 118]) Try.func129 rfl rfl rfl (E0 := [(0, (T.agg (eUsed false a)))]) rfl ?_
  have hlim : lim = 1099511627776 := rfl
  have hmx : mx = 1048576 := rfl
  have hmax : maxLen = 9223372036854775807 := rfl
  refine sr ?_
  refine kO (B.box (ts := (eUsed false a)) (tv (T.agg (eUsed false a)) rfl) nofun rfl) ?_
  refine kO (B.alloc (t := (T.agg [(tS ByteArray.empty), (tN 0)])) (ts := [(tS ByteArray.empty), (tN 0)]) zo118 zc118 nofun (fun _ => .agg _ _ rfl (RLof (RL.cons (.str _) (RL.cons (.int _ _) (RL.nil _))))) rfl) ?_
  refine nt ?_
  refine sr ?_
  refine kO (B.alloc (t := (T.agg [(tS ByteArray.empty), (tN 0)])) (ts := [(tS ByteArray.empty), (tN 0)]) zo118 zc118 nofun (fun _ => .agg _ _ rfl (RLof (RL.cons (.str _) (RL.cons (.int _ _) (RL.nil _))))) rfl) ?_
  refine nt ?_
  refine sr ?_
  refine fO (OF.fieldAddrO (tv (T.op 0 0) rfl) fa162_0) ?_
  refine lO (OL.loadO1 (t := (tS a.Word)) (tv (T.op 0 0) rfl) rfl rfl st9) ?_
  refine fO (OF.fieldAddrO (tv (T.op 2 0) rfl) fa118_0) ?_
  refine cO (B.storeO (us := [(tS a.Word)]) (ws := [(tS a.Word), (tN 0)]) (tv (T.op 2 0) rfl) (tv (tS a.Word) rfl) nofun rfl rfl (Nat.le_of_ble_eq_true rfl) if9 sz9 (ball_cons rfl (ball_nil)) rfl) ?_
  refine nt ?_
  refine sr ?_
  refine fO (OF.fieldAddrO (tv (T.op 0 0) rfl) fa162_1) ?_
  refine lO (OL.loadO1 (t := (tI a.Issue)) (tv (T.op 0 1) rfl) rfl rfl st3) ?_
  refine fO (OF.fieldAddrO (tv (T.op 2 0) rfl) fa118_1) ?_
  refine cO (B.storeO (us := [(tI a.Issue)]) (ws := [(tS a.Word), (tI a.Issue)]) (tv (T.op 2 1) rfl) (tv (tI a.Issue) rfl) nofun rfl rfl (Nat.le_of_ble_eq_true rfl) if3 sz3 (ball_cons rfl (ball_nil)) rfl) ?_
  refine nt ?_
  refine sr ?_
  refine lO (OL.loadOn (us := (eUsed false a)) (tv (T.op 2 0) rfl) rfl st118 sz118 (Nat.le_of_ble_eq_true rfl) rfl) ?_
  refine cO (B.storeO (us := (eUsed false a)) (ws := (eUsed false a)) (tv (T.op 1 0) rfl) (tv (T.agg (eUsed false a)) rfl) nofun rfl rfl (Nat.le_of_ble_eq_true rfl) if118 sz118 (ball_cons rfl (ball_cons rfl (ball_nil))) rfl) ?_
  refine nt ?_
  refine rt ?_
  refine vfin.eq (r' := (T.agg (eUsed false a))) ?_ (vfin.r (VRes.celln (ws := (eUsed false a)) rfl rfl st118 sz118 (Nat.le_of_ble_eq_true rfl) rfl VRes.nil) (Give.agg (GiveL.cons (Give.str _) (GiveL.cons (Give.int _ _) GiveL.nil (by decide)) (by decide))))
  show (T.agg (eUsed false a)) = (T.agg (eUsed true a))
  first | rfl | (exact decN (by omega)) | (symm; rw [decide_eq_false_iff_not]; omega) | (symm; rw [decide_eq_true_eq]; omega) | (simp_all; done)
theorem W_laws_toUsedS (n : Nat) (a : List D.Used) (ha : a.length ≤ mx) : Pure (acall Try.prog (n + 2)) 66 [(rd 2 eUsed a)] (T.sl true 2 (a.map (eUsed true))) := by
  refine Pure.intro (rs := [ResultVar.tmp 2]) Try.func66 rfl rfl rfl (E0 := [(0, (rd 2 eUsed a))]) rfl ?_
  have hlim : lim = 1099511627776 := rfl
  have hmx : mx = 1048576 := rfl
  have hmax : maxLen = 9223372036854775807 := rfl
  refine sr ?_
  refine fO (OF.assign VEv.nils) ?_
  refine nt ?_
  refine sr ?_
  refine mO (rd 2 eUsed a) rfl ?_
  refine lO (B.lenR (m := a.length) (tv (rd 2 eUsed a) rfl) Try.underlying39 (List.length_map ..)) ?_
  refine kO (B.makeZ (n := a.length) (m := ((List.replicate a.length (D.Used.mk ByteArray.empty 0)).map (eUsed true)).length) (rows := ((List.replicate a.length (D.Used.mk ByteArray.empty 0)).map (eUsed true))) (zr := (eUsed true (D.Used.mk ByteArray.empty 0))) (tv (tN a.length) rfl) (tv (tN a.length) rfl) rfl Try.underlying49 zo118 zc118 rfl (by rw [sz118]; decide) (by first | omega | (simp only [List.length_map]; omega) | (simp only [List.length_map, List.length_append, List.length_cons, List.length_nil, List.length_replicate, List.length_set, List.length_drop, List.length_take, lim] at *; omega)) (of_decide_eq_true (by kernel_rfl)) (Z0.str (Z0.int Z0.nil)) sz118 (List.map_replicate ..).symm (by rw [List.length_map, List.length_replicate])) ?_
  refine aO (T.os 2 0 0 (((List.replicate a.length (D.Used.mk ByteArray.empty 0)).map (eUsed true)).length)) rfl ?_
  refine nt ?_
  refine sq ?_
  refine sr ?_
  refine fO (OF.assign (VEv.int .i64 0)) ?_
  refine nt ?_
  refine VRun.block ?_
  have he1 : (List.replicate a.length (D.Used.mk ByteArray.empty 0)) = (a.take 0 ++ List.replicate (a.length - 0) (D.Used.mk ByteArray.empty 0)) := by first | rfl | (exact fill_next hx1) | (simp; done) | omega
  refine VRun.loop (A := Nat) (fun s_ => [(0, (rd 2 eUsed a)), (2, T.nils), (3, (T.os 2 0 0 (((a.take s_ ++ List.replicate (a.length - s_) (D.Used.mk ByteArray.empty 0)).map (eUsed true)).length))), (4, (tN s_))]) (fun s_ => mkO [(0, (Obj.rows 2 ((a.take s_ ++ List.replicate (a.length - s_) (D.Used.mk ByteArray.empty 0)).map (eUsed true))))]) 1 (fun s_ => s_ ≤ a.length) (fun s_ => a.length - s_) (0 : Nat) ?_ (Wk.mk (fun k => k) ?_ ?_ ?_) ?_
  · first | trivial | (simp; done) | omega | (constructor <;> simp)
  · exact (ball_cons ⟨rfl, rfl⟩ (ball_cons ⟨rfl, rfl⟩ (ball_cons ⟨(congrArg (fun l_ => T.os 2 0 0 (List.map (eUsed true) l_).length) he1), rfl⟩ (ball_cons ⟨rfl, rfl⟩ (ball_nil)))))
  · exact (ball_cons ⟨(congrArg (fun l_ => some (Obj.rows 2 (List.map (eUsed true) l_))) he1), (Nat.le_of_ble_eq_true rfl), rfl⟩ (ball_nil))
  · show List.Nodup ([0] : List Nat)
    decide
  rintro i hI
  have hI' : i ≤ a.length := hI
  clear hI
  show VRun _ _ _ [(0, (rd 2 eUsed a)), (2, T.nils), (3, (T.os 2 0 0 (((a.take i ++ List.replicate (a.length - i) (D.Used.mk ByteArray.empty 0)).map (eUsed true)).length))), (4, (tN i))] (mkO [(0, (Obj.rows 2 ((a.take i ++ List.replicate (a.length - i) (D.Used.mk ByteArray.empty 0)).map (eUsed true))))]) 1 _
  have hfl := fill_at (w := (D.Used.mk ByteArray.empty 0)) hI'
  refine sq ?_
  refine sr ?_
  refine mO (tN i) rfl ?_
  refine mO (rd 2 eUsed a) rfl ?_
  refine lO (B.lenR (m := a.length) (tv (rd 2 eUsed a) rfl) Try.underlying39 (List.length_map ..)) ?_
  refine fO (B.lss (c := (decide (i < a.length))) (tv (tN i) rfl) (tv (tN a.length) rfl) (by first | (exact decN (by omega)))) ?_
  refine nt ?_
  refine VRun.cond (tv (tB (decide (i < a.length))) rfl) (fun hc0 => ?_) (fun hc0 => ?_)
  · have fhc0 : i < a.length := of_decide_eq_true hc0
    refine sk ?_
    refine tn ?_
    refine sq ?_
    refine VRun.block ?_
    refine VRun.region ?_
    refine mO (T.os 2 0 0 (((a.take i ++ List.replicate (a.length - i) (D.Used.mk ByteArray.empty 0)).map (eUsed true)).length)) rfl ?_
    refine mO (tN i) rfl ?_
    refine mO (rd 2 eUsed a) rfl ?_
    refine mO (tN i) rfl ?_
    obtain ⟨x1, hx1⟩ : ∃ x, a[i]? = some x := ⟨_, List.getElem?_eq_getElem (by first | omega)⟩
    refine fO (OF.indexAddrR (row := (eUsed false x1)) (i := i) (tv (rd 2 eUsed a) rfl) (tv (tN i) rfl) rfl (map_at _ hx1) Try.underlying39 sz162 if162) ?_
    refine lO (OL.loadRn (us := (eUsed false x1)) (tv (T.rp (eUsed false x1)) rfl) st162 sz162 (Nat.le_of_ble_eq_true rfl) rfl) ?_
    refine cO (cS (vc (tv (T.agg (eUsed false x1)) rfl) VEvs.nil) (LendL.cons (lg okeUsed) (LendL.nil)) (W_laws_toUsed (n + 0) x1 ) rfl rfl) ?_
    obtain ⟨x2, hx2⟩ : ∃ x, (a.take i ++ List.replicate (a.length - i) (D.Used.mk ByteArray.empty 0))[i]? = some x := ⟨_, List.getElem?_eq_getElem (by first | omega | (simp only [List.length_map]; omega) | (simp only [List.length_map, List.length_append, List.length_cons, List.length_nil, List.length_replicate, List.length_set, List.length_drop, List.length_take, lim] at *; omega))⟩
    refine fO (B.indexAddrO (i := i) (tv (T.os 2 0 0 (((a.take i ++ List.replicate (a.length - i) (D.Used.mk ByteArray.empty 0)).map (eUsed true)).length)) rfl) (tv (tN i) rfl) rfl (by first | omega | (simp only [List.length_map]; omega) | (simp only [List.length_map, List.length_append, List.length_cons, List.length_nil, List.length_replicate, List.length_set, List.length_drop, List.length_take, lim] at *; omega)) Try.underlying49 sz118 if118) ?_
    refine cO (B.storeP (us := (eUsed true x1)) (rows' := (((a.take i ++ List.replicate (a.length - i) (D.Used.mk ByteArray.empty 0)).set i x1).map (eUsed true))) (row := (eUsed true x2)) (tv (T.orp 2 0 i 0) rfl) (tv (T.agg (eUsed true x1)) rfl) nofun rfl (map_at _ hx2) rfl (Nat.le_of_ble_eq_true rfl) if118 sz118 (ball_cons rfl (ball_cons rfl (ball_nil))) (by intro r hr t ht; obtain ⟨x, _, rfl⟩ := List.mem_map.1 hr; rw [flUsed] at ht; exact isPl_flat (okeUsed.pl _ t ht)) (set_mapE rfl)) ?_
    refine VRunO.nil ?_
    refine vinB.n ?_
    refine tn ?_
    refine VRun.region ?_
    refine mO (tN i) rfl ?_
    refine fO (B.add (n := (((i + 1) : Nat) : Int)) (tv (tN i) rfl) (VEv.int .i64 1) (by first | rfl | (rw [wrap64 (by omega)]; omega) | (rw [wrap64 (by omega)]; done))) ?_
    refine aO (tN (i + 1)) rfl ?_
    refine VRunO.nil ?_
    refine tn ?_
    have he2 : ((a.take i ++ List.replicate (a.length - i) (D.Used.mk ByteArray.empty 0)).set i x1) = (a.take (i + 1) ++ List.replicate (a.length - (i + 1)) (D.Used.mk ByteArray.empty 0)) := by first | rfl | (exact fill_next hx1) | (simp; done) | omega
    refine ⟨(i + 1 : Nat), ?_, ?_, Wk.mk (fun k => k) ?_ ?_ ?_⟩
    · first | trivial | omega | (simp; done) | exact ⟨by omega, hI'.2⟩
    · first | omega | (simp only []; omega) | (show _ < _; omega) | (simp; omega)
    · exact (ball_cons ⟨rfl, rfl⟩ (ball_cons ⟨rfl, rfl⟩ (ball_cons ⟨(congrArg (fun n_ => T.os 2 0 0 n_) (show ((a.take i ++ List.replicate (a.length - i) (D.Used.mk ByteArray.empty 0)).map (eUsed true)).length = ((a.take (i + 1) ++ List.replicate (a.length - (i + 1)) (D.Used.mk ByteArray.empty 0)).map (eUsed true)).length from (by first | rfl | (simp only [List.length_map]; omega) | (simp only [List.length_map, List.length_set, List.length_append, List.length_take, List.length_replicate, List.length_cons, List.length_nil]; omega)))), rfl⟩ (ball_cons ⟨rfl, rfl⟩ (ball_nil)))))
    · exact (ball_cons ⟨(congrArg (fun l_ => some (Obj.rows 2 (List.map (eUsed true) l_))) he2), (Nat.le_of_ble_eq_true rfl), rfl⟩ (ball_nil))
    · show List.Nodup ([0] : List Nat)
      decide
  have fhc0 : ¬ (i < a.length) := of_decide_eq_false hc0
  refine VRun.exit ?_
  refine vthn.e ?_
  refine vthn.e ?_
  refine vinB.e ?_
  refine tn ?_
  refine sr ?_
  refine mO (T.os 2 0 0 (((a.take i ++ List.replicate (a.length - i) (D.Used.mk ByteArray.empty 0)).map (eUsed true)).length)) rfl ?_
  refine aO (T.os 2 0 0 (((a.take i ++ List.replicate (a.length - i) (D.Used.mk ByteArray.empty 0)).map (eUsed true)).length)) rfl ?_
  refine nt ?_
  refine rt ?_
  refine vfin.eq (r' := (T.sl true 2 ((a.take i ++ List.replicate (a.length - i) (D.Used.mk ByteArray.empty 0)).map (eUsed true)))) ?_ (vfin.r (VRes.tmp (t := (T.os 2 0 0 (((a.take i ++ List.replicate (a.length - i) (D.Used.mk ByteArray.empty 0)).map (eUsed true)).length))) rfl VRes.nil) (Give.os rfl rfl (okeUsed.cleanMap _)))
  show (T.sl true 2 ((a.take i ++ List.replicate (a.length - i) (D.Used.mk ByteArray.empty 0)).map (eUsed true))) = (T.sl true 2 (a.map (eUsed true)))
  refine congrArg (fun l_ => T.sl true 2 (List.map (eUsed true) l_)) ?_
  exact fill_done fhc0
theorem W_laws_toCorrection (n : Nat) (a : D.Correction) (ha : zCorrection a ≤ mx) : Pure (acall Try.prog (n + 4)) 130 [(T.agg (eCorrection false a))] (T.agg (eCorrection true a)) := by
  refine Pure.intro (rs := [ResultVar.cell 2 102]) Try.func130 rfl rfl rfl (E0 := [(0, (T.agg (eCorrection false a)))]) rfl ?_
  have hlim : lim = 1099511627776 := rfl
  have hmx : mx = 1048576 := rfl
  have hmax : maxLen = 9223372036854775807 := rfl
  simp only [zCorrection] at ha
  refine sr ?_
  refine kO (B.box (ts := (eCorrection false a)) (tv (T.agg (eCorrection false a)) rfl) nofun rfl) ?_
  refine kO (B.alloc (t := (T.agg [(tN 0), (tN 0), (tN 0), T.nils, (tN 0)])) (ts := [(tN 0), (tN 0), (tN 0), T.nils, (tN 0)]) zo102 zc102 nofun (fun _ => .agg _ _ rfl (RLof (RL.cons (.int _ _) (RL.cons (.int _ _) (RL.cons (.int _ _) (RL.cons (.nils) (RL.cons (.int _ _) (RL.nil _)))))))) rfl) ?_
  refine nt ?_
  refine sr ?_
  refine kO (B.alloc (t := (T.agg [(tN 0), (tN 0), (tN 0), T.nils, (tN 0)])) (ts := [(tN 0), (tN 0), (tN 0), T.nils, (tN 0)]) zo102 zc102 nofun (fun _ => .agg _ _ rfl (RLof (RL.cons (.int _ _) (RL.cons (.int _ _) (RL.cons (.int _ _) (RL.cons (.nils) (RL.cons (.int _ _) (RL.nil _)))))))) rfl) ?_
  refine nt ?_
  refine sr ?_
  refine fO (OF.fieldAddrO (tv (T.op 0 0) rfl) fa165_0) ?_
  refine lO (OL.loadO1 (t := (tI a.Issue)) (tv (T.op 0 0) rfl) rfl rfl st3) ?_
  refine fO (OF.fieldAddrO (tv (T.op 2 0) rfl) fa102_0) ?_
  refine cO (B.storeO (us := [(tI a.Issue)]) (ws := [(tI a.Issue), (tN 0), (tN 0), T.nils, (tN 0)]) (tv (T.op 2 0) rfl) (tv (tI a.Issue) rfl) nofun rfl rfl (Nat.le_of_ble_eq_true rfl) if3 sz3 (ball_cons rfl (ball_nil)) rfl) ?_
  refine nt ?_
  refine sr ?_
  refine fO (OF.fieldAddrO (tv (T.op 0 0) rfl) fa165_1) ?_
  refine lO (OL.loadO1 (t := (tI a.Slot)) (tv (T.op 0 1) rfl) rfl rfl st3) ?_
  refine fO (OF.fieldAddrO (tv (T.op 2 0) rfl) fa102_1) ?_
  refine cO (B.storeO (us := [(tI a.Slot)]) (ws := [(tI a.Issue), (tI a.Slot), (tN 0), T.nils, (tN 0)]) (tv (T.op 2 1) rfl) (tv (tI a.Slot) rfl) nofun rfl rfl (Nat.le_of_ble_eq_true rfl) if3 sz3 (ball_cons rfl (ball_nil)) rfl) ?_
  refine nt ?_
  refine sr ?_
  refine fO (OF.fieldAddrO (tv (T.op 0 0) rfl) fa165_2) ?_
  refine lO (OL.loadOn (us := (eClue false a.Clue)) (tv (T.op 0 2) rfl) rfl st64 sz64 (Nat.le_of_ble_eq_true rfl) rfl) ?_
  refine cO (OC.callF (us := [(T.agg (eClue false a.Clue))]) (r := (T.agg (eClue true a.Clue))) (r' := (T.agg [(tI a.Clue.Sense), (T.os 4 3 0 ((a.Clue.Play.map (eStep true)).length))])) (objs := [(Obj.rows 4 (a.Clue.Play.map (eStep true)))]) rfl (vc (tv (T.agg (eClue false a.Clue)) rfl) VEvs.nil) (LendL.cons (lg okeClue) (LendL.nil)) (W_laws_toClue (n + 0) a.Clue (by first | assumption | omega)) rfl) ?_
  refine fO (OF.fieldAddrO (tv (T.op 2 0) rfl) fa102_2) ?_
  refine cO (B.storeO (us := [(tI a.Clue.Sense), (T.os 4 3 0 ((a.Clue.Play.map (eStep true)).length))]) (ws := [(tI a.Issue), (tI a.Slot), (tI a.Clue.Sense), (T.os 4 3 0 ((a.Clue.Play.map (eStep true)).length)), (tN 0)]) (tv (T.op 2 2) rfl) (tv (T.agg [(tI a.Clue.Sense), (T.os 4 3 0 ((a.Clue.Play.map (eStep true)).length))]) rfl) nofun rfl rfl (Nat.le_of_ble_eq_true rfl) if70 sz70 (ball_cons rfl (ball_cons rfl (ball_nil))) rfl) ?_
  refine nt ?_
  refine sr ?_
  refine fO (OF.fieldAddrO (tv (T.op 0 0) rfl) fa165_3) ?_
  refine lO (OL.loadO1 (t := (tI a.Tick)) (tv (T.op 0 4) rfl) rfl rfl st3) ?_
  refine fO (OF.fieldAddrO (tv (T.op 2 0) rfl) fa102_3) ?_
  refine cO (B.storeO (us := [(tI a.Tick)]) (ws := [(tI a.Issue), (tI a.Slot), (tI a.Clue.Sense), (T.os 4 3 0 ((a.Clue.Play.map (eStep true)).length)), (tI a.Tick)]) (tv (T.op 2 4) rfl) (tv (tI a.Tick) rfl) nofun rfl rfl (Nat.le_of_ble_eq_true rfl) if3 sz3 (ball_cons rfl (ball_nil)) rfl) ?_
  refine nt ?_
  refine sr ?_
  refine lO (OL.loadOn (us := [(tI a.Issue), (tI a.Slot), (tI a.Clue.Sense), (T.os 4 3 0 ((a.Clue.Play.map (eStep true)).length)), (tI a.Tick)]) (tv (T.op 2 0) rfl) rfl st102 sz102 (Nat.le_of_ble_eq_true rfl) rfl) ?_
  refine cO (B.storeO (us := [(tI a.Issue), (tI a.Slot), (tI a.Clue.Sense), (T.os 4 3 0 ((a.Clue.Play.map (eStep true)).length)), (tI a.Tick)]) (ws := [(tI a.Issue), (tI a.Slot), (tI a.Clue.Sense), (T.os 4 3 0 ((a.Clue.Play.map (eStep true)).length)), (tI a.Tick)]) (tv (T.op 1 0) rfl) (tv (T.agg [(tI a.Issue), (tI a.Slot), (tI a.Clue.Sense), (T.os 4 3 0 ((a.Clue.Play.map (eStep true)).length)), (tI a.Tick)]) rfl) nofun rfl rfl (Nat.le_of_ble_eq_true rfl) if102 sz102 (ball_cons rfl (ball_cons rfl (ball_cons rfl (ball_cons rfl (ball_cons rfl (ball_nil)))))) rfl) ?_
  refine nt ?_
  refine rt ?_
  refine vfin.eq (r' := (T.agg [(tI a.Issue), (tI a.Slot), (tI a.Clue.Sense), (T.sl true 4 (a.Clue.Play.map (eStep true))), (tI a.Tick)])) ?_ (vfin.r (VRes.celln (ws := [(tI a.Issue), (tI a.Slot), (tI a.Clue.Sense), (T.os 4 3 0 ((a.Clue.Play.map (eStep true)).length)), (tI a.Tick)]) rfl rfl st102 sz102 (Nat.le_of_ble_eq_true rfl) rfl VRes.nil) (Give.agg (GiveL.cons (Give.int _ _) (GiveL.cons (Give.int _ _) (GiveL.cons (Give.int _ _) (GiveL.cons (Give.os rfl rfl (okeStep.cleanMap _)) (GiveL.cons (Give.int _ _) GiveL.nil (by decide)) (by decide)) (by decide)) (by decide)) (by decide))))
  show (T.agg [(tI a.Issue), (tI a.Slot), (tI a.Clue.Sense), (T.sl true 4 (a.Clue.Play.map (eStep true))), (tI a.Tick)]) = (T.agg (eCorrection true a))
  first | rfl | (exact decN (by omega)) | (symm; rw [decide_eq_false_iff_not]; omega) | (symm; rw [decide_eq_true_eq]; omega) | (simp_all; done)
theorem W_laws_toCorrectionS (n : Nat) (a : List D.Correction) (ha : zL zCorrection a ≤ mx) : Pure (acall Try.prog (n + 5)) 67 [(rd 5 eCorrection a)] (T.sl true 5 (a.map (eCorrection true))) := by
  refine Pure.intro (rs := [ResultVar.tmp 2]) Try.func67 rfl rfl rfl (E0 := [(0, (rd 5 eCorrection a))]) rfl ?_
  have hlim : lim = 1099511627776 := rfl
  have hmx : mx = 1048576 := rfl
  have hmax : maxLen = 9223372036854775807 := rfl
  have hla := zL_len (z := zCorrection) a
  refine sr ?_
  refine fO (OF.assign VEv.nils) ?_
  refine nt ?_
  refine sr ?_
  refine mO (rd 5 eCorrection a) rfl ?_
  refine lO (B.lenR (m := a.length) (tv (rd 5 eCorrection a) rfl) Try.underlying40 (List.length_map ..)) ?_
  refine kO (B.makeZ (n := a.length) (m := ((List.replicate a.length (D.Correction.mk 0 0 (D.Clue.mk 0 []) 0)).map (eCorrection true)).length) (rows := ((List.replicate a.length (D.Correction.mk 0 0 (D.Clue.mk 0 []) 0)).map (eCorrection true))) (zr := (eCorrection true (D.Correction.mk 0 0 (D.Clue.mk 0 []) 0))) (tv (tN a.length) rfl) (tv (tN a.length) rfl) rfl Try.underlying50 zo102 zc102 rfl (by rw [sz102]; decide) (by first | exact Nat.le_trans (zL_at hx1) ha | omega | (simp only [List.length_map]; omega) | (simp only [List.length_map, List.length_append, List.length_cons, List.length_nil, List.length_replicate, List.length_set, List.length_drop, List.length_take, lim] at *; omega)) (of_decide_eq_true (by kernel_rfl)) (Z0.int (Z0.int (Z0.int (Z0.sl (Z0.int Z0.nil))))) sz102 (List.map_replicate ..).symm (by rw [List.length_map, List.length_replicate])) ?_
  refine aO (T.os 5 0 0 (((List.replicate a.length (D.Correction.mk 0 0 (D.Clue.mk 0 []) 0)).map (eCorrection true)).length)) rfl ?_
  refine nt ?_
  refine sq ?_
  refine sr ?_
  refine fO (OF.assign (VEv.int .i64 0)) ?_
  refine nt ?_
  refine VRun.block ?_
  have he1 : (List.replicate a.length (D.Correction.mk 0 0 (D.Clue.mk 0 []) 0)) = (a.take 0 ++ List.replicate (a.length - 0) (D.Correction.mk 0 0 (D.Clue.mk 0 []) 0)) := by first | rfl | (exact fill_next hx1) | (simp; done) | omega
  refine VRun.loop (A := Nat) (fun s_ => [(0, (rd 5 eCorrection a)), (2, T.nils), (3, (T.os 5 0 0 (((a.take s_ ++ List.replicate (a.length - s_) (D.Correction.mk 0 0 (D.Clue.mk 0 []) 0)).map (eCorrection true)).length))), (4, (tN s_))]) (fun s_ => mkO [(0, (Obj.rows 5 ((a.take s_ ++ List.replicate (a.length - s_) (D.Correction.mk 0 0 (D.Clue.mk 0 []) 0)).map (eCorrection true))))]) 1 (fun s_ => s_ ≤ a.length) (fun s_ => a.length - s_) (0 : Nat) ?_ (Wk.mk (fun k => k) ?_ ?_ ?_) ?_
  · first | trivial | (simp; done) | omega | (constructor <;> simp)
  · exact (ball_cons ⟨rfl, rfl⟩ (ball_cons ⟨rfl, rfl⟩ (ball_cons ⟨(congrArg (fun l_ => T.os 5 0 0 (List.map (eCorrection true) l_).length) he1), rfl⟩ (ball_cons ⟨rfl, rfl⟩ (ball_nil)))))
  · exact (ball_cons ⟨(congrArg (fun l_ => some (Obj.rows 5 (List.map (eCorrection true) l_))) he1), (Nat.le_of_ble_eq_true rfl), rfl⟩ (ball_nil))
  · show List.Nodup ([0] : List Nat)
    decide
  rintro i hI
  have hI' : i ≤ a.length := hI
  clear hI
  show VRun _ _ _ [(0, (rd 5 eCorrection a)), (2, T.nils), (3, (T.os 5 0 0 (((a.take i ++ List.replicate (a.length - i) (D.Correction.mk 0 0 (D.Clue.mk 0 []) 0)).map (eCorrection true)).length))), (4, (tN i))] (mkO [(0, (Obj.rows 5 ((a.take i ++ List.replicate (a.length - i) (D.Correction.mk 0 0 (D.Clue.mk 0 []) 0)).map (eCorrection true))))]) 1 _
  have hfl := fill_at (w := (D.Correction.mk 0 0 (D.Clue.mk 0 []) 0)) hI'
  refine sq ?_
  refine sr ?_
  refine mO (tN i) rfl ?_
  refine mO (rd 5 eCorrection a) rfl ?_
  refine lO (B.lenR (m := a.length) (tv (rd 5 eCorrection a) rfl) Try.underlying40 (List.length_map ..)) ?_
  refine fO (B.lss (c := (decide (i < a.length))) (tv (tN i) rfl) (tv (tN a.length) rfl) (by first | exact Nat.le_trans (zL_at hx1) ha | (exact decN (by omega)))) ?_
  refine nt ?_
  refine VRun.cond (tv (tB (decide (i < a.length))) rfl) (fun hc0 => ?_) (fun hc0 => ?_)
  · have fhc0 : i < a.length := of_decide_eq_true hc0
    refine sk ?_
    refine tn ?_
    refine sq ?_
    refine VRun.block ?_
    refine VRun.region ?_
    refine mO (T.os 5 0 0 (((a.take i ++ List.replicate (a.length - i) (D.Correction.mk 0 0 (D.Clue.mk 0 []) 0)).map (eCorrection true)).length)) rfl ?_
    refine mO (tN i) rfl ?_
    refine mO (rd 5 eCorrection a) rfl ?_
    refine mO (tN i) rfl ?_
    obtain ⟨x1, hx1⟩ : ∃ x, a[i]? = some x := ⟨_, List.getElem?_eq_getElem (by first | exact Nat.le_trans (zL_at hx1) ha | omega)⟩
    refine fO (OF.indexAddrR (row := (eCorrection false x1)) (i := i) (tv (rd 5 eCorrection a) rfl) (tv (tN i) rfl) rfl (map_at _ hx1) Try.underlying40 sz165 if165) ?_
    refine lO (OL.loadRn (us := (eCorrection false x1)) (tv (T.rp (eCorrection false x1)) rfl) st165 sz165 (Nat.le_of_ble_eq_true rfl) rfl) ?_
    refine cO (OC.callF (us := [(T.agg (eCorrection false x1))]) (r := (T.agg (eCorrection true x1))) (r' := (T.agg [(tI x1.Issue), (tI x1.Slot), (tI x1.Clue.Sense), (T.os 4 1 0 ((x1.Clue.Play.map (eStep true)).length)), (tI x1.Tick)])) (objs := [(Obj.rows 4 (x1.Clue.Play.map (eStep true)))]) rfl (vc (tv (T.agg (eCorrection false x1)) rfl) VEvs.nil) (LendL.cons (lg okeCorrection) (LendL.nil)) (W_laws_toCorrection (n + 0) x1 (by first | exact Nat.le_trans (zL_at hx1) ha | assumption | omega)) rfl) ?_
    obtain ⟨x2, hx2⟩ : ∃ x, (a.take i ++ List.replicate (a.length - i) (D.Correction.mk 0 0 (D.Clue.mk 0 []) 0))[i]? = some x := ⟨_, List.getElem?_eq_getElem (by first | exact Nat.le_trans (zL_at hx1) ha | omega | (simp only [List.length_map]; omega) | (simp only [List.length_map, List.length_append, List.length_cons, List.length_nil, List.length_replicate, List.length_set, List.length_drop, List.length_take, lim] at *; omega))⟩
    refine fO (B.indexAddrO (i := i) (tv (T.os 5 0 0 (((a.take i ++ List.replicate (a.length - i) (D.Correction.mk 0 0 (D.Clue.mk 0 []) 0)).map (eCorrection true)).length)) rfl) (tv (tN i) rfl) rfl (by first | exact Nat.le_trans (zL_at hx1) ha | omega | (simp only [List.length_map]; omega) | (simp only [List.length_map, List.length_append, List.length_cons, List.length_nil, List.length_replicate, List.length_set, List.length_drop, List.length_take, lim] at *; omega)) Try.underlying50 sz102 if102) ?_
    refine cO (B.storeB (us := [(tI x1.Issue), (tI x1.Slot), (tI x1.Clue.Sense), (T.os 4 1 0 ((x1.Clue.Play.map (eStep true)).length)), (tI x1.Tick)]) (ws := [(tI x1.Issue), (tI x1.Slot), (tI x1.Clue.Sense), (T.sl true 4 (x1.Clue.Play.map (eStep true))), (tI x1.Tick)]) (rows' := (((a.take i ++ List.replicate (a.length - i) (D.Correction.mk 0 0 (D.Clue.mk 0 []) 0)).set i x1).map (eCorrection true))) (row := (eCorrection true x2)) (tv (T.orp 5 0 i 0) rfl) (tv (T.agg [(tI x1.Issue), (tI x1.Slot), (tI x1.Clue.Sense), (T.os 4 1 0 ((x1.Clue.Play.map (eStep true)).length)), (tI x1.Tick)]) rfl) nofun rfl (map_at _ hx2) rfl (Nat.le_of_ble_eq_true rfl) if102 sz102 (ball_cons rfl (ball_cons rfl (ball_cons rfl (ball_cons rfl (ball_cons rfl (ball_nil)))))) (Bury.pl rfl (Bury.pl rfl (Bury.pl rfl (Bury.os rfl rfl (Bury.pl rfl Bury.nil) (by decide))))) rfl (by decide) (set_mapE rfl)) ?_
    refine VRunO.nil ?_
    refine vinB.n ?_
    refine tn ?_
    refine VRun.region ?_
    refine mO (tN i) rfl ?_
    refine fO (B.add (n := (((i + 1) : Nat) : Int)) (tv (tN i) rfl) (VEv.int .i64 1) (by first | exact Nat.le_trans (zL_at hx1) ha | rfl | (rw [wrap64 (by omega)]; omega) | (rw [wrap64 (by omega)]; done))) ?_
    refine aO (tN (i + 1)) rfl ?_
    refine VRunO.nil ?_
    refine tn ?_
    have he2 : ((a.take i ++ List.replicate (a.length - i) (D.Correction.mk 0 0 (D.Clue.mk 0 []) 0)).set i x1) = (a.take (i + 1) ++ List.replicate (a.length - (i + 1)) (D.Correction.mk 0 0 (D.Clue.mk 0 []) 0)) := by first | rfl | (exact fill_next hx1) | (simp; done) | omega
    refine ⟨(i + 1 : Nat), ?_, ?_, Wk.mk (fun k => k) ?_ ?_ ?_⟩
    · first | trivial | omega | (simp; done) | exact ⟨by omega, hI'.2⟩
    · first | omega | (simp only []; omega) | (show _ < _; omega) | (simp; omega)
    · exact (ball_cons ⟨rfl, rfl⟩ (ball_cons ⟨rfl, rfl⟩ (ball_cons ⟨(congrArg (fun n_ => T.os 5 0 0 n_) (show ((a.take i ++ List.replicate (a.length - i) (D.Correction.mk 0 0 (D.Clue.mk 0 []) 0)).map (eCorrection true)).length = ((a.take (i + 1) ++ List.replicate (a.length - (i + 1)) (D.Correction.mk 0 0 (D.Clue.mk 0 []) 0)).map (eCorrection true)).length from (by first | rfl | (simp only [List.length_map]; omega) | (simp only [List.length_map, List.length_set, List.length_append, List.length_take, List.length_replicate, List.length_cons, List.length_nil]; omega)))), rfl⟩ (ball_cons ⟨rfl, rfl⟩ (ball_nil)))))
    · exact (ball_cons ⟨(congrArg (fun l_ => some (Obj.rows 5 (List.map (eCorrection true) l_))) he2), (Nat.le_of_ble_eq_true rfl), rfl⟩ (ball_nil))
    · show List.Nodup ([0] : List Nat)
      decide
  have fhc0 : ¬ (i < a.length) := of_decide_eq_false hc0
  refine VRun.exit ?_
  refine vthn.e ?_
  refine vthn.e ?_
  refine vinB.e ?_
  refine tn ?_
  refine sr ?_
  refine mO (T.os 5 0 0 (((a.take i ++ List.replicate (a.length - i) (D.Correction.mk 0 0 (D.Clue.mk 0 []) 0)).map (eCorrection true)).length)) rfl ?_
  refine aO (T.os 5 0 0 (((a.take i ++ List.replicate (a.length - i) (D.Correction.mk 0 0 (D.Clue.mk 0 []) 0)).map (eCorrection true)).length)) rfl ?_
  refine nt ?_
  refine rt ?_
  refine vfin.eq (r' := (T.sl true 5 ((a.take i ++ List.replicate (a.length - i) (D.Correction.mk 0 0 (D.Clue.mk 0 []) 0)).map (eCorrection true)))) ?_ (vfin.r (VRes.tmp (t := (T.os 5 0 0 (((a.take i ++ List.replicate (a.length - i) (D.Correction.mk 0 0 (D.Clue.mk 0 []) 0)).map (eCorrection true)).length))) rfl VRes.nil) (Give.os rfl rfl (okeCorrection.cleanMap _)))
  show (T.sl true 5 ((a.take i ++ List.replicate (a.length - i) (D.Correction.mk 0 0 (D.Clue.mk 0 []) 0)).map (eCorrection true))) = (T.sl true 5 (a.map (eCorrection true)))
  refine congrArg (fun l_ => T.sl true 5 (List.map (eCorrection true) l_)) ?_
  exact fill_done fhc0
theorem W_laws_toEntry (n : Nat) (a : D.Entry)  : Pure (acall Try.prog (n + 1)) 131 [(T.agg (eEntry false a))] (T.agg (eEntry true a)) := by
  refine Pure.intro (rs := [ResultVar.cell 2 123]) Try.func131 rfl rfl rfl (E0 := [(0, (T.agg (eEntry false a)))]) rfl ?_
  have hlim : lim = 1099511627776 := rfl
  have hmx : mx = 1048576 := rfl
  have hmax : maxLen = 9223372036854775807 := rfl
  refine sr ?_
  refine kO (B.box (ts := (eEntry false a)) (tv (T.agg (eEntry false a)) rfl) nofun rfl) ?_
  refine kO (B.alloc (t := (T.agg [(tN 0), (tN 0), (tN 0), (tS ByteArray.empty)])) (ts := [(tN 0), (tN 0), (tN 0), (tS ByteArray.empty)]) zo123 zc123 nofun (fun _ => .agg _ _ rfl (RLof (RL.cons (.int _ _) (RL.cons (.int _ _) (RL.cons (.int _ _) (RL.cons (.str _) (RL.nil _))))))) rfl) ?_
  refine nt ?_
  refine sr ?_
  refine kO (B.alloc (t := (T.agg [(tN 0), (tN 0), (tN 0), (tS ByteArray.empty)])) (ts := [(tN 0), (tN 0), (tN 0), (tS ByteArray.empty)]) zo123 zc123 nofun (fun _ => .agg _ _ rfl (RLof (RL.cons (.int _ _) (RL.cons (.int _ _) (RL.cons (.int _ _) (RL.cons (.str _) (RL.nil _))))))) rfl) ?_
  refine nt ?_
  refine sr ?_
  refine fO (OF.fieldAddrO (tv (T.op 0 0) rfl) fa167_0) ?_
  refine lO (OL.loadO1 (t := (tI a.Player)) (tv (T.op 0 0) rfl) rfl rfl st3) ?_
  refine fO (OF.fieldAddrO (tv (T.op 2 0) rfl) fa123_0) ?_
  refine cO (B.storeO (us := [(tI a.Player)]) (ws := [(tI a.Player), (tN 0), (tN 0), (tS ByteArray.empty)]) (tv (T.op 2 0) rfl) (tv (tI a.Player) rfl) nofun rfl rfl (Nat.le_of_ble_eq_true rfl) if3 sz3 (ball_cons rfl (ball_nil)) rfl) ?_
  refine nt ?_
  refine sr ?_
  refine fO (OF.fieldAddrO (tv (T.op 0 0) rfl) fa167_1) ?_
  refine lO (OL.loadO1 (t := (tI a.Issue)) (tv (T.op 0 1) rfl) rfl rfl st3) ?_
  refine fO (OF.fieldAddrO (tv (T.op 2 0) rfl) fa123_1) ?_
  refine cO (B.storeO (us := [(tI a.Issue)]) (ws := [(tI a.Player), (tI a.Issue), (tN 0), (tS ByteArray.empty)]) (tv (T.op 2 1) rfl) (tv (tI a.Issue) rfl) nofun rfl rfl (Nat.le_of_ble_eq_true rfl) if3 sz3 (ball_cons rfl (ball_nil)) rfl) ?_
  refine nt ?_
  refine sr ?_
  refine fO (OF.fieldAddrO (tv (T.op 0 0) rfl) fa167_2) ?_
  refine lO (OL.loadO1 (t := (tI a.Tick)) (tv (T.op 0 2) rfl) rfl rfl st3) ?_
  refine fO (OF.fieldAddrO (tv (T.op 2 0) rfl) fa123_2) ?_
  refine cO (B.storeO (us := [(tI a.Tick)]) (ws := [(tI a.Player), (tI a.Issue), (tI a.Tick), (tS ByteArray.empty)]) (tv (T.op 2 2) rfl) (tv (tI a.Tick) rfl) nofun rfl rfl (Nat.le_of_ble_eq_true rfl) if3 sz3 (ball_cons rfl (ball_nil)) rfl) ?_
  refine nt ?_
  refine sr ?_
  refine fO (OF.fieldAddrO (tv (T.op 0 0) rfl) fa167_3) ?_
  refine lO (OL.loadO1 (t := (tS a.Fill)) (tv (T.op 0 3) rfl) rfl rfl st9) ?_
  refine fO (OF.fieldAddrO (tv (T.op 2 0) rfl) fa123_3) ?_
  refine cO (B.storeO (us := [(tS a.Fill)]) (ws := [(tI a.Player), (tI a.Issue), (tI a.Tick), (tS a.Fill)]) (tv (T.op 2 3) rfl) (tv (tS a.Fill) rfl) nofun rfl rfl (Nat.le_of_ble_eq_true rfl) if9 sz9 (ball_cons rfl (ball_nil)) rfl) ?_
  refine nt ?_
  refine sr ?_
  refine lO (OL.loadOn (us := (eEntry false a)) (tv (T.op 2 0) rfl) rfl st123 sz123 (Nat.le_of_ble_eq_true rfl) rfl) ?_
  refine cO (B.storeO (us := (eEntry false a)) (ws := (eEntry false a)) (tv (T.op 1 0) rfl) (tv (T.agg (eEntry false a)) rfl) nofun rfl rfl (Nat.le_of_ble_eq_true rfl) if123 sz123 (ball_cons rfl (ball_cons rfl (ball_cons rfl (ball_cons rfl (ball_nil))))) rfl) ?_
  refine nt ?_
  refine rt ?_
  refine vfin.eq (r' := (T.agg (eEntry false a))) ?_ (vfin.r (VRes.celln (ws := (eEntry false a)) rfl rfl st123 sz123 (Nat.le_of_ble_eq_true rfl) rfl VRes.nil) (Give.agg (GiveL.cons (Give.int _ _) (GiveL.cons (Give.int _ _) (GiveL.cons (Give.int _ _) (GiveL.cons (Give.str _) GiveL.nil (by decide)) (by decide)) (by decide)) (by decide))))
  show (T.agg (eEntry false a)) = (T.agg (eEntry true a))
  first | rfl | (exact decN (by omega)) | (symm; rw [decide_eq_false_iff_not]; omega) | (symm; rw [decide_eq_true_eq]; omega) | (simp_all; done)
theorem W_laws_toEntryS (n : Nat) (a : List D.Entry) (ha : a.length ≤ mx) : Pure (acall Try.prog (n + 2)) 68 [(rd 4 eEntry a)] (T.sl true 4 (a.map (eEntry true))) := by
  refine Pure.intro (rs := [ResultVar.tmp 2]) Try.func68 rfl rfl rfl (E0 := [(0, (rd 4 eEntry a))]) rfl ?_
  have hlim : lim = 1099511627776 := rfl
  have hmx : mx = 1048576 := rfl
  have hmax : maxLen = 9223372036854775807 := rfl
  refine sr ?_
  refine fO (OF.assign VEv.nils) ?_
  refine nt ?_
  refine sr ?_
  refine mO (rd 4 eEntry a) rfl ?_
  refine lO (B.lenR (m := a.length) (tv (rd 4 eEntry a) rfl) Try.underlying41 (List.length_map ..)) ?_
  refine kO (B.makeZ (n := a.length) (m := ((List.replicate a.length (D.Entry.mk 0 0 0 ByteArray.empty)).map (eEntry true)).length) (rows := ((List.replicate a.length (D.Entry.mk 0 0 0 ByteArray.empty)).map (eEntry true))) (zr := (eEntry true (D.Entry.mk 0 0 0 ByteArray.empty))) (tv (tN a.length) rfl) (tv (tN a.length) rfl) rfl Try.underlying51 zo123 zc123 rfl (by rw [sz123]; decide) (by first | omega | (simp only [List.length_map]; omega) | (simp only [List.length_map, List.length_append, List.length_cons, List.length_nil, List.length_replicate, List.length_set, List.length_drop, List.length_take, lim] at *; omega)) (of_decide_eq_true (by kernel_rfl)) (Z0.int (Z0.int (Z0.int (Z0.str Z0.nil)))) sz123 (List.map_replicate ..).symm (by rw [List.length_map, List.length_replicate])) ?_
  refine aO (T.os 4 0 0 (((List.replicate a.length (D.Entry.mk 0 0 0 ByteArray.empty)).map (eEntry true)).length)) rfl ?_
  refine nt ?_
  refine sq ?_
  refine sr ?_
  refine fO (OF.assign (VEv.int .i64 0)) ?_
  refine nt ?_
  refine VRun.block ?_
  have he1 : (List.replicate a.length (D.Entry.mk 0 0 0 ByteArray.empty)) = (a.take 0 ++ List.replicate (a.length - 0) (D.Entry.mk 0 0 0 ByteArray.empty)) := by first | rfl | (exact fill_next hx1) | (simp; done) | omega
  refine VRun.loop (A := Nat) (fun s_ => [(0, (rd 4 eEntry a)), (2, T.nils), (3, (T.os 4 0 0 (((a.take s_ ++ List.replicate (a.length - s_) (D.Entry.mk 0 0 0 ByteArray.empty)).map (eEntry true)).length))), (4, (tN s_))]) (fun s_ => mkO [(0, (Obj.rows 4 ((a.take s_ ++ List.replicate (a.length - s_) (D.Entry.mk 0 0 0 ByteArray.empty)).map (eEntry true))))]) 1 (fun s_ => s_ ≤ a.length) (fun s_ => a.length - s_) (0 : Nat) ?_ (Wk.mk (fun k => k) ?_ ?_ ?_) ?_
  · first | trivial | (simp; done) | omega | (constructor <;> simp)
  · exact (ball_cons ⟨rfl, rfl⟩ (ball_cons ⟨rfl, rfl⟩ (ball_cons ⟨(congrArg (fun l_ => T.os 4 0 0 (List.map (eEntry true) l_).length) he1), rfl⟩ (ball_cons ⟨rfl, rfl⟩ (ball_nil)))))
  · exact (ball_cons ⟨(congrArg (fun l_ => some (Obj.rows 4 (List.map (eEntry true) l_))) he1), (Nat.le_of_ble_eq_true rfl), rfl⟩ (ball_nil))
  · show List.Nodup ([0] : List Nat)
    decide
  rintro i hI
  have hI' : i ≤ a.length := hI
  clear hI
  show VRun _ _ _ [(0, (rd 4 eEntry a)), (2, T.nils), (3, (T.os 4 0 0 (((a.take i ++ List.replicate (a.length - i) (D.Entry.mk 0 0 0 ByteArray.empty)).map (eEntry true)).length))), (4, (tN i))] (mkO [(0, (Obj.rows 4 ((a.take i ++ List.replicate (a.length - i) (D.Entry.mk 0 0 0 ByteArray.empty)).map (eEntry true))))]) 1 _
  have hfl := fill_at (w := (D.Entry.mk 0 0 0 ByteArray.empty)) hI'
  refine sq ?_
  refine sr ?_
  refine mO (tN i) rfl ?_
  refine mO (rd 4 eEntry a) rfl ?_
  refine lO (B.lenR (m := a.length) (tv (rd 4 eEntry a) rfl) Try.underlying41 (List.length_map ..)) ?_
  refine fO (B.lss (c := (decide (i < a.length))) (tv (tN i) rfl) (tv (tN a.length) rfl) (by first | (exact decN (by omega)))) ?_
  refine nt ?_
  refine VRun.cond (tv (tB (decide (i < a.length))) rfl) (fun hc0 => ?_) (fun hc0 => ?_)
  · have fhc0 : i < a.length := of_decide_eq_true hc0
    refine sk ?_
    refine tn ?_
    refine sq ?_
    refine VRun.block ?_
    refine VRun.region ?_
    refine mO (T.os 4 0 0 (((a.take i ++ List.replicate (a.length - i) (D.Entry.mk 0 0 0 ByteArray.empty)).map (eEntry true)).length)) rfl ?_
    refine mO (tN i) rfl ?_
    refine mO (rd 4 eEntry a) rfl ?_
    refine mO (tN i) rfl ?_
    obtain ⟨x1, hx1⟩ : ∃ x, a[i]? = some x := ⟨_, List.getElem?_eq_getElem (by first | omega)⟩
    refine fO (OF.indexAddrR (row := (eEntry false x1)) (i := i) (tv (rd 4 eEntry a) rfl) (tv (tN i) rfl) rfl (map_at _ hx1) Try.underlying41 sz167 if167) ?_
    refine lO (OL.loadRn (us := (eEntry false x1)) (tv (T.rp (eEntry false x1)) rfl) st167 sz167 (Nat.le_of_ble_eq_true rfl) rfl) ?_
    refine cO (cS (vc (tv (T.agg (eEntry false x1)) rfl) VEvs.nil) (LendL.cons (lg okeEntry) (LendL.nil)) (W_laws_toEntry (n + 0) x1 ) rfl rfl) ?_
    obtain ⟨x2, hx2⟩ : ∃ x, (a.take i ++ List.replicate (a.length - i) (D.Entry.mk 0 0 0 ByteArray.empty))[i]? = some x := ⟨_, List.getElem?_eq_getElem (by first | omega | (simp only [List.length_map]; omega) | (simp only [List.length_map, List.length_append, List.length_cons, List.length_nil, List.length_replicate, List.length_set, List.length_drop, List.length_take, lim] at *; omega))⟩
    refine fO (B.indexAddrO (i := i) (tv (T.os 4 0 0 (((a.take i ++ List.replicate (a.length - i) (D.Entry.mk 0 0 0 ByteArray.empty)).map (eEntry true)).length)) rfl) (tv (tN i) rfl) rfl (by first | omega | (simp only [List.length_map]; omega) | (simp only [List.length_map, List.length_append, List.length_cons, List.length_nil, List.length_replicate, List.length_set, List.length_drop, List.length_take, lim] at *; omega)) Try.underlying51 sz123 if123) ?_
    refine cO (B.storeP (us := (eEntry true x1)) (rows' := (((a.take i ++ List.replicate (a.length - i) (D.Entry.mk 0 0 0 ByteArray.empty)).set i x1).map (eEntry true))) (row := (eEntry true x2)) (tv (T.orp 4 0 i 0) rfl) (tv (T.agg (eEntry true x1)) rfl) nofun rfl (map_at _ hx2) rfl (Nat.le_of_ble_eq_true rfl) if123 sz123 (ball_cons rfl (ball_cons rfl (ball_cons rfl (ball_cons rfl (ball_nil))))) (by intro r hr t ht; obtain ⟨x, _, rfl⟩ := List.mem_map.1 hr; rw [flEntry] at ht; exact isPl_flat (okeEntry.pl _ t ht)) (set_mapE rfl)) ?_
    refine VRunO.nil ?_
    refine vinB.n ?_
    refine tn ?_
    refine VRun.region ?_
    refine mO (tN i) rfl ?_
    refine fO (B.add (n := (((i + 1) : Nat) : Int)) (tv (tN i) rfl) (VEv.int .i64 1) (by first | rfl | (rw [wrap64 (by omega)]; omega) | (rw [wrap64 (by omega)]; done))) ?_
    refine aO (tN (i + 1)) rfl ?_
    refine VRunO.nil ?_
    refine tn ?_
    have he2 : ((a.take i ++ List.replicate (a.length - i) (D.Entry.mk 0 0 0 ByteArray.empty)).set i x1) = (a.take (i + 1) ++ List.replicate (a.length - (i + 1)) (D.Entry.mk 0 0 0 ByteArray.empty)) := by first | rfl | (exact fill_next hx1) | (simp; done) | omega
    refine ⟨(i + 1 : Nat), ?_, ?_, Wk.mk (fun k => k) ?_ ?_ ?_⟩
    · first | trivial | omega | (simp; done) | exact ⟨by omega, hI'.2⟩
    · first | omega | (simp only []; omega) | (show _ < _; omega) | (simp; omega)
    · exact (ball_cons ⟨rfl, rfl⟩ (ball_cons ⟨rfl, rfl⟩ (ball_cons ⟨(congrArg (fun n_ => T.os 4 0 0 n_) (show ((a.take i ++ List.replicate (a.length - i) (D.Entry.mk 0 0 0 ByteArray.empty)).map (eEntry true)).length = ((a.take (i + 1) ++ List.replicate (a.length - (i + 1)) (D.Entry.mk 0 0 0 ByteArray.empty)).map (eEntry true)).length from (by first | rfl | (simp only [List.length_map]; omega) | (simp only [List.length_map, List.length_set, List.length_append, List.length_take, List.length_replicate, List.length_cons, List.length_nil]; omega)))), rfl⟩ (ball_cons ⟨rfl, rfl⟩ (ball_nil)))))
    · exact (ball_cons ⟨(congrArg (fun l_ => some (Obj.rows 4 (List.map (eEntry true) l_))) he2), (Nat.le_of_ble_eq_true rfl), rfl⟩ (ball_nil))
    · show List.Nodup ([0] : List Nat)
      decide
  have fhc0 : ¬ (i < a.length) := of_decide_eq_false hc0
  refine VRun.exit ?_
  refine vthn.e ?_
  refine vthn.e ?_
  refine vinB.e ?_
  refine tn ?_
  refine sr ?_
  refine mO (T.os 4 0 0 (((a.take i ++ List.replicate (a.length - i) (D.Entry.mk 0 0 0 ByteArray.empty)).map (eEntry true)).length)) rfl ?_
  refine aO (T.os 4 0 0 (((a.take i ++ List.replicate (a.length - i) (D.Entry.mk 0 0 0 ByteArray.empty)).map (eEntry true)).length)) rfl ?_
  refine nt ?_
  refine rt ?_
  refine vfin.eq (r' := (T.sl true 4 ((a.take i ++ List.replicate (a.length - i) (D.Entry.mk 0 0 0 ByteArray.empty)).map (eEntry true)))) ?_ (vfin.r (VRes.tmp (t := (T.os 4 0 0 (((a.take i ++ List.replicate (a.length - i) (D.Entry.mk 0 0 0 ByteArray.empty)).map (eEntry true)).length))) rfl VRes.nil) (Give.os rfl rfl (okeEntry.cleanMap _)))
  show (T.sl true 4 ((a.take i ++ List.replicate (a.length - i) (D.Entry.mk 0 0 0 ByteArray.empty)).map (eEntry true))) = (T.sl true 4 (a.map (eEntry true)))
  refine congrArg (fun l_ => T.sl true 4 (List.map (eEntry true) l_)) ?_
  exact fill_done fhc0
theorem W_laws_toHouse (n : Nat) (a : D.House) (ha : zHouse a ≤ mx) : Pure (acall Try.prog (n + 8)) 15 [(T.agg (eHouse false a))] (T.agg (eHouse true a)) := by
  refine Pure.intro (rs := [ResultVar.cell 2 53]) Try.func15 rfl rfl rfl (E0 := [(0, (T.agg (eHouse false a)))]) rfl ?_
  have hlim : lim = 1099511627776 := rfl
  have hmx : mx = 1048576 := rfl
  have hmax : maxLen = 9223372036854775807 := rfl
  simp only [zHouse] at ha
  have hla_List := zL_len (z := zListed) a.List
  have hla_Dict := zL_len (z := zMeaning) a.Dict
  have hla_Issues := zL_len (z := zIssue) a.Issues
  have hla_Uses := zL_len (z := zUsed) a.Uses
  have hla_Corrections := zL_len (z := zCorrection) a.Corrections
  have hla_Entries := zL_len (z := zEntry) a.Entries
  refine sr ?_
  refine kO (B.box (ts := (eHouse false a)) (tv (T.agg (eHouse false a)) rfl) nofun rfl) ?_
  refine kO (B.alloc (t := (T.agg [T.nils, T.nils, (tN 0), (tN 0), (tS ByteArray.empty), (tS ByteArray.empty), T.nils, (tN 0), T.nils, T.nils, T.nils, T.nils, (tN 0)])) (ts := [T.nils, T.nils, (tN 0), (tN 0), (tS ByteArray.empty), (tS ByteArray.empty), T.nils, (tN 0), T.nils, T.nils, T.nils, T.nils, (tN 0)]) zo53 zc53 nofun (fun _ => .agg _ _ rfl (RLof (RL.cons (.nils) (RL.cons (.nils) (RL.cons (.int _ _) (RL.cons (.int _ _) (RL.cons (.str _) (RL.cons (.str _) (RL.cons (.nils) (RL.cons (.int _ _) (RL.cons (.nils) (RL.cons (.nils) (RL.cons (.nils) (RL.cons (.nils) (RL.cons (.int _ _) (RL.nil _)))))))))))))))) rfl) ?_
  refine nt ?_
  refine sr ?_
  refine kO (B.alloc (t := (T.agg [T.nils, T.nils, (tN 0), (tN 0), (tS ByteArray.empty), (tS ByteArray.empty), T.nils, (tN 0), T.nils, T.nils, T.nils, T.nils, (tN 0)])) (ts := [T.nils, T.nils, (tN 0), (tN 0), (tS ByteArray.empty), (tS ByteArray.empty), T.nils, (tN 0), T.nils, T.nils, T.nils, T.nils, (tN 0)]) zo53 zc53 nofun (fun _ => .agg _ _ rfl (RLof (RL.cons (.nils) (RL.cons (.nils) (RL.cons (.int _ _) (RL.cons (.int _ _) (RL.cons (.str _) (RL.cons (.str _) (RL.cons (.nils) (RL.cons (.int _ _) (RL.cons (.nils) (RL.cons (.nils) (RL.cons (.nils) (RL.cons (.nils) (RL.cons (.int _ _) (RL.nil _)))))))))))))))) rfl) ?_
  refine nt ?_
  refine sr ?_
  refine fO (OF.fieldAddrO (tv (T.op 0 0) rfl) fa43_0) ?_
  refine lO (OL.loadO1 (t := (rd 4 eListed a.List)) (tv (T.op 0 0) rfl) rfl rfl st36) ?_
  refine cO (OC.callF (us := [(rd 4 eListed a.List)]) (r := (T.sl true 4 (a.List.map (eListed true)))) (r' := (T.os 4 3 0 ((a.List.map (eListed true)).length))) (objs := [(Obj.rows 4 (a.List.map (eListed true)))]) rfl (vc (tv (rd 4 eListed a.List) rfl) VEvs.nil) (lp rfl (LendL.nil)) (W_laws_toListedS (n + 5) a.List (by first | assumption | omega)) rfl) ?_
  refine fO (OF.fieldAddrO (tv (T.op 2 0) rfl) fa53_0) ?_
  refine cO (B.storeO (us := [(T.os 4 3 0 ((a.List.map (eListed true)).length))]) (ws := [(T.os 4 3 0 ((a.List.map (eListed true)).length)), T.nils, (tN 0), (tN 0), (tS ByteArray.empty), (tS ByteArray.empty), T.nils, (tN 0), T.nils, T.nils, T.nils, T.nils, (tN 0)]) (tv (T.op 2 0) rfl) (tv (T.os 4 3 0 ((a.List.map (eListed true)).length)) rfl) nofun rfl rfl (Nat.le_of_ble_eq_true rfl) if46 sz46 (ball_cons rfl (ball_nil)) rfl) ?_
  refine nt ?_
  refine sr ?_
  refine fO (OF.fieldAddrO (tv (T.op 0 0) rfl) fa43_1) ?_
  refine lO (OL.loadO1 (t := (rd 2 eMeaning a.Dict)) (tv (T.op 0 1) rfl) rfl rfl st37) ?_
  refine cO (OC.callF (us := [(rd 2 eMeaning a.Dict)]) (r := (T.sl true 2 (a.Dict.map (eMeaning true)))) (r' := (T.os 2 4 0 ((a.Dict.map (eMeaning true)).length))) (objs := [(Obj.rows 2 (a.Dict.map (eMeaning true)))]) rfl (vc (tv (rd 2 eMeaning a.Dict) rfl) VEvs.nil) (lp rfl (LendL.nil)) (W_laws_toMeaningS (n + 5) a.Dict (by first | assumption | omega)) rfl) ?_
  refine fO (OF.fieldAddrO (tv (T.op 2 0) rfl) fa53_1) ?_
  refine cO (B.storeO (us := [(T.os 2 4 0 ((a.Dict.map (eMeaning true)).length))]) (ws := [(T.os 4 3 0 ((a.List.map (eListed true)).length)), (T.os 2 4 0 ((a.Dict.map (eMeaning true)).length)), (tN 0), (tN 0), (tS ByteArray.empty), (tS ByteArray.empty), T.nils, (tN 0), T.nils, T.nils, T.nils, T.nils, (tN 0)]) (tv (T.op 2 1) rfl) (tv (T.os 2 4 0 ((a.Dict.map (eMeaning true)).length)) rfl) nofun rfl rfl (Nat.le_of_ble_eq_true rfl) if47 sz47 (ball_cons rfl (ball_nil)) rfl) ?_
  refine nt ?_
  refine sr ?_
  refine fO (OF.fieldAddrO (tv (T.op 0 0) rfl) fa43_2) ?_
  refine lO (OL.loadOn (us := (eDraft false a.Desk)) (tv (T.op 0 2) rfl) rfl st26 sz26 (Nat.le_of_ble_eq_true rfl) rfl) ?_
  refine cO (OC.callF (us := [(T.agg (eDraft false a.Desk))]) (r := (T.agg (eDraft true a.Desk))) (r' := (T.agg [(tI a.Desk.Grid.Rows), (tI a.Desk.Grid.Cols), (tS a.Desk.Grid.Cells), (tS a.Desk.Fill), (T.os 2 5 0 ((a.Desk.Clues.map (eClue true)).length)), (tI a.Desk.Version)])) (objs := [(Obj.rows 2 (a.Desk.Clues.map (eClue true)))]) rfl (vc (tv (T.agg (eDraft false a.Desk)) rfl) VEvs.nil) (LendL.cons (lg okeDraft) (LendL.nil)) (W_laws_toDraft (n + 2) a.Desk (by first | assumption | omega)) rfl) ?_
  refine fO (OF.fieldAddrO (tv (T.op 2 0) rfl) fa53_2) ?_
  refine cO (B.storeO (us := [(tI a.Desk.Grid.Rows), (tI a.Desk.Grid.Cols), (tS a.Desk.Grid.Cells), (tS a.Desk.Fill), (T.os 2 5 0 ((a.Desk.Clues.map (eClue true)).length)), (tI a.Desk.Version)]) (ws := [(T.os 4 3 0 ((a.List.map (eListed true)).length)), (T.os 2 4 0 ((a.Dict.map (eMeaning true)).length)), (tI a.Desk.Grid.Rows), (tI a.Desk.Grid.Cols), (tS a.Desk.Grid.Cells), (tS a.Desk.Fill), (T.os 2 5 0 ((a.Desk.Clues.map (eClue true)).length)), (tI a.Desk.Version), T.nils, T.nils, T.nils, T.nils, (tN 0)]) (tv (T.op 2 2) rfl) (tv (T.agg [(tI a.Desk.Grid.Rows), (tI a.Desk.Grid.Cols), (tS a.Desk.Grid.Cells), (tS a.Desk.Fill), (T.os 2 5 0 ((a.Desk.Clues.map (eClue true)).length)), (tI a.Desk.Version)]) rfl) nofun rfl rfl (Nat.le_of_ble_eq_true rfl) if32 sz32 (ball_cons rfl (ball_cons rfl (ball_cons rfl (ball_cons rfl (ball_cons rfl (ball_cons rfl (ball_nil))))))) rfl) ?_
  refine nt ?_
  refine sr ?_
  refine fO (OF.fieldAddrO (tv (T.op 0 0) rfl) fa43_3) ?_
  refine lO (OL.loadO1 (t := (rd 10 eIssue a.Issues)) (tv (T.op 0 8) rfl) rfl rfl st38) ?_
  refine cO (OC.callF (us := [(rd 10 eIssue a.Issues)]) (r := (T.sl true 10 (a.Issues.map (eIssue true)))) (r' := (T.os 10 6 0 ((a.Issues.map (eIssue true)).length))) (objs := [(Obj.rows 10 (a.Issues.map (eIssue true)))]) rfl (vc (tv (rd 10 eIssue a.Issues) rfl) VEvs.nil) (lp rfl (LendL.nil)) (W_laws_toIssueS (n + 0) a.Issues (by first | assumption | omega)) rfl) ?_
  refine fO (OF.fieldAddrO (tv (T.op 2 0) rfl) fa53_3) ?_
  refine cO (B.storeO (us := [(T.os 10 6 0 ((a.Issues.map (eIssue true)).length))]) (ws := [(T.os 4 3 0 ((a.List.map (eListed true)).length)), (T.os 2 4 0 ((a.Dict.map (eMeaning true)).length)), (tI a.Desk.Grid.Rows), (tI a.Desk.Grid.Cols), (tS a.Desk.Grid.Cells), (tS a.Desk.Fill), (T.os 2 5 0 ((a.Desk.Clues.map (eClue true)).length)), (tI a.Desk.Version), (T.os 10 6 0 ((a.Issues.map (eIssue true)).length)), T.nils, T.nils, T.nils, (tN 0)]) (tv (T.op 2 8) rfl) (tv (T.os 10 6 0 ((a.Issues.map (eIssue true)).length)) rfl) nofun rfl rfl (Nat.le_of_ble_eq_true rfl) if48 sz48 (ball_cons rfl (ball_nil)) rfl) ?_
  refine nt ?_
  refine sr ?_
  refine fO (OF.fieldAddrO (tv (T.op 0 0) rfl) fa43_4) ?_
  refine lO (OL.loadO1 (t := (rd 2 eUsed a.Uses)) (tv (T.op 0 9) rfl) rfl rfl st39) ?_
  refine cO (OC.callF (us := [(rd 2 eUsed a.Uses)]) (r := (T.sl true 2 (a.Uses.map (eUsed true)))) (r' := (T.os 2 7 0 ((a.Uses.map (eUsed true)).length))) (objs := [(Obj.rows 2 (a.Uses.map (eUsed true)))]) rfl (vc (tv (rd 2 eUsed a.Uses) rfl) VEvs.nil) (lp rfl (LendL.nil)) (W_laws_toUsedS (n + 5) a.Uses (by first | assumption | omega)) rfl) ?_
  refine fO (OF.fieldAddrO (tv (T.op 2 0) rfl) fa53_4) ?_
  refine cO (B.storeO (us := [(T.os 2 7 0 ((a.Uses.map (eUsed true)).length))]) (ws := [(T.os 4 3 0 ((a.List.map (eListed true)).length)), (T.os 2 4 0 ((a.Dict.map (eMeaning true)).length)), (tI a.Desk.Grid.Rows), (tI a.Desk.Grid.Cols), (tS a.Desk.Grid.Cells), (tS a.Desk.Fill), (T.os 2 5 0 ((a.Desk.Clues.map (eClue true)).length)), (tI a.Desk.Version), (T.os 10 6 0 ((a.Issues.map (eIssue true)).length)), (T.os 2 7 0 ((a.Uses.map (eUsed true)).length)), T.nils, T.nils, (tN 0)]) (tv (T.op 2 9) rfl) (tv (T.os 2 7 0 ((a.Uses.map (eUsed true)).length)) rfl) nofun rfl rfl (Nat.le_of_ble_eq_true rfl) if49 sz49 (ball_cons rfl (ball_nil)) rfl) ?_
  refine nt ?_
  refine sr ?_
  refine fO (OF.fieldAddrO (tv (T.op 0 0) rfl) fa43_5) ?_
  refine lO (OL.loadO1 (t := (rd 5 eCorrection a.Corrections)) (tv (T.op 0 10) rfl) rfl rfl st40) ?_
  refine cO (OC.callF (us := [(rd 5 eCorrection a.Corrections)]) (r := (T.sl true 5 (a.Corrections.map (eCorrection true)))) (r' := (T.os 5 8 0 ((a.Corrections.map (eCorrection true)).length))) (objs := [(Obj.rows 5 (a.Corrections.map (eCorrection true)))]) rfl (vc (tv (rd 5 eCorrection a.Corrections) rfl) VEvs.nil) (lp rfl (LendL.nil)) (W_laws_toCorrectionS (n + 2) a.Corrections (by first | assumption | omega)) rfl) ?_
  refine fO (OF.fieldAddrO (tv (T.op 2 0) rfl) fa53_5) ?_
  refine cO (B.storeO (us := [(T.os 5 8 0 ((a.Corrections.map (eCorrection true)).length))]) (ws := [(T.os 4 3 0 ((a.List.map (eListed true)).length)), (T.os 2 4 0 ((a.Dict.map (eMeaning true)).length)), (tI a.Desk.Grid.Rows), (tI a.Desk.Grid.Cols), (tS a.Desk.Grid.Cells), (tS a.Desk.Fill), (T.os 2 5 0 ((a.Desk.Clues.map (eClue true)).length)), (tI a.Desk.Version), (T.os 10 6 0 ((a.Issues.map (eIssue true)).length)), (T.os 2 7 0 ((a.Uses.map (eUsed true)).length)), (T.os 5 8 0 ((a.Corrections.map (eCorrection true)).length)), T.nils, (tN 0)]) (tv (T.op 2 10) rfl) (tv (T.os 5 8 0 ((a.Corrections.map (eCorrection true)).length)) rfl) nofun rfl rfl (Nat.le_of_ble_eq_true rfl) if50 sz50 (ball_cons rfl (ball_nil)) rfl) ?_
  refine nt ?_
  refine sr ?_
  refine fO (OF.fieldAddrO (tv (T.op 0 0) rfl) fa43_6) ?_
  refine lO (OL.loadO1 (t := (rd 4 eEntry a.Entries)) (tv (T.op 0 11) rfl) rfl rfl st41) ?_
  refine cO (OC.callF (us := [(rd 4 eEntry a.Entries)]) (r := (T.sl true 4 (a.Entries.map (eEntry true)))) (r' := (T.os 4 9 0 ((a.Entries.map (eEntry true)).length))) (objs := [(Obj.rows 4 (a.Entries.map (eEntry true)))]) rfl (vc (tv (rd 4 eEntry a.Entries) rfl) VEvs.nil) (lp rfl (LendL.nil)) (W_laws_toEntryS (n + 5) a.Entries (by first | assumption | omega)) rfl) ?_
  refine fO (OF.fieldAddrO (tv (T.op 2 0) rfl) fa53_6) ?_
  refine cO (B.storeO (us := [(T.os 4 9 0 ((a.Entries.map (eEntry true)).length))]) (ws := [(T.os 4 3 0 ((a.List.map (eListed true)).length)), (T.os 2 4 0 ((a.Dict.map (eMeaning true)).length)), (tI a.Desk.Grid.Rows), (tI a.Desk.Grid.Cols), (tS a.Desk.Grid.Cells), (tS a.Desk.Fill), (T.os 2 5 0 ((a.Desk.Clues.map (eClue true)).length)), (tI a.Desk.Version), (T.os 10 6 0 ((a.Issues.map (eIssue true)).length)), (T.os 2 7 0 ((a.Uses.map (eUsed true)).length)), (T.os 5 8 0 ((a.Corrections.map (eCorrection true)).length)), (T.os 4 9 0 ((a.Entries.map (eEntry true)).length)), (tN 0)]) (tv (T.op 2 11) rfl) (tv (T.os 4 9 0 ((a.Entries.map (eEntry true)).length)) rfl) nofun rfl rfl (Nat.le_of_ble_eq_true rfl) if51 sz51 (ball_cons rfl (ball_nil)) rfl) ?_
  refine nt ?_
  refine sr ?_
  refine fO (OF.fieldAddrO (tv (T.op 0 0) rfl) fa43_7) ?_
  refine lO (OL.loadO1 (t := (tI a.Now)) (tv (T.op 0 12) rfl) rfl rfl st3) ?_
  refine fO (OF.fieldAddrO (tv (T.op 2 0) rfl) fa53_7) ?_
  refine cO (B.storeO (us := [(tI a.Now)]) (ws := [(T.os 4 3 0 ((a.List.map (eListed true)).length)), (T.os 2 4 0 ((a.Dict.map (eMeaning true)).length)), (tI a.Desk.Grid.Rows), (tI a.Desk.Grid.Cols), (tS a.Desk.Grid.Cells), (tS a.Desk.Fill), (T.os 2 5 0 ((a.Desk.Clues.map (eClue true)).length)), (tI a.Desk.Version), (T.os 10 6 0 ((a.Issues.map (eIssue true)).length)), (T.os 2 7 0 ((a.Uses.map (eUsed true)).length)), (T.os 5 8 0 ((a.Corrections.map (eCorrection true)).length)), (T.os 4 9 0 ((a.Entries.map (eEntry true)).length)), (tI a.Now)]) (tv (T.op 2 12) rfl) (tv (tI a.Now) rfl) nofun rfl rfl (Nat.le_of_ble_eq_true rfl) if3 sz3 (ball_cons rfl (ball_nil)) rfl) ?_
  refine nt ?_
  refine sr ?_
  refine lO (OL.loadOn (us := [(T.os 4 3 0 ((a.List.map (eListed true)).length)), (T.os 2 4 0 ((a.Dict.map (eMeaning true)).length)), (tI a.Desk.Grid.Rows), (tI a.Desk.Grid.Cols), (tS a.Desk.Grid.Cells), (tS a.Desk.Fill), (T.os 2 5 0 ((a.Desk.Clues.map (eClue true)).length)), (tI a.Desk.Version), (T.os 10 6 0 ((a.Issues.map (eIssue true)).length)), (T.os 2 7 0 ((a.Uses.map (eUsed true)).length)), (T.os 5 8 0 ((a.Corrections.map (eCorrection true)).length)), (T.os 4 9 0 ((a.Entries.map (eEntry true)).length)), (tI a.Now)]) (tv (T.op 2 0) rfl) rfl st53 sz53 (Nat.le_of_ble_eq_true rfl) rfl) ?_
  refine cO (B.storeO (us := [(T.os 4 3 0 ((a.List.map (eListed true)).length)), (T.os 2 4 0 ((a.Dict.map (eMeaning true)).length)), (tI a.Desk.Grid.Rows), (tI a.Desk.Grid.Cols), (tS a.Desk.Grid.Cells), (tS a.Desk.Fill), (T.os 2 5 0 ((a.Desk.Clues.map (eClue true)).length)), (tI a.Desk.Version), (T.os 10 6 0 ((a.Issues.map (eIssue true)).length)), (T.os 2 7 0 ((a.Uses.map (eUsed true)).length)), (T.os 5 8 0 ((a.Corrections.map (eCorrection true)).length)), (T.os 4 9 0 ((a.Entries.map (eEntry true)).length)), (tI a.Now)]) (ws := [(T.os 4 3 0 ((a.List.map (eListed true)).length)), (T.os 2 4 0 ((a.Dict.map (eMeaning true)).length)), (tI a.Desk.Grid.Rows), (tI a.Desk.Grid.Cols), (tS a.Desk.Grid.Cells), (tS a.Desk.Fill), (T.os 2 5 0 ((a.Desk.Clues.map (eClue true)).length)), (tI a.Desk.Version), (T.os 10 6 0 ((a.Issues.map (eIssue true)).length)), (T.os 2 7 0 ((a.Uses.map (eUsed true)).length)), (T.os 5 8 0 ((a.Corrections.map (eCorrection true)).length)), (T.os 4 9 0 ((a.Entries.map (eEntry true)).length)), (tI a.Now)]) (tv (T.op 1 0) rfl) (tv (T.agg [(T.os 4 3 0 ((a.List.map (eListed true)).length)), (T.os 2 4 0 ((a.Dict.map (eMeaning true)).length)), (tI a.Desk.Grid.Rows), (tI a.Desk.Grid.Cols), (tS a.Desk.Grid.Cells), (tS a.Desk.Fill), (T.os 2 5 0 ((a.Desk.Clues.map (eClue true)).length)), (tI a.Desk.Version), (T.os 10 6 0 ((a.Issues.map (eIssue true)).length)), (T.os 2 7 0 ((a.Uses.map (eUsed true)).length)), (T.os 5 8 0 ((a.Corrections.map (eCorrection true)).length)), (T.os 4 9 0 ((a.Entries.map (eEntry true)).length)), (tI a.Now)]) rfl) nofun rfl rfl (Nat.le_of_ble_eq_true rfl) if53 sz53 (ball_cons rfl (ball_cons rfl (ball_cons rfl (ball_cons rfl (ball_cons rfl (ball_cons rfl (ball_cons rfl (ball_cons rfl (ball_cons rfl (ball_cons rfl (ball_cons rfl (ball_cons rfl (ball_cons rfl (ball_nil)))))))))))))) rfl) ?_
  refine nt ?_
  refine rt ?_
  refine vfin.eq (r' := (T.agg [(T.sl true 4 (a.List.map (eListed true))), (T.sl true 2 (a.Dict.map (eMeaning true))), (tI a.Desk.Grid.Rows), (tI a.Desk.Grid.Cols), (tS a.Desk.Grid.Cells), (tS a.Desk.Fill), (T.sl true 2 (a.Desk.Clues.map (eClue true))), (tI a.Desk.Version), (T.sl true 10 (a.Issues.map (eIssue true))), (T.sl true 2 (a.Uses.map (eUsed true))), (T.sl true 5 (a.Corrections.map (eCorrection true))), (T.sl true 4 (a.Entries.map (eEntry true))), (tI a.Now)])) ?_ (vfin.r (VRes.celln (ws := [(T.os 4 3 0 ((a.List.map (eListed true)).length)), (T.os 2 4 0 ((a.Dict.map (eMeaning true)).length)), (tI a.Desk.Grid.Rows), (tI a.Desk.Grid.Cols), (tS a.Desk.Grid.Cells), (tS a.Desk.Fill), (T.os 2 5 0 ((a.Desk.Clues.map (eClue true)).length)), (tI a.Desk.Version), (T.os 10 6 0 ((a.Issues.map (eIssue true)).length)), (T.os 2 7 0 ((a.Uses.map (eUsed true)).length)), (T.os 5 8 0 ((a.Corrections.map (eCorrection true)).length)), (T.os 4 9 0 ((a.Entries.map (eEntry true)).length)), (tI a.Now)]) rfl rfl st53 sz53 (Nat.le_of_ble_eq_true rfl) rfl VRes.nil) (Give.agg (GiveL.cons (Give.os rfl rfl (okeListed.cleanMap _)) (GiveL.cons (Give.os rfl rfl (okeMeaning.cleanMap _)) (GiveL.cons (Give.int _ _) (GiveL.cons (Give.int _ _) (GiveL.cons (Give.str _) (GiveL.cons (Give.str _) (GiveL.cons (Give.os rfl rfl (okeClue.cleanMap _)) (GiveL.cons (Give.int _ _) (GiveL.cons (Give.os rfl rfl (okeIssue.cleanMap _)) (GiveL.cons (Give.os rfl rfl (okeUsed.cleanMap _)) (GiveL.cons (Give.os rfl rfl (okeCorrection.cleanMap _)) (GiveL.cons (Give.os rfl rfl (okeEntry.cleanMap _)) (GiveL.cons (Give.int _ _) GiveL.nil (by decide)) (by decide)) (by decide)) (by decide)) (by decide)) (by decide)) (by decide)) (by decide)) (by decide)) (by decide)) (by decide)) (by decide)) (by decide))))
  show (T.agg [(T.sl true 4 (a.List.map (eListed true))), (T.sl true 2 (a.Dict.map (eMeaning true))), (tI a.Desk.Grid.Rows), (tI a.Desk.Grid.Cols), (tS a.Desk.Grid.Cells), (tS a.Desk.Fill), (T.sl true 2 (a.Desk.Clues.map (eClue true))), (tI a.Desk.Version), (T.sl true 10 (a.Issues.map (eIssue true))), (T.sl true 2 (a.Uses.map (eUsed true))), (T.sl true 5 (a.Corrections.map (eCorrection true))), (T.sl true 4 (a.Entries.map (eEntry true))), (tI a.Now)]) = (T.agg (eHouse true a))
  first | rfl | (exact decN (by omega)) | (symm; rw [decide_eq_false_iff_not]; omega) | (symm; rw [decide_eq_true_eq]; omega) | (simp_all; done)
end Go.Proofs.Ytfdefabncdddkaa.AE
