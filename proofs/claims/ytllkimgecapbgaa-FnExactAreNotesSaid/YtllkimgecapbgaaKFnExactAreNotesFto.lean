/- Walks of the program's functions over trees. Conditions: as each theorem states. -/
import Derived.Test.YtllkimgecapbgaaKFnExactAreNotesFsz
namespace Go.Proofs.Ytllkimgecapbgaa.AE
open Go Go.RowKit
set_option linter.unusedVariables false
set_option linter.unusedSimpArgs false
set_option maxRecDepth 20000
set_option maxHeartbeats 2000000

theorem W_laws_toNote (n : Nat) (a : D.Note)  : Pure (acall Try.prog (n + 1)) 11 [(T.agg (eNote false a))] (T.agg (eNote true a)) := by
  refine Pure.intro (rs := [ResultVar.cell 2 26]) Try.func11 rfl rfl rfl (E0 := [(0, (T.agg (eNote false a)))]) rfl ?_
  have hlim : lim = 1099511627776 := rfl
  have hmx : mx = 1048576 := rfl
  have hmax : maxLen = 9223372036854775807 := rfl
  refine VRun.seq ?_
  refine VRun.region ?_
  refine VRunO.make VWant.always (B.box (ts := [(T.int .i64 a.Cell), (T.str a.Letter), (T.int .i64 a.Tick), (T.int .i64 a.Who)]) (VEv.tmp (t := (T.agg (eNote false a))) rfl) nofun rfl) ?_
  refine VRunO.make VWant.always (B.alloc (t := (T.agg [(T.int .i64 0), (T.str ByteArray.empty), (T.int .i64 0), (T.int .i64 0)])) (ts := [(T.int .i64 0), (T.str ByteArray.empty), (T.int .i64 0), (T.int .i64 0)]) zo26 zc26 nofun (fun _ => .agg _ _ rfl (RLof (RL.cons (.int _ _) (RL.cons (.str _) (RL.cons (.int _ _) (RL.cons (.int _ _) (RL.nil _))))))) rfl) ?_
  refine VRunO.nil ?_
  refine vthn.n ?_
  refine VRun.seq ?_
  refine VRun.region ?_
  refine VRunO.make VWant.always (B.alloc (t := (T.agg [(T.int .i64 0), (T.str ByteArray.empty), (T.int .i64 0), (T.int .i64 0)])) (ts := [(T.int .i64 0), (T.str ByteArray.empty), (T.int .i64 0), (T.int .i64 0)]) zo26 zc26 nofun (fun _ => .agg _ _ rfl (RLof (RL.cons (.int _ _) (RL.cons (.str _) (RL.cons (.int _ _) (RL.cons (.int _ _) (RL.nil _))))))) rfl) ?_
  refine VRunO.nil ?_
  refine vthn.n ?_
  refine VRun.seq ?_
  refine VRun.region ?_
  refine VRunO.free VWant.always (OF.fieldAddrO (VEv.tmp (t := (T.op 0 0)) rfl) fa23_0) ?_
  refine VRunO.look VWant.always (OL.loadO1 (t := (T.int .i64 a.Cell)) (VEv.tmp (t := (T.op 0 0)) rfl) rfl rfl st3) ?_
  refine VRunO.free VWant.always (OF.fieldAddrO (VEv.tmp (t := (T.op 2 0)) rfl) fa26_0) ?_
  refine VRunO.chain VWant.always (B.storeO (us := [(T.int .i64 a.Cell)]) (ws := [(T.int .i64 a.Cell), (T.str ByteArray.empty), (T.int .i64 0), (T.int .i64 0)]) (VEv.tmp (t := (T.op 2 0)) rfl) (VEv.tmp (t := (T.int .i64 a.Cell)) rfl) nofun rfl rfl (Nat.le_of_ble_eq_true rfl) if3 sz3 (ball_cons rfl (ball_nil)) rfl) ?_
  refine VRunO.nil ?_
  refine vthn.n ?_
  refine VRun.seq ?_
  refine VRun.region ?_
  refine VRunO.free VWant.always (OF.fieldAddrO (VEv.tmp (t := (T.op 0 0)) rfl) fa23_1) ?_
  refine VRunO.look VWant.always (OL.loadO1 (t := (T.str a.Letter)) (VEv.tmp (t := (T.op 0 1)) rfl) rfl rfl st9) ?_
  refine VRunO.free VWant.always (OF.fieldAddrO (VEv.tmp (t := (T.op 2 0)) rfl) fa26_1) ?_
  refine VRunO.chain VWant.always (B.storeO (us := [(T.str a.Letter)]) (ws := [(T.int .i64 a.Cell), (T.str a.Letter), (T.int .i64 0), (T.int .i64 0)]) (VEv.tmp (t := (T.op 2 1)) rfl) (VEv.tmp (t := (T.str a.Letter)) rfl) nofun rfl rfl (Nat.le_of_ble_eq_true rfl) if9 sz9 (ball_cons rfl (ball_nil)) rfl) ?_
  refine VRunO.nil ?_
  refine vthn.n ?_
  refine VRun.seq ?_
  refine VRun.region ?_
  refine VRunO.free VWant.always (OF.fieldAddrO (VEv.tmp (t := (T.op 0 0)) rfl) fa23_2) ?_
  refine VRunO.look VWant.always (OL.loadO1 (t := (T.int .i64 a.Tick)) (VEv.tmp (t := (T.op 0 2)) rfl) rfl rfl st3) ?_
  refine VRunO.free VWant.always (OF.fieldAddrO (VEv.tmp (t := (T.op 2 0)) rfl) fa26_2) ?_
  refine VRunO.chain VWant.always (B.storeO (us := [(T.int .i64 a.Tick)]) (ws := [(T.int .i64 a.Cell), (T.str a.Letter), (T.int .i64 a.Tick), (T.int .i64 0)]) (VEv.tmp (t := (T.op 2 2)) rfl) (VEv.tmp (t := (T.int .i64 a.Tick)) rfl) nofun rfl rfl (Nat.le_of_ble_eq_true rfl) if3 sz3 (ball_cons rfl (ball_nil)) rfl) ?_
  refine VRunO.nil ?_
  refine vthn.n ?_
  refine VRun.seq ?_
  refine VRun.region ?_
  refine VRunO.free VWant.always (OF.fieldAddrO (VEv.tmp (t := (T.op 0 0)) rfl) fa23_3) ?_
  refine VRunO.look VWant.always (OL.loadO1 (t := (T.int .i64 a.Who)) (VEv.tmp (t := (T.op 0 3)) rfl) rfl rfl st3) ?_
  refine VRunO.free VWant.always (OF.fieldAddrO (VEv.tmp (t := (T.op 2 0)) rfl) fa26_3) ?_
  refine VRunO.chain VWant.always (B.storeO (us := [(T.int .i64 a.Who)]) (ws := [(T.int .i64 a.Cell), (T.str a.Letter), (T.int .i64 a.Tick), (T.int .i64 a.Who)]) (VEv.tmp (t := (T.op 2 3)) rfl) (VEv.tmp (t := (T.int .i64 a.Who)) rfl) nofun rfl rfl (Nat.le_of_ble_eq_true rfl) if3 sz3 (ball_cons rfl (ball_nil)) rfl) ?_
  refine VRunO.nil ?_
  refine vthn.n ?_
  refine VRun.seq ?_
  refine VRun.region ?_
  refine VRunO.look VWant.always (OL.loadOn (us := (eNote false a)) (VEv.tmp (t := (T.op 2 0)) rfl) rfl st26 sz26 (Nat.le_of_ble_eq_true rfl) rfl) ?_
  refine VRunO.chain VWant.always (B.storeO (us := [(T.int .i64 a.Cell), (T.str a.Letter), (T.int .i64 a.Tick), (T.int .i64 a.Who)]) (ws := [(T.int .i64 a.Cell), (T.str a.Letter), (T.int .i64 a.Tick), (T.int .i64 a.Who)]) (VEv.tmp (t := (T.op 1 0)) rfl) (VEv.tmp (t := (T.agg (eNote false a))) rfl) nofun rfl rfl (Nat.le_of_ble_eq_true rfl) if26 sz26 (ball_cons rfl (ball_cons rfl (ball_cons rfl (ball_cons rfl (ball_nil))))) rfl) ?_
  refine VRunO.nil ?_
  refine vthn.n ?_
  refine VRun.ret ?_
  refine vfin.eq (r' := (T.agg (eNote false a))) ?_ (vfin.r (VRes.celln (ws := (eNote false a)) rfl rfl st26 sz26 (Nat.le_of_ble_eq_true rfl) rfl VRes.nil) (Give.agg (GiveL.cons (Give.int _ _) (GiveL.cons (Give.str _) (GiveL.cons (Give.int _ _) (GiveL.cons (Give.int _ _) GiveL.nil (by decide)) (by decide)) (by decide)) (by decide))))
  show (T.agg (eNote false a)) = (T.agg (eNote true a))
  first | rfl | (exact decN (by omega)) | (symm; rw [decide_eq_false_iff_not]; omega) | (symm; rw [decide_eq_true_eq]; omega) | (simp_all; done)
theorem W_laws_toNoteS (n : Nat) (a : List D.Note) (ha : a.length ≤ mx) : Pure (acall Try.prog (n + 2)) 20 [(T.sl false 4 (a.map (eNote false)))] (T.sl true 4 (a.map (eNote true))) := by
  refine Pure.intro (rs := [ResultVar.tmp 2]) Try.func20 rfl rfl rfl (E0 := [(0, (T.sl false 4 (a.map (eNote false))))]) rfl ?_
  have hlim : lim = 1099511627776 := rfl
  have hmx : mx = 1048576 := rfl
  have hmax : maxLen = 9223372036854775807 := rfl
  refine VRun.seq ?_
  refine VRun.region ?_
  refine VRunO.free VWant.always (OF.assign VEv.nils) ?_
  refine VRunO.nil ?_
  refine vthn.n ?_
  refine VRun.seq ?_
  refine VRun.region ?_
  refine VRunO.free VWant.always (OF.move (VEv.tmp (t := (T.sl false 4 (a.map (eNote false)))) rfl)) ?_
  refine VRunO.look VWant.always (B.lenR (m := a.length) (VEv.tmp (t := (T.sl false 4 (a.map (eNote false)))) rfl) Try.underlying36 (List.length_map ..)) ?_
  refine VRunO.make VWant.always (B.makeZ (n := a.length) (m := ((List.replicate a.length (D.Note.mk 0 ByteArray.empty 0 0)).map (eNote true)).length) (rows := ((List.replicate a.length (D.Note.mk 0 ByteArray.empty 0 0)).map (eNote true))) (zr := (eNote true (D.Note.mk 0 ByteArray.empty 0 0))) (VEv.tmp (t := (T.int .i64 ((a.length : Nat) : Int))) rfl) (VEv.tmp (t := (T.int .i64 ((a.length : Nat) : Int))) rfl) rfl Try.underlying39 zo26 zc26 rfl (by rw [sz26]; decide) (by first | omega | (simp only [List.length_map]; omega) | (simp only [List.length_map, List.length_append, List.length_cons, List.length_nil, List.length_replicate, List.length_set, List.length_drop, List.length_take, lim] at *; omega)) (of_decide_eq_true (by kernel_rfl)) (Z0.int (Z0.str (Z0.int (Z0.int Z0.nil)))) sz26 (List.map_replicate ..).symm (by rw [List.length_map, List.length_replicate])) ?_
  refine VRunO.free VWant.always (OF.assign (VEv.tmp (t := (T.os 4 0 0 (((List.replicate a.length (D.Note.mk 0 ByteArray.empty 0 0)).map (eNote true)).length))) rfl)) ?_
  refine VRunO.nil ?_
  refine vthn.n ?_
  refine VRun.seq ?_
  refine VRun.seq ?_
  refine VRun.region ?_
  refine VRunO.free VWant.always (OF.assign (VEv.int .i64 0)) ?_
  refine VRunO.nil ?_
  refine vthn.n ?_
  refine VRun.block ?_
  have he1 : (List.replicate a.length (D.Note.mk 0 ByteArray.empty 0 0)) = (a.take 0 ++ List.replicate (a.length - 0) (D.Note.mk 0 ByteArray.empty 0 0)) := by first | rfl | (exact fill_next hx1) | (simp; done) | omega
  refine VRun.loop (A := Nat) (fun s_ => [(0, (T.sl false 4 (a.map (eNote false)))), (2, T.nils), (3, (T.os 4 0 0 (((a.take s_ ++ List.replicate (a.length - s_) (D.Note.mk 0 ByteArray.empty 0 0)).map (eNote true)).length))), (4, (T.int .i64 ((s_ : Nat) : Int)))]) (fun s_ => mkO [(0, (Obj.rows 4 ((a.take s_ ++ List.replicate (a.length - s_) (D.Note.mk 0 ByteArray.empty 0 0)).map (eNote true))))]) 1 (fun s_ => s_ ≤ a.length) (fun s_ => a.length - s_) (0 : Nat) ?_ (Wk.mk (fun k => k) ?_ ?_ ?_) ?_
  · first | trivial | (simp; done) | omega | (constructor <;> simp)
  · exact (ball_cons ⟨rfl, rfl⟩ (ball_cons ⟨rfl, rfl⟩ (ball_cons ⟨(congrArg (fun l_ => T.os 4 0 0 (List.map (eNote true) l_).length) he1), rfl⟩ (ball_cons ⟨(congrArg (T.int .i64) (show 0 = ((0 : Nat) : Int) from (by first | rfl | omega | (simp; done) | (push_cast; omega)))), rfl⟩ (ball_nil)))))
  · exact (ball_cons ⟨(congrArg (fun l_ => some (Obj.rows 4 (List.map (eNote true) l_))) he1), (Nat.le_of_ble_eq_true rfl), rfl⟩ (ball_nil))
  · show List.Nodup ([0] : List Nat)
    decide
  · rintro i hI
    have hI' : i ≤ a.length := hI
    clear hI
    show VRun _ _ _ [(0, (T.sl false 4 (a.map (eNote false)))), (2, T.nils), (3, (T.os 4 0 0 (((a.take i ++ List.replicate (a.length - i) (D.Note.mk 0 ByteArray.empty 0 0)).map (eNote true)).length))), (4, (T.int .i64 ((i : Nat) : Int)))] (mkO [(0, (Obj.rows 4 ((a.take i ++ List.replicate (a.length - i) (D.Note.mk 0 ByteArray.empty 0 0)).map (eNote true))))]) 1 _
    have hfl := fill_at (w := (D.Note.mk 0 ByteArray.empty 0 0)) hI'
    refine VRun.seq ?_
    refine VRun.seq ?_
    refine VRun.region ?_
    refine VRunO.free VWant.always (OF.move (VEv.tmp (t := (T.int .i64 ((i : Nat) : Int))) rfl)) ?_
    refine VRunO.free VWant.always (OF.move (VEv.tmp (t := (T.sl false 4 (a.map (eNote false)))) rfl)) ?_
    refine VRunO.look VWant.always (B.lenR (m := a.length) (VEv.tmp (t := (T.sl false 4 (a.map (eNote false)))) rfl) Try.underlying36 (List.length_map ..)) ?_
    refine VRunO.free VWant.always (B.lss (c := (decide (i < a.length))) (VEv.tmp (t := (T.int .i64 ((i : Nat) : Int))) rfl) (VEv.tmp (t := (T.int .i64 ((a.length : Nat) : Int))) rfl) (by first | (exact decN (by omega)))) ?_
    refine VRunO.nil ?_
    refine vthn.n ?_
    refine VRun.cond (VEv.tmp (t := (T.bool (decide (i < a.length)))) rfl) (fun hc0 => ?_) (fun hc0 => ?_)
    · have fhc0 : i < a.length := of_decide_eq_true hc0
      refine VRun.skip ?_
      refine vthn.n ?_
      refine VRun.seq ?_
      refine VRun.block ?_
      refine VRun.region ?_
      refine VRunO.free VWant.always (OF.move (VEv.tmp (t := (T.os 4 0 0 (((a.take i ++ List.replicate (a.length - i) (D.Note.mk 0 ByteArray.empty 0 0)).map (eNote true)).length))) rfl)) ?_
      refine VRunO.free VWant.always (OF.move (VEv.tmp (t := (T.int .i64 ((i : Nat) : Int))) rfl)) ?_
      refine VRunO.free VWant.always (OF.move (VEv.tmp (t := (T.sl false 4 (a.map (eNote false)))) rfl)) ?_
      refine VRunO.free VWant.always (OF.move (VEv.tmp (t := (T.int .i64 ((i : Nat) : Int))) rfl)) ?_
      obtain ⟨x1, hx1⟩ : ∃ x, a[i]? = some x := ⟨_, List.getElem?_eq_getElem (by first | omega | (simp only [List.length_map]; omega) | (simp only [List.length_map, List.length_append, List.length_cons, List.length_nil, List.length_replicate, List.length_set, List.length_drop, List.length_take, lim] at *; omega))⟩
      refine VRunO.free VWant.always (OF.indexAddrR (row := (eNote false x1)) (i := i) (VEv.tmp (t := (T.sl false 4 (a.map (eNote false)))) rfl) (VEv.tmp (t := (T.int .i64 ((i : Nat) : Int))) rfl) rfl (map_at _ hx1) Try.underlying36 sz23 if23) ?_
      refine VRunO.look VWant.always (OL.loadRn (us := (eNote false x1)) (VEv.tmp (t := (T.rp [(T.int .i64 x1.Cell), (T.str x1.Letter), (T.int .i64 x1.Tick), (T.int .i64 x1.Who)])) rfl) st23 sz23 (Nat.le_of_ble_eq_true rfl) rfl) ?_
      refine VRunO.chain VWant.always (OC.callF (us := [(T.agg (eNote false x1))]) (r := (T.agg (eNote true x1))) (r' := (T.agg (eNote true x1))) (objs := []) rfl (VEvs.cons (VEv.tmp (t := (T.agg (eNote false x1))) rfl) VEvs.nil) (LendL.cons (Lend.agg (LendL.cons (Lend.pl rfl) (LendL.cons (Lend.pl rfl) (LendL.cons (Lend.pl rfl) (LendL.cons (Lend.pl rfl) (LendL.nil)))))) (LendL.nil)) (W_laws_toNote (n + 0) x1 ) rfl) ?_
      obtain ⟨x2, hx2⟩ : ∃ x, (a.take i ++ List.replicate (a.length - i) (D.Note.mk 0 ByteArray.empty 0 0))[i]? = some x := ⟨_, List.getElem?_eq_getElem (by first | omega | (simp only [List.length_map]; omega) | (simp only [List.length_map, List.length_append, List.length_cons, List.length_nil, List.length_replicate, List.length_set, List.length_drop, List.length_take, lim] at *; omega))⟩
      refine VRunO.free VWant.always (B.indexAddrO (i := i) (VEv.tmp (t := (T.os 4 0 0 (((a.take i ++ List.replicate (a.length - i) (D.Note.mk 0 ByteArray.empty 0 0)).map (eNote true)).length))) rfl) (VEv.tmp (t := (T.int .i64 ((i : Nat) : Int))) rfl) rfl (by first | omega | (simp only [List.length_map]; omega) | (simp only [List.length_map, List.length_append, List.length_cons, List.length_nil, List.length_replicate, List.length_set, List.length_drop, List.length_take, lim] at *; omega)) Try.underlying39 sz26 if26) ?_
      refine VRunO.chain VWant.always (B.storeP (us := [(T.int .i64 x1.Cell), (T.str x1.Letter), (T.int .i64 x1.Tick), (T.int .i64 x1.Who)]) (rows' := (((a.take i ++ List.replicate (a.length - i) (D.Note.mk 0 ByteArray.empty 0 0)).set i x1).map (eNote true))) (row := (eNote true x2)) (VEv.tmp (t := (T.orp 4 0 i 0)) rfl) (VEv.tmp (t := (T.agg (eNote true x1))) rfl) nofun rfl (map_at _ hx2) rfl (Nat.le_of_ble_eq_true rfl) if26 sz26 (ball_cons rfl (ball_cons rfl (ball_cons rfl (ball_cons rfl (ball_nil))))) (by intro r hr t ht; obtain ⟨x, _, rfl⟩ := List.mem_map.1 hr; rw [flNote] at ht; exact isPl_flat (okeNote.pl _ t ht)) (set_mapE rfl)) ?_
      refine VRunO.nil ?_
      refine vinB.n ?_
      refine vthn.n ?_
      refine VRun.region ?_
      refine VRunO.free VWant.always (OF.move (VEv.tmp (t := (T.int .i64 ((i : Nat) : Int))) rfl)) ?_
      refine VRunO.free VWant.always (B.add (n := (((i + 1) : Nat) : Int)) (VEv.tmp (t := (T.int .i64 ((i : Nat) : Int))) rfl) (VEv.int .i64 1) (by first | rfl | (rw [wrap64 (by omega)]; done) | (rw [wrap64 (by omega)]; omega) | (rw [wrap64 (by omega)]; push_cast; omega) | omega)) ?_
      refine VRunO.free VWant.always (OF.assign (VEv.tmp (t := (T.int .i64 (((i + 1) : Nat) : Int))) rfl)) ?_
      refine VRunO.nil ?_
      refine vthn.n ?_
      have he2 : ((a.take i ++ List.replicate (a.length - i) (D.Note.mk 0 ByteArray.empty 0 0)).set i x1) = (a.take (i + 1) ++ List.replicate (a.length - (i + 1)) (D.Note.mk 0 ByteArray.empty 0 0)) := by first | rfl | (exact fill_next hx1) | (simp; done) | omega
      refine ⟨(i + 1 : Nat), ?_, ?_, Wk.mk (fun k => k) ?_ ?_ ?_⟩
      · first | trivial | omega | (simp; done) | exact ⟨by omega, hI'.2⟩
      · first | omega | (simp only []; omega) | (show _ < _; omega) | (simp; omega)
      · exact (ball_cons ⟨rfl, rfl⟩ (ball_cons ⟨rfl, rfl⟩ (ball_cons ⟨(congrArg (fun n_ => T.os 4 0 0 n_) (show ((a.take i ++ List.replicate (a.length - i) (D.Note.mk 0 ByteArray.empty 0 0)).map (eNote true)).length = ((a.take (i + 1) ++ List.replicate (a.length - (i + 1)) (D.Note.mk 0 ByteArray.empty 0 0)).map (eNote true)).length from (by first | rfl | (simp only [List.length_map]; omega) | (simp only [List.length_map, List.length_set, List.length_append, List.length_take, List.length_replicate, List.length_cons, List.length_nil]; omega)))), rfl⟩ (ball_cons ⟨rfl, rfl⟩ (ball_nil)))))
      · exact (ball_cons ⟨(congrArg (fun l_ => some (Obj.rows 4 (List.map (eNote true) l_))) he2), (Nat.le_of_ble_eq_true rfl), rfl⟩ (ball_nil))
      · show List.Nodup ([0] : List Nat)
        decide
    · have fhc0 : ¬ (i < a.length) := of_decide_eq_false hc0
      refine VRun.exit ?_
      refine vthn.e ?_
      refine vthn.e ?_
      refine vinB.e ?_
      refine vthn.n ?_
      refine VRun.seq ?_
      refine VRun.region ?_
      refine VRunO.free VWant.always (OF.move (VEv.tmp (t := (T.os 4 0 0 (((a.take i ++ List.replicate (a.length - i) (D.Note.mk 0 ByteArray.empty 0 0)).map (eNote true)).length))) rfl)) ?_
      refine VRunO.free VWant.always (OF.assign (VEv.tmp (t := (T.os 4 0 0 (((a.take i ++ List.replicate (a.length - i) (D.Note.mk 0 ByteArray.empty 0 0)).map (eNote true)).length))) rfl)) ?_
      refine VRunO.nil ?_
      refine vthn.n ?_
      refine VRun.ret ?_
      refine vfin.eq (r' := (T.sl true 4 ((a.take i ++ List.replicate (a.length - i) (D.Note.mk 0 ByteArray.empty 0 0)).map (eNote true)))) ?_ (vfin.r (VRes.tmp (t := (T.os 4 0 0 (((a.take i ++ List.replicate (a.length - i) (D.Note.mk 0 ByteArray.empty 0 0)).map (eNote true)).length))) rfl VRes.nil) (Give.os rfl rfl (okeNote.cleanMap _)))
      show (T.sl true 4 ((a.take i ++ List.replicate (a.length - i) (D.Note.mk 0 ByteArray.empty 0 0)).map (eNote true))) = (T.sl true 4 (a.map (eNote true)))
      refine congrArg (fun l_ => T.sl true 4 (List.map (eNote true) l_)) ?_
      exact fill_done fhc0
end Go.Proofs.Ytllkimgecapbgaa.AE
