/- Walks of the program's functions over trees. Conditions: as each theorem states. -/
import Derived.Test.YthdnjihmjdbdkaaKFnExactEqualIssuesFsz
namespace Go.Proofs.Ythdnjihmjdbdkaa.AE
open Go Go.RowKit
set_option linter.unusedVariables false
set_option linter.unusedSimpArgs false
set_option maxRecDepth 20000
set_option maxHeartbeats 2000000

theorem W_laws_toIntS (n : Nat) (a : List Int) (ha : a.length ≤ mx) : Pure (acall Try.prog (n + 1)) 138 [(T.sl false 1 (a.map (eInt false)))] (T.sl true 1 (a.map (eInt true))) := by
  refine Pure.intro (rs := [ResultVar.tmp 2]) Try.func138 rfl rfl rfl (E0 := [(0, (T.sl false 1 (a.map (eInt false))))]) rfl ?_
  have hlim : lim = 1099511627776 := rfl
  have hmx : mx = 1048576 := rfl
  have hmax : maxLen = 9223372036854775807 := rfl
  refine VRun.seq ?_
  refine VRun.region ?_
  refine VRunO.free VWant.always (OF.assign VEv.nils) ?_
  refine VRunO.nil ?_
  refine vthn.n ?_
  refine VRun.seq ?_
  refine VRun.region ?_
  refine VRunO.free VWant.always (OF.move (VEv.tmp (t := (T.sl false 1 (a.map (eInt false)))) rfl)) ?_
  refine VRunO.look VWant.always (B.lenR (m := a.length) (VEv.tmp (t := (T.sl false 1 (a.map (eInt false)))) rfl) Try.underlying72 (List.length_map ..)) ?_
  refine VRunO.make VWant.always (B.makeZ (n := a.length) (m := ((List.replicate a.length 0).map (eInt true)).length) (rows := ((List.replicate a.length 0).map (eInt true))) (zr := (eInt true 0)) (VEv.tmp (t := (T.int .i64 ((a.length : Nat) : Int))) rfl) (VEv.tmp (t := (T.int .i64 ((a.length : Nat) : Int))) rfl) rfl Try.underlying72 zo3 zc3 rfl (by rw [sz3]; decide) (by first | omega | (simp only [List.length_map]; omega) | (simp only [List.length_map, List.length_append, List.length_cons, List.length_nil, List.length_replicate, List.length_set, List.length_drop, List.length_take, lim] at *; omega)) (of_decide_eq_true (by kernel_rfl)) (Z0.int Z0.nil) sz3 (List.map_replicate ..).symm (by rw [List.length_map, List.length_replicate])) ?_
  refine VRunO.free VWant.always (OF.assign (VEv.tmp (t := (T.os 1 0 0 (((List.replicate a.length 0).map (eInt true)).length))) rfl)) ?_
  refine VRunO.nil ?_
  refine vthn.n ?_
  refine VRun.seq ?_
  refine VRun.seq ?_
  refine VRun.region ?_
  refine VRunO.free VWant.always (OF.assign (VEv.int .i64 0)) ?_
  refine VRunO.nil ?_
  refine vthn.n ?_
  refine VRun.block ?_
  have he1 : (List.replicate a.length 0) = (a.take 0 ++ List.replicate (a.length - 0) 0) := by first | rfl | (exact fill_next hx1) | (simp; done) | omega
  refine VRun.loop (A := Nat) (fun s_ => [(0, (T.sl false 1 (a.map (eInt false)))), (2, T.nils), (3, (T.os 1 0 0 (((a.take s_ ++ List.replicate (a.length - s_) 0).map (eInt true)).length))), (4, (T.int .i64 ((s_ : Nat) : Int)))]) (fun s_ => mkO [(0, (Obj.rows 1 ((a.take s_ ++ List.replicate (a.length - s_) 0).map (eInt true))))]) 1 (fun s_ => s_ ≤ a.length) (fun s_ => a.length - s_) (0 : Nat) ?_ (Wk.mk (fun k => k) ?_ ?_ ?_) ?_
  · first | trivial | (simp; done) | omega | (constructor <;> simp)
  · exact (ball_cons ⟨rfl, rfl⟩ (ball_cons ⟨rfl, rfl⟩ (ball_cons ⟨(congrArg (fun l_ => T.os 1 0 0 (List.map (eInt true) l_).length) he1), rfl⟩ (ball_cons ⟨(congrArg (T.int .i64) (show 0 = ((0 : Nat) : Int) from (by first | rfl | omega | (simp; done) | (push_cast; omega)))), rfl⟩ (ball_nil)))))
  · exact (ball_cons ⟨(congrArg (fun l_ => some (Obj.rows 1 (List.map (eInt true) l_))) he1), (Nat.le_of_ble_eq_true rfl), rfl⟩ (ball_nil))
  · show List.Nodup ([0] : List Nat)
    decide
  · rintro i hI
    have hI' : i ≤ a.length := hI
    clear hI
    show VRun _ _ _ [(0, (T.sl false 1 (a.map (eInt false)))), (2, T.nils), (3, (T.os 1 0 0 (((a.take i ++ List.replicate (a.length - i) 0).map (eInt true)).length))), (4, (T.int .i64 ((i : Nat) : Int)))] (mkO [(0, (Obj.rows 1 ((a.take i ++ List.replicate (a.length - i) 0).map (eInt true))))]) 1 _
    have hfl := fill_at (w := 0) hI'
    refine VRun.seq ?_
    refine VRun.seq ?_
    refine VRun.region ?_
    refine VRunO.free VWant.always (OF.move (VEv.tmp (t := (T.int .i64 ((i : Nat) : Int))) rfl)) ?_
    refine VRunO.free VWant.always (OF.move (VEv.tmp (t := (T.sl false 1 (a.map (eInt false)))) rfl)) ?_
    refine VRunO.look VWant.always (B.lenR (m := a.length) (VEv.tmp (t := (T.sl false 1 (a.map (eInt false)))) rfl) Try.underlying72 (List.length_map ..)) ?_
    refine VRunO.free VWant.always (B.lss (c := (decide (i < a.length))) (VEv.tmp (t := (T.int .i64 ((i : Nat) : Int))) rfl) (VEv.tmp (t := (T.int .i64 ((a.length : Nat) : Int))) rfl) (by first | (exact decN (by omega)))) ?_
    refine VRunO.nil ?_
    refine vthn.n ?_
    refine VRun.cond (VEv.tmp (t := (T.bool (decide (i < a.length)))) rfl) (fun hc0 => ?_) (fun hc0 => ?_)
    · have fhc0 : i < a.length := of_decide_eq_true hc0
      refine VRun.skip ?_
      refine vthn.n ?_
      refine VRun.seq ?_
      refine VRun.block ?_
      refine VRun.region ?_
      refine VRunO.free VWant.always (OF.move (VEv.tmp (t := (T.os 1 0 0 (((a.take i ++ List.replicate (a.length - i) 0).map (eInt true)).length))) rfl)) ?_
      refine VRunO.free VWant.always (OF.move (VEv.tmp (t := (T.int .i64 ((i : Nat) : Int))) rfl)) ?_
      refine VRunO.free VWant.always (OF.move (VEv.tmp (t := (T.sl false 1 (a.map (eInt false)))) rfl)) ?_
      refine VRunO.free VWant.always (OF.move (VEv.tmp (t := (T.int .i64 ((i : Nat) : Int))) rfl)) ?_
      obtain ⟨x1, hx1⟩ : ∃ x, a[i]? = some x := ⟨_, List.getElem?_eq_getElem (by first | omega | (simp only [List.length_map]; omega) | (simp only [List.length_map, List.length_append, List.length_cons, List.length_nil, List.length_replicate, List.length_set, List.length_drop, List.length_take, lim] at *; omega))⟩
      refine VRunO.free VWant.always (OF.indexAddrR (row := (eInt false x1)) (i := i) (VEv.tmp (t := (T.sl false 1 (a.map (eInt false)))) rfl) (VEv.tmp (t := (T.int .i64 ((i : Nat) : Int))) rfl) rfl (map_at _ hx1) Try.underlying72 sz3 if3) ?_
      refine VRunO.look VWant.always (OL.loadR1 (t := (T.int .i64 x1)) (VEv.tmp (t := (T.rp [(T.int .i64 x1)])) rfl) rfl st3) ?_
      obtain ⟨x2, hx2⟩ : ∃ x, (a.take i ++ List.replicate (a.length - i) 0)[i]? = some x := ⟨_, List.getElem?_eq_getElem (by first | omega | (simp only [List.length_map]; omega) | (simp only [List.length_map, List.length_append, List.length_cons, List.length_nil, List.length_replicate, List.length_set, List.length_drop, List.length_take, lim] at *; omega))⟩
      refine VRunO.free VWant.always (B.indexAddrO (i := i) (VEv.tmp (t := (T.os 1 0 0 (((a.take i ++ List.replicate (a.length - i) 0).map (eInt true)).length))) rfl) (VEv.tmp (t := (T.int .i64 ((i : Nat) : Int))) rfl) rfl (by first | omega | (simp only [List.length_map]; omega) | (simp only [List.length_map, List.length_append, List.length_cons, List.length_nil, List.length_replicate, List.length_set, List.length_drop, List.length_take, lim] at *; omega)) Try.underlying72 sz3 if3) ?_
      refine VRunO.chain VWant.always (B.storeP (us := [(T.int .i64 x1)]) (rows' := (((a.take i ++ List.replicate (a.length - i) 0).set i x1).map (eInt true))) (row := (eInt true x2)) (VEv.tmp (t := (T.orp 1 0 i 0)) rfl) (VEv.tmp (t := (T.int .i64 x1)) rfl) nofun rfl (map_at _ hx2) rfl (Nat.le_of_ble_eq_true rfl) if3 sz3 (ball_cons rfl (ball_nil)) (by intro r hr t ht; obtain ⟨x, _, rfl⟩ := List.mem_map.1 hr; rw [flInt] at ht; exact isPl_flat (okInt.pl _ t ht)) (set_mapE rfl)) ?_
      refine VRunO.nil ?_
      refine vinB.n ?_
      refine vthn.n ?_
      refine VRun.region ?_
      refine VRunO.free VWant.always (OF.move (VEv.tmp (t := (T.int .i64 ((i : Nat) : Int))) rfl)) ?_
      refine VRunO.free VWant.always (B.add (n := (((i + 1) : Nat) : Int)) (VEv.tmp (t := (T.int .i64 ((i : Nat) : Int))) rfl) (VEv.int .i64 1) (by first | rfl | (rw [wrap64 (by omega)]; done) | (rw [wrap64 (by omega)]; omega) | (rw [wrap64 (by omega)]; push_cast; omega) | omega)) ?_
      refine VRunO.free VWant.always (OF.assign (VEv.tmp (t := (T.int .i64 (((i + 1) : Nat) : Int))) rfl)) ?_
      refine VRunO.nil ?_
      refine vthn.n ?_
      have he2 : ((a.take i ++ List.replicate (a.length - i) 0).set i x1) = (a.take (i + 1) ++ List.replicate (a.length - (i + 1)) 0) := by first | rfl | (exact fill_next hx1) | (simp; done) | omega
      refine ⟨(i + 1 : Nat), ?_, ?_, Wk.mk (fun k => k) ?_ ?_ ?_⟩
      · first | trivial | omega | (simp; done) | exact ⟨by omega, hI'.2⟩
      · first | omega | (simp only []; omega) | (show _ < _; omega) | (simp; omega)
      · exact (ball_cons ⟨rfl, rfl⟩ (ball_cons ⟨rfl, rfl⟩ (ball_cons ⟨(congrArg (fun n_ => T.os 1 0 0 n_) (show ((a.take i ++ List.replicate (a.length - i) 0).map (eInt true)).length = ((a.take (i + 1) ++ List.replicate (a.length - (i + 1)) 0).map (eInt true)).length from (by first | rfl | (simp only [List.length_map]; omega) | (simp only [List.length_map, List.length_set, List.length_append, List.length_take, List.length_replicate, List.length_cons, List.length_nil]; omega)))), rfl⟩ (ball_cons ⟨rfl, rfl⟩ (ball_nil)))))
      · exact (ball_cons ⟨(congrArg (fun l_ => some (Obj.rows 1 (List.map (eInt true) l_))) he2), (Nat.le_of_ble_eq_true rfl), rfl⟩ (ball_nil))
      · show List.Nodup ([0] : List Nat)
        decide
    · have fhc0 : ¬ (i < a.length) := of_decide_eq_false hc0
      refine VRun.exit ?_
      refine vthn.e ?_
      refine vthn.e ?_
      refine vinB.e ?_
      refine vthn.n ?_
      refine VRun.seq ?_
      refine VRun.region ?_
      refine VRunO.free VWant.always (OF.move (VEv.tmp (t := (T.os 1 0 0 (((a.take i ++ List.replicate (a.length - i) 0).map (eInt true)).length))) rfl)) ?_
      refine VRunO.free VWant.always (OF.assign (VEv.tmp (t := (T.os 1 0 0 (((a.take i ++ List.replicate (a.length - i) 0).map (eInt true)).length))) rfl)) ?_
      refine VRunO.nil ?_
      refine vthn.n ?_
      refine VRun.ret ?_
      refine vfin.eq (r' := (T.sl true 1 ((a.take i ++ List.replicate (a.length - i) 0).map (eInt true)))) ?_ (vfin.r (VRes.tmp (t := (T.os 1 0 0 (((a.take i ++ List.replicate (a.length - i) 0).map (eInt true)).length))) rfl VRes.nil) (Give.os rfl rfl (okInt.cleanMap _)))
      show (T.sl true 1 ((a.take i ++ List.replicate (a.length - i) 0).map (eInt true))) = (T.sl true 1 (a.map (eInt true)))
      refine congrArg (fun l_ => T.sl true 1 (List.map (eInt true) l_)) ?_
      exact fill_done fhc0
theorem W_laws_toGrid (n : Nat) (a : D.Grid)  : Pure (acall Try.prog (n + 1)) 98 [(T.agg (eGrid false a))] (T.agg (eGrid true a)) := by
  refine Pure.intro (rs := [ResultVar.cell 2 59]) Try.func98 rfl rfl rfl (E0 := [(0, (T.agg (eGrid false a)))]) rfl ?_
  have hlim : lim = 1099511627776 := rfl
  have hmx : mx = 1048576 := rfl
  have hmax : maxLen = 9223372036854775807 := rfl
  refine VRun.seq ?_
  refine VRun.region ?_
  refine VRunO.make VWant.always (B.box (ts := [(T.int .i64 a.Rows), (T.int .i64 a.Cols), (T.str a.Cells)]) (VEv.tmp (t := (T.agg (eGrid false a))) rfl) nofun rfl) ?_
  refine VRunO.make VWant.always (B.alloc (t := (T.agg [(T.int .i64 0), (T.int .i64 0), (T.str ByteArray.empty)])) (ts := [(T.int .i64 0), (T.int .i64 0), (T.str ByteArray.empty)]) zo59 zc59 nofun (fun _ => .agg _ _ rfl (RLof (RL.cons (.int _ _) (RL.cons (.int _ _) (RL.cons (.str _) (RL.nil _)))))) rfl) ?_
  refine VRunO.nil ?_
  refine vthn.n ?_
  refine VRun.seq ?_
  refine VRun.region ?_
  refine VRunO.make VWant.always (B.alloc (t := (T.agg [(T.int .i64 0), (T.int .i64 0), (T.str ByteArray.empty)])) (ts := [(T.int .i64 0), (T.int .i64 0), (T.str ByteArray.empty)]) zo59 zc59 nofun (fun _ => .agg _ _ rfl (RLof (RL.cons (.int _ _) (RL.cons (.int _ _) (RL.cons (.str _) (RL.nil _)))))) rfl) ?_
  refine VRunO.nil ?_
  refine vthn.n ?_
  refine VRun.seq ?_
  refine VRun.region ?_
  refine VRunO.free VWant.always (OF.fieldAddrO (VEv.tmp (t := (T.op 0 0)) rfl) fa53_0) ?_
  refine VRunO.look VWant.always (OL.loadO1 (t := (T.int .i64 a.Rows)) (VEv.tmp (t := (T.op 0 0)) rfl) rfl rfl st3) ?_
  refine VRunO.free VWant.always (OF.fieldAddrO (VEv.tmp (t := (T.op 2 0)) rfl) fa59_0) ?_
  refine VRunO.chain VWant.always (B.storeO (us := [(T.int .i64 a.Rows)]) (ws := [(T.int .i64 a.Rows), (T.int .i64 0), (T.str ByteArray.empty)]) (VEv.tmp (t := (T.op 2 0)) rfl) (VEv.tmp (t := (T.int .i64 a.Rows)) rfl) nofun rfl rfl (Nat.le_of_ble_eq_true rfl) if3 sz3 (ball_cons rfl (ball_nil)) rfl) ?_
  refine VRunO.nil ?_
  refine vthn.n ?_
  refine VRun.seq ?_
  refine VRun.region ?_
  refine VRunO.free VWant.always (OF.fieldAddrO (VEv.tmp (t := (T.op 0 0)) rfl) fa53_1) ?_
  refine VRunO.look VWant.always (OL.loadO1 (t := (T.int .i64 a.Cols)) (VEv.tmp (t := (T.op 0 1)) rfl) rfl rfl st3) ?_
  refine VRunO.free VWant.always (OF.fieldAddrO (VEv.tmp (t := (T.op 2 0)) rfl) fa59_1) ?_
  refine VRunO.chain VWant.always (B.storeO (us := [(T.int .i64 a.Cols)]) (ws := [(T.int .i64 a.Rows), (T.int .i64 a.Cols), (T.str ByteArray.empty)]) (VEv.tmp (t := (T.op 2 1)) rfl) (VEv.tmp (t := (T.int .i64 a.Cols)) rfl) nofun rfl rfl (Nat.le_of_ble_eq_true rfl) if3 sz3 (ball_cons rfl (ball_nil)) rfl) ?_
  refine VRunO.nil ?_
  refine vthn.n ?_
  refine VRun.seq ?_
  refine VRun.region ?_
  refine VRunO.free VWant.always (OF.fieldAddrO (VEv.tmp (t := (T.op 0 0)) rfl) fa53_2) ?_
  refine VRunO.look VWant.always (OL.loadO1 (t := (T.str a.Cells)) (VEv.tmp (t := (T.op 0 2)) rfl) rfl rfl st9) ?_
  refine VRunO.free VWant.always (OF.fieldAddrO (VEv.tmp (t := (T.op 2 0)) rfl) fa59_2) ?_
  refine VRunO.chain VWant.always (B.storeO (us := [(T.str a.Cells)]) (ws := [(T.int .i64 a.Rows), (T.int .i64 a.Cols), (T.str a.Cells)]) (VEv.tmp (t := (T.op 2 2)) rfl) (VEv.tmp (t := (T.str a.Cells)) rfl) nofun rfl rfl (Nat.le_of_ble_eq_true rfl) if9 sz9 (ball_cons rfl (ball_nil)) rfl) ?_
  refine VRunO.nil ?_
  refine vthn.n ?_
  refine VRun.seq ?_
  refine VRun.region ?_
  refine VRunO.look VWant.always (OL.loadOn (us := (eGrid false a)) (VEv.tmp (t := (T.op 2 0)) rfl) rfl st59 sz59 (Nat.le_of_ble_eq_true rfl) rfl) ?_
  refine VRunO.chain VWant.always (B.storeO (us := [(T.int .i64 a.Rows), (T.int .i64 a.Cols), (T.str a.Cells)]) (ws := [(T.int .i64 a.Rows), (T.int .i64 a.Cols), (T.str a.Cells)]) (VEv.tmp (t := (T.op 1 0)) rfl) (VEv.tmp (t := (T.agg (eGrid false a))) rfl) nofun rfl rfl (Nat.le_of_ble_eq_true rfl) if59 sz59 (ball_cons rfl (ball_cons rfl (ball_cons rfl (ball_nil)))) rfl) ?_
  refine VRunO.nil ?_
  refine vthn.n ?_
  refine VRun.ret ?_
  refine vfin.eq (r' := (T.agg (eGrid false a))) ?_ (vfin.r (VRes.celln (ws := (eGrid false a)) rfl rfl st59 sz59 (Nat.le_of_ble_eq_true rfl) rfl VRes.nil) (Give.agg (GiveL.cons (Give.int _ _) (GiveL.cons (Give.int _ _) (GiveL.cons (Give.str _) GiveL.nil (by decide)) (by decide)) (by decide))))
  show (T.agg (eGrid false a)) = (T.agg (eGrid true a))
  first | rfl | (exact decN (by omega)) | (symm; rw [decide_eq_false_iff_not]; omega) | (symm; rw [decide_eq_true_eq]; omega) | (simp_all; done)
theorem W_laws_toStep (n : Nat) (a : D.Step)  : Pure (acall Try.prog (n + 1)) 161 [(T.agg (eStep false a))] (T.agg (eStep true a)) := by
  refine Pure.intro (rs := [ResultVar.cell 2 166]) Try.func161 rfl rfl rfl (E0 := [(0, (T.agg (eStep false a)))]) rfl ?_
  have hlim : lim = 1099511627776 := rfl
  have hmx : mx = 1048576 := rfl
  have hmax : maxLen = 9223372036854775807 := rfl
  refine VRun.seq ?_
  refine VRun.region ?_
  refine VRunO.make VWant.always (B.box (ts := [(T.int .i64 a.Kind), (T.str a.Word), (T.int .i64 a.A), (T.int .i64 a.B)]) (VEv.tmp (t := (T.agg (eStep false a))) rfl) nofun rfl) ?_
  refine VRunO.make VWant.always (B.alloc (t := (T.agg [(T.int .i64 0), (T.str ByteArray.empty), (T.int .i64 0), (T.int .i64 0)])) (ts := [(T.int .i64 0), (T.str ByteArray.empty), (T.int .i64 0), (T.int .i64 0)]) zo166 zc166 nofun (fun _ => .agg _ _ rfl (RLof (RL.cons (.int _ _) (RL.cons (.str _) (RL.cons (.int _ _) (RL.cons (.int _ _) (RL.nil _))))))) rfl) ?_
  refine VRunO.nil ?_
  refine vthn.n ?_
  refine VRun.seq ?_
  refine VRun.region ?_
  refine VRunO.make VWant.always (B.alloc (t := (T.agg [(T.int .i64 0), (T.str ByteArray.empty), (T.int .i64 0), (T.int .i64 0)])) (ts := [(T.int .i64 0), (T.str ByteArray.empty), (T.int .i64 0), (T.int .i64 0)]) zo166 zc166 nofun (fun _ => .agg _ _ rfl (RLof (RL.cons (.int _ _) (RL.cons (.str _) (RL.cons (.int _ _) (RL.cons (.int _ _) (RL.nil _))))))) rfl) ?_
  refine VRunO.nil ?_
  refine vthn.n ?_
  refine VRun.seq ?_
  refine VRun.region ?_
  refine VRunO.free VWant.always (OF.fieldAddrO (VEv.tmp (t := (T.op 0 0)) rfl) fa182_0) ?_
  refine VRunO.look VWant.always (OL.loadO1 (t := (T.int .i64 a.Kind)) (VEv.tmp (t := (T.op 0 0)) rfl) rfl rfl st3) ?_
  refine VRunO.free VWant.always (OF.fieldAddrO (VEv.tmp (t := (T.op 2 0)) rfl) fa166_0) ?_
  refine VRunO.chain VWant.always (B.storeO (us := [(T.int .i64 a.Kind)]) (ws := [(T.int .i64 a.Kind), (T.str ByteArray.empty), (T.int .i64 0), (T.int .i64 0)]) (VEv.tmp (t := (T.op 2 0)) rfl) (VEv.tmp (t := (T.int .i64 a.Kind)) rfl) nofun rfl rfl (Nat.le_of_ble_eq_true rfl) if3 sz3 (ball_cons rfl (ball_nil)) rfl) ?_
  refine VRunO.nil ?_
  refine vthn.n ?_
  refine VRun.seq ?_
  refine VRun.region ?_
  refine VRunO.free VWant.always (OF.fieldAddrO (VEv.tmp (t := (T.op 0 0)) rfl) fa182_1) ?_
  refine VRunO.look VWant.always (OL.loadO1 (t := (T.str a.Word)) (VEv.tmp (t := (T.op 0 1)) rfl) rfl rfl st9) ?_
  refine VRunO.free VWant.always (OF.fieldAddrO (VEv.tmp (t := (T.op 2 0)) rfl) fa166_1) ?_
  refine VRunO.chain VWant.always (B.storeO (us := [(T.str a.Word)]) (ws := [(T.int .i64 a.Kind), (T.str a.Word), (T.int .i64 0), (T.int .i64 0)]) (VEv.tmp (t := (T.op 2 1)) rfl) (VEv.tmp (t := (T.str a.Word)) rfl) nofun rfl rfl (Nat.le_of_ble_eq_true rfl) if9 sz9 (ball_cons rfl (ball_nil)) rfl) ?_
  refine VRunO.nil ?_
  refine vthn.n ?_
  refine VRun.seq ?_
  refine VRun.region ?_
  refine VRunO.free VWant.always (OF.fieldAddrO (VEv.tmp (t := (T.op 0 0)) rfl) fa182_2) ?_
  refine VRunO.look VWant.always (OL.loadO1 (t := (T.int .i64 a.A)) (VEv.tmp (t := (T.op 0 2)) rfl) rfl rfl st3) ?_
  refine VRunO.free VWant.always (OF.fieldAddrO (VEv.tmp (t := (T.op 2 0)) rfl) fa166_2) ?_
  refine VRunO.chain VWant.always (B.storeO (us := [(T.int .i64 a.A)]) (ws := [(T.int .i64 a.Kind), (T.str a.Word), (T.int .i64 a.A), (T.int .i64 0)]) (VEv.tmp (t := (T.op 2 2)) rfl) (VEv.tmp (t := (T.int .i64 a.A)) rfl) nofun rfl rfl (Nat.le_of_ble_eq_true rfl) if3 sz3 (ball_cons rfl (ball_nil)) rfl) ?_
  refine VRunO.nil ?_
  refine vthn.n ?_
  refine VRun.seq ?_
  refine VRun.region ?_
  refine VRunO.free VWant.always (OF.fieldAddrO (VEv.tmp (t := (T.op 0 0)) rfl) fa182_3) ?_
  refine VRunO.look VWant.always (OL.loadO1 (t := (T.int .i64 a.B)) (VEv.tmp (t := (T.op 0 3)) rfl) rfl rfl st3) ?_
  refine VRunO.free VWant.always (OF.fieldAddrO (VEv.tmp (t := (T.op 2 0)) rfl) fa166_3) ?_
  refine VRunO.chain VWant.always (B.storeO (us := [(T.int .i64 a.B)]) (ws := [(T.int .i64 a.Kind), (T.str a.Word), (T.int .i64 a.A), (T.int .i64 a.B)]) (VEv.tmp (t := (T.op 2 3)) rfl) (VEv.tmp (t := (T.int .i64 a.B)) rfl) nofun rfl rfl (Nat.le_of_ble_eq_true rfl) if3 sz3 (ball_cons rfl (ball_nil)) rfl) ?_
  refine VRunO.nil ?_
  refine vthn.n ?_
  refine VRun.seq ?_
  refine VRun.region ?_
  refine VRunO.look VWant.always (OL.loadOn (us := (eStep false a)) (VEv.tmp (t := (T.op 2 0)) rfl) rfl st166 sz166 (Nat.le_of_ble_eq_true rfl) rfl) ?_
  refine VRunO.chain VWant.always (B.storeO (us := [(T.int .i64 a.Kind), (T.str a.Word), (T.int .i64 a.A), (T.int .i64 a.B)]) (ws := [(T.int .i64 a.Kind), (T.str a.Word), (T.int .i64 a.A), (T.int .i64 a.B)]) (VEv.tmp (t := (T.op 1 0)) rfl) (VEv.tmp (t := (T.agg (eStep false a))) rfl) nofun rfl rfl (Nat.le_of_ble_eq_true rfl) if166 sz166 (ball_cons rfl (ball_cons rfl (ball_cons rfl (ball_cons rfl (ball_nil))))) rfl) ?_
  refine VRunO.nil ?_
  refine vthn.n ?_
  refine VRun.ret ?_
  refine vfin.eq (r' := (T.agg (eStep false a))) ?_ (vfin.r (VRes.celln (ws := (eStep false a)) rfl rfl st166 sz166 (Nat.le_of_ble_eq_true rfl) rfl VRes.nil) (Give.agg (GiveL.cons (Give.int _ _) (GiveL.cons (Give.str _) (GiveL.cons (Give.int _ _) (GiveL.cons (Give.int _ _) GiveL.nil (by decide)) (by decide)) (by decide)) (by decide))))
  show (T.agg (eStep false a)) = (T.agg (eStep true a))
  first | rfl | (exact decN (by omega)) | (symm; rw [decide_eq_false_iff_not]; omega) | (symm; rw [decide_eq_true_eq]; omega) | (simp_all; done)
theorem W_laws_toStepS (n : Nat) (a : List D.Step) (ha : a.length ≤ mx) : Pure (acall Try.prog (n + 2)) 150 [(T.sl false 4 (a.map (eStep false)))] (T.sl true 4 (a.map (eStep true))) := by
  refine Pure.intro (rs := [ResultVar.tmp 2]) Try.func150 rfl rfl rfl (E0 := [(0, (T.sl false 4 (a.map (eStep false))))]) rfl ?_
  have hlim : lim = 1099511627776 := rfl
  have hmx : mx = 1048576 := rfl
  have hmax : maxLen = 9223372036854775807 := rfl
  refine VRun.seq ?_
  refine VRun.region ?_
  refine VRunO.free VWant.always (OF.assign VEv.nils) ?_
  refine VRunO.nil ?_
  refine vthn.n ?_
  refine VRun.seq ?_
  refine VRun.region ?_
  refine VRunO.free VWant.always (OF.move (VEv.tmp (t := (T.sl false 4 (a.map (eStep false)))) rfl)) ?_
  refine VRunO.look VWant.always (B.lenR (m := a.length) (VEv.tmp (t := (T.sl false 4 (a.map (eStep false)))) rfl) Try.underlying105 (List.length_map ..)) ?_
  refine VRunO.make VWant.always (B.makeZ (n := a.length) (m := ((List.replicate a.length (D.Step.mk 0 ByteArray.empty 0 0)).map (eStep true)).length) (rows := ((List.replicate a.length (D.Step.mk 0 ByteArray.empty 0 0)).map (eStep true))) (zr := (eStep true (D.Step.mk 0 ByteArray.empty 0 0))) (VEv.tmp (t := (T.int .i64 ((a.length : Nat) : Int))) rfl) (VEv.tmp (t := (T.int .i64 ((a.length : Nat) : Int))) rfl) rfl Try.underlying113 zo166 zc166 rfl (by rw [sz166]; decide) (by first | omega | (simp only [List.length_map]; omega) | (simp only [List.length_map, List.length_append, List.length_cons, List.length_nil, List.length_replicate, List.length_set, List.length_drop, List.length_take, lim] at *; omega)) (of_decide_eq_true (by kernel_rfl)) (Z0.int (Z0.str (Z0.int (Z0.int Z0.nil)))) sz166 (List.map_replicate ..).symm (by rw [List.length_map, List.length_replicate])) ?_
  refine VRunO.free VWant.always (OF.assign (VEv.tmp (t := (T.os 4 0 0 (((List.replicate a.length (D.Step.mk 0 ByteArray.empty 0 0)).map (eStep true)).length))) rfl)) ?_
  refine VRunO.nil ?_
  refine vthn.n ?_
  refine VRun.seq ?_
  refine VRun.seq ?_
  refine VRun.region ?_
  refine VRunO.free VWant.always (OF.assign (VEv.int .i64 0)) ?_
  refine VRunO.nil ?_
  refine vthn.n ?_
  refine VRun.block ?_
  have he1 : (List.replicate a.length (D.Step.mk 0 ByteArray.empty 0 0)) = (a.take 0 ++ List.replicate (a.length - 0) (D.Step.mk 0 ByteArray.empty 0 0)) := by first | rfl | (exact fill_next hx1) | (simp; done) | omega
  refine VRun.loop (A := Nat) (fun s_ => [(0, (T.sl false 4 (a.map (eStep false)))), (2, T.nils), (3, (T.os 4 0 0 (((a.take s_ ++ List.replicate (a.length - s_) (D.Step.mk 0 ByteArray.empty 0 0)).map (eStep true)).length))), (4, (T.int .i64 ((s_ : Nat) : Int)))]) (fun s_ => mkO [(0, (Obj.rows 4 ((a.take s_ ++ List.replicate (a.length - s_) (D.Step.mk 0 ByteArray.empty 0 0)).map (eStep true))))]) 1 (fun s_ => s_ ≤ a.length) (fun s_ => a.length - s_) (0 : Nat) ?_ (Wk.mk (fun k => k) ?_ ?_ ?_) ?_
  · first | trivial | (simp; done) | omega | (constructor <;> simp)
  · exact (ball_cons ⟨rfl, rfl⟩ (ball_cons ⟨rfl, rfl⟩ (ball_cons ⟨(congrArg (fun l_ => T.os 4 0 0 (List.map (eStep true) l_).length) he1), rfl⟩ (ball_cons ⟨(congrArg (T.int .i64) (show 0 = ((0 : Nat) : Int) from (by first | rfl | omega | (simp; done) | (push_cast; omega)))), rfl⟩ (ball_nil)))))
  · exact (ball_cons ⟨(congrArg (fun l_ => some (Obj.rows 4 (List.map (eStep true) l_))) he1), (Nat.le_of_ble_eq_true rfl), rfl⟩ (ball_nil))
  · show List.Nodup ([0] : List Nat)
    decide
  · rintro i hI
    have hI' : i ≤ a.length := hI
    clear hI
    show VRun _ _ _ [(0, (T.sl false 4 (a.map (eStep false)))), (2, T.nils), (3, (T.os 4 0 0 (((a.take i ++ List.replicate (a.length - i) (D.Step.mk 0 ByteArray.empty 0 0)).map (eStep true)).length))), (4, (T.int .i64 ((i : Nat) : Int)))] (mkO [(0, (Obj.rows 4 ((a.take i ++ List.replicate (a.length - i) (D.Step.mk 0 ByteArray.empty 0 0)).map (eStep true))))]) 1 _
    have hfl := fill_at (w := (D.Step.mk 0 ByteArray.empty 0 0)) hI'
    refine VRun.seq ?_
    refine VRun.seq ?_
    refine VRun.region ?_
    refine VRunO.free VWant.always (OF.move (VEv.tmp (t := (T.int .i64 ((i : Nat) : Int))) rfl)) ?_
    refine VRunO.free VWant.always (OF.move (VEv.tmp (t := (T.sl false 4 (a.map (eStep false)))) rfl)) ?_
    refine VRunO.look VWant.always (B.lenR (m := a.length) (VEv.tmp (t := (T.sl false 4 (a.map (eStep false)))) rfl) Try.underlying105 (List.length_map ..)) ?_
    refine VRunO.free VWant.always (B.lss (c := (decide (i < a.length))) (VEv.tmp (t := (T.int .i64 ((i : Nat) : Int))) rfl) (VEv.tmp (t := (T.int .i64 ((a.length : Nat) : Int))) rfl) (by first | (exact decN (by omega)))) ?_
    refine VRunO.nil ?_
    refine vthn.n ?_
    refine VRun.cond (VEv.tmp (t := (T.bool (decide (i < a.length)))) rfl) (fun hc0 => ?_) (fun hc0 => ?_)
    · have fhc0 : i < a.length := of_decide_eq_true hc0
      refine VRun.skip ?_
      refine vthn.n ?_
      refine VRun.seq ?_
      refine VRun.block ?_
      refine VRun.region ?_
      refine VRunO.free VWant.always (OF.move (VEv.tmp (t := (T.os 4 0 0 (((a.take i ++ List.replicate (a.length - i) (D.Step.mk 0 ByteArray.empty 0 0)).map (eStep true)).length))) rfl)) ?_
      refine VRunO.free VWant.always (OF.move (VEv.tmp (t := (T.int .i64 ((i : Nat) : Int))) rfl)) ?_
      refine VRunO.free VWant.always (OF.move (VEv.tmp (t := (T.sl false 4 (a.map (eStep false)))) rfl)) ?_
      refine VRunO.free VWant.always (OF.move (VEv.tmp (t := (T.int .i64 ((i : Nat) : Int))) rfl)) ?_
      obtain ⟨x1, hx1⟩ : ∃ x, a[i]? = some x := ⟨_, List.getElem?_eq_getElem (by first | omega | (simp only [List.length_map]; omega) | (simp only [List.length_map, List.length_append, List.length_cons, List.length_nil, List.length_replicate, List.length_set, List.length_drop, List.length_take, lim] at *; omega))⟩
      refine VRunO.free VWant.always (OF.indexAddrR (row := (eStep false x1)) (i := i) (VEv.tmp (t := (T.sl false 4 (a.map (eStep false)))) rfl) (VEv.tmp (t := (T.int .i64 ((i : Nat) : Int))) rfl) rfl (map_at _ hx1) Try.underlying105 sz182 if182) ?_
      refine VRunO.look VWant.always (OL.loadRn (us := (eStep false x1)) (VEv.tmp (t := (T.rp [(T.int .i64 x1.Kind), (T.str x1.Word), (T.int .i64 x1.A), (T.int .i64 x1.B)])) rfl) st182 sz182 (Nat.le_of_ble_eq_true rfl) rfl) ?_
      refine VRunO.chain VWant.always (OC.callF (us := [(T.agg (eStep false x1))]) (r := (T.agg (eStep true x1))) (r' := (T.agg (eStep true x1))) (objs := []) rfl (VEvs.cons (VEv.tmp (t := (T.agg (eStep false x1))) rfl) VEvs.nil) (LendL.cons (Lend.agg (LendL.cons (Lend.pl rfl) (LendL.cons (Lend.pl rfl) (LendL.cons (Lend.pl rfl) (LendL.cons (Lend.pl rfl) (LendL.nil)))))) (LendL.nil)) (W_laws_toStep (n + 0) x1 ) rfl) ?_
      obtain ⟨x2, hx2⟩ : ∃ x, (a.take i ++ List.replicate (a.length - i) (D.Step.mk 0 ByteArray.empty 0 0))[i]? = some x := ⟨_, List.getElem?_eq_getElem (by first | omega | (simp only [List.length_map]; omega) | (simp only [List.length_map, List.length_append, List.length_cons, List.length_nil, List.length_replicate, List.length_set, List.length_drop, List.length_take, lim] at *; omega))⟩
      refine VRunO.free VWant.always (B.indexAddrO (i := i) (VEv.tmp (t := (T.os 4 0 0 (((a.take i ++ List.replicate (a.length - i) (D.Step.mk 0 ByteArray.empty 0 0)).map (eStep true)).length))) rfl) (VEv.tmp (t := (T.int .i64 ((i : Nat) : Int))) rfl) rfl (by first | omega | (simp only [List.length_map]; omega) | (simp only [List.length_map, List.length_append, List.length_cons, List.length_nil, List.length_replicate, List.length_set, List.length_drop, List.length_take, lim] at *; omega)) Try.underlying113 sz166 if166) ?_
      refine VRunO.chain VWant.always (B.storeP (us := [(T.int .i64 x1.Kind), (T.str x1.Word), (T.int .i64 x1.A), (T.int .i64 x1.B)]) (rows' := (((a.take i ++ List.replicate (a.length - i) (D.Step.mk 0 ByteArray.empty 0 0)).set i x1).map (eStep true))) (row := (eStep true x2)) (VEv.tmp (t := (T.orp 4 0 i 0)) rfl) (VEv.tmp (t := (T.agg (eStep true x1))) rfl) nofun rfl (map_at _ hx2) rfl (Nat.le_of_ble_eq_true rfl) if166 sz166 (ball_cons rfl (ball_cons rfl (ball_cons rfl (ball_cons rfl (ball_nil))))) (by intro r hr t ht; obtain ⟨x, _, rfl⟩ := List.mem_map.1 hr; rw [flStep] at ht; exact isPl_flat (okeStep.pl _ t ht)) (set_mapE rfl)) ?_
      refine VRunO.nil ?_
      refine vinB.n ?_
      refine vthn.n ?_
      refine VRun.region ?_
      refine VRunO.free VWant.always (OF.move (VEv.tmp (t := (T.int .i64 ((i : Nat) : Int))) rfl)) ?_
      refine VRunO.free VWant.always (B.add (n := (((i + 1) : Nat) : Int)) (VEv.tmp (t := (T.int .i64 ((i : Nat) : Int))) rfl) (VEv.int .i64 1) (by first | rfl | (rw [wrap64 (by omega)]; done) | (rw [wrap64 (by omega)]; omega) | (rw [wrap64 (by omega)]; push_cast; omega) | omega)) ?_
      refine VRunO.free VWant.always (OF.assign (VEv.tmp (t := (T.int .i64 (((i + 1) : Nat) : Int))) rfl)) ?_
      refine VRunO.nil ?_
      refine vthn.n ?_
      have he2 : ((a.take i ++ List.replicate (a.length - i) (D.Step.mk 0 ByteArray.empty 0 0)).set i x1) = (a.take (i + 1) ++ List.replicate (a.length - (i + 1)) (D.Step.mk 0 ByteArray.empty 0 0)) := by first | rfl | (exact fill_next hx1) | (simp; done) | omega
      refine ⟨(i + 1 : Nat), ?_, ?_, Wk.mk (fun k => k) ?_ ?_ ?_⟩
      · first | trivial | omega | (simp; done) | exact ⟨by omega, hI'.2⟩
      · first | omega | (simp only []; omega) | (show _ < _; omega) | (simp; omega)
      · exact (ball_cons ⟨rfl, rfl⟩ (ball_cons ⟨rfl, rfl⟩ (ball_cons ⟨(congrArg (fun n_ => T.os 4 0 0 n_) (show ((a.take i ++ List.replicate (a.length - i) (D.Step.mk 0 ByteArray.empty 0 0)).map (eStep true)).length = ((a.take (i + 1) ++ List.replicate (a.length - (i + 1)) (D.Step.mk 0 ByteArray.empty 0 0)).map (eStep true)).length from (by first | rfl | (simp only [List.length_map]; omega) | (simp only [List.length_map, List.length_set, List.length_append, List.length_take, List.length_replicate, List.length_cons, List.length_nil]; omega)))), rfl⟩ (ball_cons ⟨rfl, rfl⟩ (ball_nil)))))
      · exact (ball_cons ⟨(congrArg (fun l_ => some (Obj.rows 4 (List.map (eStep true) l_))) he2), (Nat.le_of_ble_eq_true rfl), rfl⟩ (ball_nil))
      · show List.Nodup ([0] : List Nat)
        decide
    · have fhc0 : ¬ (i < a.length) := of_decide_eq_false hc0
      refine VRun.exit ?_
      refine vthn.e ?_
      refine vthn.e ?_
      refine vinB.e ?_
      refine vthn.n ?_
      refine VRun.seq ?_
      refine VRun.region ?_
      refine VRunO.free VWant.always (OF.move (VEv.tmp (t := (T.os 4 0 0 (((a.take i ++ List.replicate (a.length - i) (D.Step.mk 0 ByteArray.empty 0 0)).map (eStep true)).length))) rfl)) ?_
      refine VRunO.free VWant.always (OF.assign (VEv.tmp (t := (T.os 4 0 0 (((a.take i ++ List.replicate (a.length - i) (D.Step.mk 0 ByteArray.empty 0 0)).map (eStep true)).length))) rfl)) ?_
      refine VRunO.nil ?_
      refine vthn.n ?_
      refine VRun.ret ?_
      refine vfin.eq (r' := (T.sl true 4 ((a.take i ++ List.replicate (a.length - i) (D.Step.mk 0 ByteArray.empty 0 0)).map (eStep true)))) ?_ (vfin.r (VRes.tmp (t := (T.os 4 0 0 (((a.take i ++ List.replicate (a.length - i) (D.Step.mk 0 ByteArray.empty 0 0)).map (eStep true)).length))) rfl VRes.nil) (Give.os rfl rfl (okeStep.cleanMap _)))
      show (T.sl true 4 ((a.take i ++ List.replicate (a.length - i) (D.Step.mk 0 ByteArray.empty 0 0)).map (eStep true))) = (T.sl true 4 (a.map (eStep true)))
      refine congrArg (fun l_ => T.sl true 4 (List.map (eStep true) l_)) ?_
      exact fill_done fhc0
theorem W_laws_toClue (n : Nat) (a : D.Clue) (ha : zClue a ≤ mx) : Pure (acall Try.prog (n + 3)) 122 [(T.agg (eClue false a))] (T.agg (eClue true a)) := by
  refine Pure.intro (rs := [ResultVar.cell 2 115]) Try.func122 rfl rfl rfl (E0 := [(0, (T.agg (eClue false a)))]) rfl ?_
  have hlim : lim = 1099511627776 := rfl
  have hmx : mx = 1048576 := rfl
  have hmax : maxLen = 9223372036854775807 := rfl
  simp only [zClue] at ha
  have hla_Play := zL_len (z := zStep) a.Play
  refine VRun.seq ?_
  refine VRun.region ?_
  refine VRunO.make VWant.always (B.box (ts := [(T.int .i64 a.Sense), (T.sl false 4 (a.Play.map (eStep false)))]) (VEv.tmp (t := (T.agg (eClue false a))) rfl) nofun rfl) ?_
  refine VRunO.make VWant.always (B.alloc (t := (T.agg [(T.int .i64 0), T.nils])) (ts := [(T.int .i64 0), T.nils]) zo115 zc115 nofun (fun _ => .agg _ _ rfl (RLof (RL.cons (.int _ _) (RL.cons (.nils) (RL.nil _))))) rfl) ?_
  refine VRunO.nil ?_
  refine vthn.n ?_
  refine VRun.seq ?_
  refine VRun.region ?_
  refine VRunO.make VWant.always (B.alloc (t := (T.agg [(T.int .i64 0), T.nils])) (ts := [(T.int .i64 0), T.nils]) zo115 zc115 nofun (fun _ => .agg _ _ rfl (RLof (RL.cons (.int _ _) (RL.cons (.nils) (RL.nil _))))) rfl) ?_
  refine VRunO.nil ?_
  refine vthn.n ?_
  refine VRun.seq ?_
  refine VRun.region ?_
  refine VRunO.free VWant.always (OF.fieldAddrO (VEv.tmp (t := (T.op 0 0)) rfl) fa107_0) ?_
  refine VRunO.look VWant.always (OL.loadO1 (t := (T.int .i64 a.Sense)) (VEv.tmp (t := (T.op 0 0)) rfl) rfl rfl st3) ?_
  refine VRunO.free VWant.always (OF.fieldAddrO (VEv.tmp (t := (T.op 2 0)) rfl) fa115_0) ?_
  refine VRunO.chain VWant.always (B.storeO (us := [(T.int .i64 a.Sense)]) (ws := [(T.int .i64 a.Sense), T.nils]) (VEv.tmp (t := (T.op 2 0)) rfl) (VEv.tmp (t := (T.int .i64 a.Sense)) rfl) nofun rfl rfl (Nat.le_of_ble_eq_true rfl) if3 sz3 (ball_cons rfl (ball_nil)) rfl) ?_
  refine VRunO.nil ?_
  refine vthn.n ?_
  refine VRun.seq ?_
  refine VRun.region ?_
  refine VRunO.free VWant.always (OF.fieldAddrO (VEv.tmp (t := (T.op 0 0)) rfl) fa107_1) ?_
  refine VRunO.look VWant.always (OL.loadO1 (t := (T.sl false 4 (a.Play.map (eStep false)))) (VEv.tmp (t := (T.op 0 1)) rfl) rfl rfl st105) ?_
  refine VRunO.chain VWant.always (OC.callF (us := [(T.sl false 4 (a.Play.map (eStep false)))]) (r := (T.sl true 4 (a.Play.map (eStep true)))) (r' := (T.os 4 3 0 ((a.Play.map (eStep true)).length))) (objs := [(Obj.rows 4 (a.Play.map (eStep true)))]) rfl (VEvs.cons (VEv.tmp (t := (T.sl false 4 (a.Play.map (eStep false)))) rfl) VEvs.nil) (LendL.cons (Lend.pl rfl) (LendL.nil)) (W_laws_toStepS (n + 0) a.Play (by first | assumption | omega | (simp only [List.length_map]; omega) | (simp only [List.length_map, List.length_append, List.length_cons, List.length_nil, List.length_replicate, List.length_set, List.length_drop, List.length_take, lim] at *; omega))) rfl) ?_
  refine VRunO.free VWant.always (OF.fieldAddrO (VEv.tmp (t := (T.op 2 0)) rfl) fa115_1) ?_
  refine VRunO.chain VWant.always (B.storeO (us := [(T.os 4 3 0 ((a.Play.map (eStep true)).length))]) (ws := [(T.int .i64 a.Sense), (T.os 4 3 0 ((a.Play.map (eStep true)).length))]) (VEv.tmp (t := (T.op 2 1)) rfl) (VEv.tmp (t := (T.os 4 3 0 ((a.Play.map (eStep true)).length))) rfl) nofun rfl rfl (Nat.le_of_ble_eq_true rfl) if113 sz113 (ball_cons rfl (ball_nil)) rfl) ?_
  refine VRunO.nil ?_
  refine vthn.n ?_
  refine VRun.seq ?_
  refine VRun.region ?_
  refine VRunO.look VWant.always (OL.loadOn (us := [(T.int .i64 a.Sense), (T.os 4 3 0 ((a.Play.map (eStep true)).length))]) (VEv.tmp (t := (T.op 2 0)) rfl) rfl st115 sz115 (Nat.le_of_ble_eq_true rfl) rfl) ?_
  refine VRunO.chain VWant.always (B.storeO (us := [(T.int .i64 a.Sense), (T.os 4 3 0 ((a.Play.map (eStep true)).length))]) (ws := [(T.int .i64 a.Sense), (T.os 4 3 0 ((a.Play.map (eStep true)).length))]) (VEv.tmp (t := (T.op 1 0)) rfl) (VEv.tmp (t := (T.agg [(T.int .i64 a.Sense), (T.os 4 3 0 ((a.Play.map (eStep true)).length))])) rfl) nofun rfl rfl (Nat.le_of_ble_eq_true rfl) if115 sz115 (ball_cons rfl (ball_cons rfl (ball_nil))) rfl) ?_
  refine VRunO.nil ?_
  refine vthn.n ?_
  refine VRun.ret ?_
  refine vfin.eq (r' := (T.agg [(T.int .i64 a.Sense), (T.sl true 4 (a.Play.map (eStep true)))])) ?_ (vfin.r (VRes.celln (ws := [(T.int .i64 a.Sense), (T.os 4 3 0 ((a.Play.map (eStep true)).length))]) rfl rfl st115 sz115 (Nat.le_of_ble_eq_true rfl) rfl VRes.nil) (Give.agg (GiveL.cons (Give.int _ _) (GiveL.cons (Give.os rfl rfl (okeStep.cleanMap _)) GiveL.nil (by decide)) (by decide))))
  show (T.agg [(T.int .i64 a.Sense), (T.sl true 4 (a.Play.map (eStep true)))]) = (T.agg (eClue true a))
  first | rfl | (exact decN (by omega)) | (symm; rw [decide_eq_false_iff_not]; omega) | (symm; rw [decide_eq_true_eq]; omega) | (simp_all; done)
theorem W_laws_toClueS (n : Nat) (a : List D.Clue) (ha : zL zClue a ≤ mx) : Pure (acall Try.prog (n + 4)) 99 [(T.sl false 2 (a.map (eClue false)))] (T.sl true 2 (a.map (eClue true))) := by
  refine Pure.intro (rs := [ResultVar.tmp 2]) Try.func99 rfl rfl rfl (E0 := [(0, (T.sl false 2 (a.map (eClue false))))]) rfl ?_
  have hlim : lim = 1099511627776 := rfl
  have hmx : mx = 1048576 := rfl
  have hmax : maxLen = 9223372036854775807 := rfl
  have hla := zL_len (z := zClue) a
  refine VRun.seq ?_
  refine VRun.region ?_
  refine VRunO.free VWant.always (OF.assign VEv.nils) ?_
  refine VRunO.nil ?_
  refine vthn.n ?_
  refine VRun.seq ?_
  refine VRun.region ?_
  refine VRunO.free VWant.always (OF.move (VEv.tmp (t := (T.sl false 2 (a.map (eClue false)))) rfl)) ?_
  refine VRunO.look VWant.always (B.lenR (m := a.length) (VEv.tmp (t := (T.sl false 2 (a.map (eClue false)))) rfl) Try.underlying54 (List.length_map ..)) ?_
  refine VRunO.make VWant.always (B.makeZ (n := a.length) (m := ((List.replicate a.length (D.Clue.mk 0 [])).map (eClue true)).length) (rows := ((List.replicate a.length (D.Clue.mk 0 [])).map (eClue true))) (zr := (eClue true (D.Clue.mk 0 []))) (VEv.tmp (t := (T.int .i64 ((a.length : Nat) : Int))) rfl) (VEv.tmp (t := (T.int .i64 ((a.length : Nat) : Int))) rfl) rfl Try.underlying60 zo115 zc115 rfl (by rw [sz115]; decide) (by first | exact Nat.le_trans (zL_at hx1) ha | omega | (simp only [List.length_map]; omega) | (simp only [List.length_map, List.length_append, List.length_cons, List.length_nil, List.length_replicate, List.length_set, List.length_drop, List.length_take, lim] at *; omega)) (of_decide_eq_true (by kernel_rfl)) (Z0.int (Z0.sl Z0.nil)) sz115 (List.map_replicate ..).symm (by rw [List.length_map, List.length_replicate])) ?_
  refine VRunO.free VWant.always (OF.assign (VEv.tmp (t := (T.os 2 0 0 (((List.replicate a.length (D.Clue.mk 0 [])).map (eClue true)).length))) rfl)) ?_
  refine VRunO.nil ?_
  refine vthn.n ?_
  refine VRun.seq ?_
  refine VRun.seq ?_
  refine VRun.region ?_
  refine VRunO.free VWant.always (OF.assign (VEv.int .i64 0)) ?_
  refine VRunO.nil ?_
  refine vthn.n ?_
  refine VRun.block ?_
  have he1 : (List.replicate a.length (D.Clue.mk 0 [])) = (a.take 0 ++ List.replicate (a.length - 0) (D.Clue.mk 0 [])) := by first | rfl | (exact fill_next hx1) | (simp; done) | omega
  refine VRun.loop (A := Nat) (fun s_ => [(0, (T.sl false 2 (a.map (eClue false)))), (2, T.nils), (3, (T.os 2 0 0 (((a.take s_ ++ List.replicate (a.length - s_) (D.Clue.mk 0 [])).map (eClue true)).length))), (4, (T.int .i64 ((s_ : Nat) : Int)))]) (fun s_ => mkO [(0, (Obj.rows 2 ((a.take s_ ++ List.replicate (a.length - s_) (D.Clue.mk 0 [])).map (eClue true))))]) 1 (fun s_ => s_ ≤ a.length) (fun s_ => a.length - s_) (0 : Nat) ?_ (Wk.mk (fun k => k) ?_ ?_ ?_) ?_
  · first | trivial | (simp; done) | omega | (constructor <;> simp)
  · exact (ball_cons ⟨rfl, rfl⟩ (ball_cons ⟨rfl, rfl⟩ (ball_cons ⟨(congrArg (fun l_ => T.os 2 0 0 (List.map (eClue true) l_).length) he1), rfl⟩ (ball_cons ⟨(congrArg (T.int .i64) (show 0 = ((0 : Nat) : Int) from (by first | rfl | omega | (simp; done) | (push_cast; omega)))), rfl⟩ (ball_nil)))))
  · exact (ball_cons ⟨(congrArg (fun l_ => some (Obj.rows 2 (List.map (eClue true) l_))) he1), (Nat.le_of_ble_eq_true rfl), rfl⟩ (ball_nil))
  · show List.Nodup ([0] : List Nat)
    decide
  · rintro i hI
    have hI' : i ≤ a.length := hI
    clear hI
    show VRun _ _ _ [(0, (T.sl false 2 (a.map (eClue false)))), (2, T.nils), (3, (T.os 2 0 0 (((a.take i ++ List.replicate (a.length - i) (D.Clue.mk 0 [])).map (eClue true)).length))), (4, (T.int .i64 ((i : Nat) : Int)))] (mkO [(0, (Obj.rows 2 ((a.take i ++ List.replicate (a.length - i) (D.Clue.mk 0 [])).map (eClue true))))]) 1 _
    have hfl := fill_at (w := (D.Clue.mk 0 [])) hI'
    refine VRun.seq ?_
    refine VRun.seq ?_
    refine VRun.region ?_
    refine VRunO.free VWant.always (OF.move (VEv.tmp (t := (T.int .i64 ((i : Nat) : Int))) rfl)) ?_
    refine VRunO.free VWant.always (OF.move (VEv.tmp (t := (T.sl false 2 (a.map (eClue false)))) rfl)) ?_
    refine VRunO.look VWant.always (B.lenR (m := a.length) (VEv.tmp (t := (T.sl false 2 (a.map (eClue false)))) rfl) Try.underlying54 (List.length_map ..)) ?_
    refine VRunO.free VWant.always (B.lss (c := (decide (i < a.length))) (VEv.tmp (t := (T.int .i64 ((i : Nat) : Int))) rfl) (VEv.tmp (t := (T.int .i64 ((a.length : Nat) : Int))) rfl) (by first | exact Nat.le_trans (zL_at hx1) ha | (exact decN (by omega)))) ?_
    refine VRunO.nil ?_
    refine vthn.n ?_
    refine VRun.cond (VEv.tmp (t := (T.bool (decide (i < a.length)))) rfl) (fun hc0 => ?_) (fun hc0 => ?_)
    · have fhc0 : i < a.length := of_decide_eq_true hc0
      refine VRun.skip ?_
      refine vthn.n ?_
      refine VRun.seq ?_
      refine VRun.block ?_
      refine VRun.region ?_
      refine VRunO.free VWant.always (OF.move (VEv.tmp (t := (T.os 2 0 0 (((a.take i ++ List.replicate (a.length - i) (D.Clue.mk 0 [])).map (eClue true)).length))) rfl)) ?_
      refine VRunO.free VWant.always (OF.move (VEv.tmp (t := (T.int .i64 ((i : Nat) : Int))) rfl)) ?_
      refine VRunO.free VWant.always (OF.move (VEv.tmp (t := (T.sl false 2 (a.map (eClue false)))) rfl)) ?_
      refine VRunO.free VWant.always (OF.move (VEv.tmp (t := (T.int .i64 ((i : Nat) : Int))) rfl)) ?_
      obtain ⟨x1, hx1⟩ : ∃ x, a[i]? = some x := ⟨_, List.getElem?_eq_getElem (by first | exact Nat.le_trans (zL_at hx1) ha | omega | (simp only [List.length_map]; omega) | (simp only [List.length_map, List.length_append, List.length_cons, List.length_nil, List.length_replicate, List.length_set, List.length_drop, List.length_take, lim] at *; omega))⟩
      refine VRunO.free VWant.always (OF.indexAddrR (row := (eClue false x1)) (i := i) (VEv.tmp (t := (T.sl false 2 (a.map (eClue false)))) rfl) (VEv.tmp (t := (T.int .i64 ((i : Nat) : Int))) rfl) rfl (map_at _ hx1) Try.underlying54 sz107 if107) ?_
      refine VRunO.look VWant.always (OL.loadRn (us := (eClue false x1)) (VEv.tmp (t := (T.rp [(T.int .i64 x1.Sense), (T.sl false 4 (x1.Play.map (eStep false)))])) rfl) st107 sz107 (Nat.le_of_ble_eq_true rfl) rfl) ?_
      refine VRunO.chain VWant.always (OC.callF (us := [(T.agg (eClue false x1))]) (r := (T.agg (eClue true x1))) (r' := (T.agg [(T.int .i64 x1.Sense), (T.os 4 1 0 ((x1.Play.map (eStep true)).length))])) (objs := [(Obj.rows 4 (x1.Play.map (eStep true)))]) rfl (VEvs.cons (VEv.tmp (t := (T.agg (eClue false x1))) rfl) VEvs.nil) (LendL.cons (Lend.agg (LendL.cons (Lend.pl rfl) (LendL.cons (Lend.pl rfl) (LendL.nil)))) (LendL.nil)) (W_laws_toClue (n + 0) x1 (by first | exact Nat.le_trans (zL_at hx1) ha | assumption | omega | (simp only [List.length_map]; omega) | (simp only [List.length_map, List.length_append, List.length_cons, List.length_nil, List.length_replicate, List.length_set, List.length_drop, List.length_take, lim] at *; omega))) rfl) ?_
      obtain ⟨x2, hx2⟩ : ∃ x, (a.take i ++ List.replicate (a.length - i) (D.Clue.mk 0 []))[i]? = some x := ⟨_, List.getElem?_eq_getElem (by first | exact Nat.le_trans (zL_at hx1) ha | omega | (simp only [List.length_map]; omega) | (simp only [List.length_map, List.length_append, List.length_cons, List.length_nil, List.length_replicate, List.length_set, List.length_drop, List.length_take, lim] at *; omega))⟩
      refine VRunO.free VWant.always (B.indexAddrO (i := i) (VEv.tmp (t := (T.os 2 0 0 (((a.take i ++ List.replicate (a.length - i) (D.Clue.mk 0 [])).map (eClue true)).length))) rfl) (VEv.tmp (t := (T.int .i64 ((i : Nat) : Int))) rfl) rfl (by first | exact Nat.le_trans (zL_at hx1) ha | omega | (simp only [List.length_map]; omega) | (simp only [List.length_map, List.length_append, List.length_cons, List.length_nil, List.length_replicate, List.length_set, List.length_drop, List.length_take, lim] at *; omega)) Try.underlying60 sz115 if115) ?_
      refine VRunO.chain VWant.always (B.storeB (us := [(T.int .i64 x1.Sense), (T.os 4 1 0 ((x1.Play.map (eStep true)).length))]) (ws := [(T.int .i64 x1.Sense), (T.sl true 4 (x1.Play.map (eStep true)))]) (rows' := (((a.take i ++ List.replicate (a.length - i) (D.Clue.mk 0 [])).set i x1).map (eClue true))) (row := (eClue true x2)) (VEv.tmp (t := (T.orp 2 0 i 0)) rfl) (VEv.tmp (t := (T.agg [(T.int .i64 x1.Sense), (T.os 4 1 0 ((x1.Play.map (eStep true)).length))])) rfl) nofun rfl (map_at _ hx2) rfl (Nat.le_of_ble_eq_true rfl) if115 sz115 (ball_cons rfl (ball_cons rfl (ball_nil))) (Bury.pl rfl (Bury.os rfl rfl Bury.nil (by decide))) rfl (by decide) (set_mapE rfl)) ?_
      refine VRunO.nil ?_
      refine vinB.n ?_
      refine vthn.n ?_
      refine VRun.region ?_
      refine VRunO.free VWant.always (OF.move (VEv.tmp (t := (T.int .i64 ((i : Nat) : Int))) rfl)) ?_
      refine VRunO.free VWant.always (B.add (n := (((i + 1) : Nat) : Int)) (VEv.tmp (t := (T.int .i64 ((i : Nat) : Int))) rfl) (VEv.int .i64 1) (by first | exact Nat.le_trans (zL_at hx1) ha | rfl | (rw [wrap64 (by omega)]; done) | (rw [wrap64 (by omega)]; omega) | (rw [wrap64 (by omega)]; push_cast; omega) | omega)) ?_
      refine VRunO.free VWant.always (OF.assign (VEv.tmp (t := (T.int .i64 (((i + 1) : Nat) : Int))) rfl)) ?_
      refine VRunO.nil ?_
      refine vthn.n ?_
      have he2 : ((a.take i ++ List.replicate (a.length - i) (D.Clue.mk 0 [])).set i x1) = (a.take (i + 1) ++ List.replicate (a.length - (i + 1)) (D.Clue.mk 0 [])) := by first | rfl | (exact fill_next hx1) | (simp; done) | omega
      refine ⟨(i + 1 : Nat), ?_, ?_, Wk.mk (fun k => k) ?_ ?_ ?_⟩
      · first | trivial | omega | (simp; done) | exact ⟨by omega, hI'.2⟩
      · first | omega | (simp only []; omega) | (show _ < _; omega) | (simp; omega)
      · exact (ball_cons ⟨rfl, rfl⟩ (ball_cons ⟨rfl, rfl⟩ (ball_cons ⟨(congrArg (fun n_ => T.os 2 0 0 n_) (show ((a.take i ++ List.replicate (a.length - i) (D.Clue.mk 0 [])).map (eClue true)).length = ((a.take (i + 1) ++ List.replicate (a.length - (i + 1)) (D.Clue.mk 0 [])).map (eClue true)).length from (by first | rfl | (simp only [List.length_map]; omega) | (simp only [List.length_map, List.length_set, List.length_append, List.length_take, List.length_replicate, List.length_cons, List.length_nil]; omega)))), rfl⟩ (ball_cons ⟨rfl, rfl⟩ (ball_nil)))))
      · exact (ball_cons ⟨(congrArg (fun l_ => some (Obj.rows 2 (List.map (eClue true) l_))) he2), (Nat.le_of_ble_eq_true rfl), rfl⟩ (ball_nil))
      · show List.Nodup ([0] : List Nat)
        decide
    · have fhc0 : ¬ (i < a.length) := of_decide_eq_false hc0
      refine VRun.exit ?_
      refine vthn.e ?_
      refine vthn.e ?_
      refine vinB.e ?_
      refine vthn.n ?_
      refine VRun.seq ?_
      refine VRun.region ?_
      refine VRunO.free VWant.always (OF.move (VEv.tmp (t := (T.os 2 0 0 (((a.take i ++ List.replicate (a.length - i) (D.Clue.mk 0 [])).map (eClue true)).length))) rfl)) ?_
      refine VRunO.free VWant.always (OF.assign (VEv.tmp (t := (T.os 2 0 0 (((a.take i ++ List.replicate (a.length - i) (D.Clue.mk 0 [])).map (eClue true)).length))) rfl)) ?_
      refine VRunO.nil ?_
      refine vthn.n ?_
      refine VRun.ret ?_
      refine vfin.eq (r' := (T.sl true 2 ((a.take i ++ List.replicate (a.length - i) (D.Clue.mk 0 [])).map (eClue true)))) ?_ (vfin.r (VRes.tmp (t := (T.os 2 0 0 (((a.take i ++ List.replicate (a.length - i) (D.Clue.mk 0 [])).map (eClue true)).length))) rfl VRes.nil) (Give.os rfl rfl (okeClue.cleanMap _)))
      show (T.sl true 2 ((a.take i ++ List.replicate (a.length - i) (D.Clue.mk 0 [])).map (eClue true))) = (T.sl true 2 (a.map (eClue true)))
      refine congrArg (fun l_ => T.sl true 2 (List.map (eClue true) l_)) ?_
      exact fill_done fhc0
theorem W_laws_toPuzzle (n : Nat) (a : D.Puzzle) (ha : zPuzzle a ≤ mx) : Pure (acall Try.prog (n + 5)) 107 [(T.agg (ePuzzle false a))] (T.agg (ePuzzle true a)) := by
  refine Pure.intro (rs := [ResultVar.cell 2 80]) Try.func107 rfl rfl rfl (E0 := [(0, (T.agg (ePuzzle false a)))]) rfl ?_
  have hlim : lim = 1099511627776 := rfl
  have hmx : mx = 1048576 := rfl
  have hmax : maxLen = 9223372036854775807 := rfl
  simp only [zPuzzle] at ha
  have hla_Clues := zL_len (z := zClue) a.Clues
  have hla_Seals := zL_len (z := zI) a.Seals
  refine VRun.seq ?_
  refine VRun.region ?_
  refine VRunO.make VWant.always (B.box (ts := [(T.int .i64 a.Grid.Rows), (T.int .i64 a.Grid.Cols), (T.str a.Grid.Cells), (T.sl false 2 (a.Clues.map (eClue false))), (T.sl false 1 (a.Seals.map (eInt false))), (T.int .i64 a.Salt)]) (VEv.tmp (t := (T.agg (ePuzzle false a))) rfl) nofun rfl) ?_
  refine VRunO.make VWant.always (B.alloc (t := (T.agg [(T.int .i64 0), (T.int .i64 0), (T.str ByteArray.empty), T.nils, T.nils, (T.int .i64 0)])) (ts := [(T.int .i64 0), (T.int .i64 0), (T.str ByteArray.empty), T.nils, T.nils, (T.int .i64 0)]) zo80 zc80 nofun (fun _ => .agg _ _ rfl (RLof (RL.cons (.int _ _) (RL.cons (.int _ _) (RL.cons (.str _) (RL.cons (.nils) (RL.cons (.nils) (RL.cons (.int _ _) (RL.nil _))))))))) rfl) ?_
  refine VRunO.nil ?_
  refine vthn.n ?_
  refine VRun.seq ?_
  refine VRun.region ?_
  refine VRunO.make VWant.always (B.alloc (t := (T.agg [(T.int .i64 0), (T.int .i64 0), (T.str ByteArray.empty), T.nils, T.nils, (T.int .i64 0)])) (ts := [(T.int .i64 0), (T.int .i64 0), (T.str ByteArray.empty), T.nils, T.nils, (T.int .i64 0)]) zo80 zc80 nofun (fun _ => .agg _ _ rfl (RLof (RL.cons (.int _ _) (RL.cons (.int _ _) (RL.cons (.str _) (RL.cons (.nils) (RL.cons (.nils) (RL.cons (.int _ _) (RL.nil _))))))))) rfl) ?_
  refine VRunO.nil ?_
  refine vthn.n ?_
  refine VRun.seq ?_
  refine VRun.region ?_
  refine VRunO.free VWant.always (OF.fieldAddrO (VEv.tmp (t := (T.op 0 0)) rfl) fa74_0) ?_
  refine VRunO.look VWant.always (OL.loadOn (us := (eGrid false a.Grid)) (VEv.tmp (t := (T.op 0 0)) rfl) rfl st53 sz53 (Nat.le_of_ble_eq_true rfl) rfl) ?_
  refine VRunO.chain VWant.always (OC.callF (us := [(T.agg (eGrid false a.Grid))]) (r := (T.agg (eGrid true a.Grid))) (r' := (T.agg (eGrid true a.Grid))) (objs := []) rfl (VEvs.cons (VEv.tmp (t := (T.agg (eGrid false a.Grid))) rfl) VEvs.nil) (LendL.cons (Lend.agg (LendL.cons (Lend.pl rfl) (LendL.cons (Lend.pl rfl) (LendL.cons (Lend.pl rfl) (LendL.nil))))) (LendL.nil)) (W_laws_toGrid (n + 3) a.Grid ) rfl) ?_
  refine VRunO.free VWant.always (OF.fieldAddrO (VEv.tmp (t := (T.op 2 0)) rfl) fa80_0) ?_
  refine VRunO.chain VWant.always (B.storeO (us := [(T.int .i64 a.Grid.Rows), (T.int .i64 a.Grid.Cols), (T.str a.Grid.Cells)]) (ws := [(T.int .i64 a.Grid.Rows), (T.int .i64 a.Grid.Cols), (T.str a.Grid.Cells), T.nils, T.nils, (T.int .i64 0)]) (VEv.tmp (t := (T.op 2 0)) rfl) (VEv.tmp (t := (T.agg (eGrid true a.Grid))) rfl) nofun rfl rfl (Nat.le_of_ble_eq_true rfl) if59 sz59 (ball_cons rfl (ball_cons rfl (ball_cons rfl (ball_nil)))) rfl) ?_
  refine VRunO.nil ?_
  refine vthn.n ?_
  refine VRun.seq ?_
  refine VRun.region ?_
  refine VRunO.free VWant.always (OF.fieldAddrO (VEv.tmp (t := (T.op 0 0)) rfl) fa74_1) ?_
  refine VRunO.look VWant.always (OL.loadO1 (t := (T.sl false 2 (a.Clues.map (eClue false)))) (VEv.tmp (t := (T.op 0 3)) rfl) rfl rfl st54) ?_
  refine VRunO.chain VWant.always (OC.callF (us := [(T.sl false 2 (a.Clues.map (eClue false)))]) (r := (T.sl true 2 (a.Clues.map (eClue true)))) (r' := (T.os 2 3 0 ((a.Clues.map (eClue true)).length))) (objs := [(Obj.rows 2 (a.Clues.map (eClue true)))]) rfl (VEvs.cons (VEv.tmp (t := (T.sl false 2 (a.Clues.map (eClue false)))) rfl) VEvs.nil) (LendL.cons (Lend.pl rfl) (LendL.nil)) (W_laws_toClueS (n + 0) a.Clues (by first | assumption | omega | (simp only [List.length_map]; omega) | (simp only [List.length_map, List.length_append, List.length_cons, List.length_nil, List.length_replicate, List.length_set, List.length_drop, List.length_take, lim] at *; omega))) rfl) ?_
  refine VRunO.free VWant.always (OF.fieldAddrO (VEv.tmp (t := (T.op 2 0)) rfl) fa80_1) ?_
  refine VRunO.chain VWant.always (B.storeO (us := [(T.os 2 3 0 ((a.Clues.map (eClue true)).length))]) (ws := [(T.int .i64 a.Grid.Rows), (T.int .i64 a.Grid.Cols), (T.str a.Grid.Cells), (T.os 2 3 0 ((a.Clues.map (eClue true)).length)), T.nils, (T.int .i64 0)]) (VEv.tmp (t := (T.op 2 3)) rfl) (VEv.tmp (t := (T.os 2 3 0 ((a.Clues.map (eClue true)).length))) rfl) nofun rfl rfl (Nat.le_of_ble_eq_true rfl) if60 sz60 (ball_cons rfl (ball_nil)) rfl) ?_
  refine VRunO.nil ?_
  refine vthn.n ?_
  refine VRun.seq ?_
  refine VRun.region ?_
  refine VRunO.free VWant.always (OF.fieldAddrO (VEv.tmp (t := (T.op 0 0)) rfl) fa74_2) ?_
  refine VRunO.look VWant.always (OL.loadO1 (t := (T.sl false 1 (a.Seals.map (eInt false)))) (VEv.tmp (t := (T.op 0 4)) rfl) rfl rfl st72) ?_
  refine VRunO.chain VWant.always (OC.callF (us := [(T.sl false 1 (a.Seals.map (eInt false)))]) (r := (T.sl true 1 (a.Seals.map (eInt true)))) (r' := (T.os 1 4 0 ((a.Seals.map (eInt true)).length))) (objs := [(Obj.rows 1 (a.Seals.map (eInt true)))]) rfl (VEvs.cons (VEv.tmp (t := (T.sl false 1 (a.Seals.map (eInt false)))) rfl) VEvs.nil) (LendL.cons (Lend.pl rfl) (LendL.nil)) (W_laws_toIntS (n + 3) a.Seals (by first | assumption | omega | (simp only [List.length_map]; omega) | (simp only [List.length_map, List.length_append, List.length_cons, List.length_nil, List.length_replicate, List.length_set, List.length_drop, List.length_take, lim] at *; omega))) rfl) ?_
  refine VRunO.free VWant.always (OF.fieldAddrO (VEv.tmp (t := (T.op 2 0)) rfl) fa80_2) ?_
  refine VRunO.chain VWant.always (B.storeO (us := [(T.os 1 4 0 ((a.Seals.map (eInt true)).length))]) (ws := [(T.int .i64 a.Grid.Rows), (T.int .i64 a.Grid.Cols), (T.str a.Grid.Cells), (T.os 2 3 0 ((a.Clues.map (eClue true)).length)), (T.os 1 4 0 ((a.Seals.map (eInt true)).length)), (T.int .i64 0)]) (VEv.tmp (t := (T.op 2 4)) rfl) (VEv.tmp (t := (T.os 1 4 0 ((a.Seals.map (eInt true)).length))) rfl) nofun rfl rfl (Nat.le_of_ble_eq_true rfl) if72 sz72 (ball_cons rfl (ball_nil)) rfl) ?_
  refine VRunO.nil ?_
  refine vthn.n ?_
  refine VRun.seq ?_
  refine VRun.region ?_
  refine VRunO.free VWant.always (OF.fieldAddrO (VEv.tmp (t := (T.op 0 0)) rfl) fa74_3) ?_
  refine VRunO.look VWant.always (OL.loadO1 (t := (T.int .i64 a.Salt)) (VEv.tmp (t := (T.op 0 5)) rfl) rfl rfl st3) ?_
  refine VRunO.free VWant.always (OF.fieldAddrO (VEv.tmp (t := (T.op 2 0)) rfl) fa80_3) ?_
  refine VRunO.chain VWant.always (B.storeO (us := [(T.int .i64 a.Salt)]) (ws := [(T.int .i64 a.Grid.Rows), (T.int .i64 a.Grid.Cols), (T.str a.Grid.Cells), (T.os 2 3 0 ((a.Clues.map (eClue true)).length)), (T.os 1 4 0 ((a.Seals.map (eInt true)).length)), (T.int .i64 a.Salt)]) (VEv.tmp (t := (T.op 2 5)) rfl) (VEv.tmp (t := (T.int .i64 a.Salt)) rfl) nofun rfl rfl (Nat.le_of_ble_eq_true rfl) if3 sz3 (ball_cons rfl (ball_nil)) rfl) ?_
  refine VRunO.nil ?_
  refine vthn.n ?_
  refine VRun.seq ?_
  refine VRun.region ?_
  refine VRunO.look VWant.always (OL.loadOn (us := [(T.int .i64 a.Grid.Rows), (T.int .i64 a.Grid.Cols), (T.str a.Grid.Cells), (T.os 2 3 0 ((a.Clues.map (eClue true)).length)), (T.os 1 4 0 ((a.Seals.map (eInt true)).length)), (T.int .i64 a.Salt)]) (VEv.tmp (t := (T.op 2 0)) rfl) rfl st80 sz80 (Nat.le_of_ble_eq_true rfl) rfl) ?_
  refine VRunO.chain VWant.always (B.storeO (us := [(T.int .i64 a.Grid.Rows), (T.int .i64 a.Grid.Cols), (T.str a.Grid.Cells), (T.os 2 3 0 ((a.Clues.map (eClue true)).length)), (T.os 1 4 0 ((a.Seals.map (eInt true)).length)), (T.int .i64 a.Salt)]) (ws := [(T.int .i64 a.Grid.Rows), (T.int .i64 a.Grid.Cols), (T.str a.Grid.Cells), (T.os 2 3 0 ((a.Clues.map (eClue true)).length)), (T.os 1 4 0 ((a.Seals.map (eInt true)).length)), (T.int .i64 a.Salt)]) (VEv.tmp (t := (T.op 1 0)) rfl) (VEv.tmp (t := (T.agg [(T.int .i64 a.Grid.Rows), (T.int .i64 a.Grid.Cols), (T.str a.Grid.Cells), (T.os 2 3 0 ((a.Clues.map (eClue true)).length)), (T.os 1 4 0 ((a.Seals.map (eInt true)).length)), (T.int .i64 a.Salt)])) rfl) nofun rfl rfl (Nat.le_of_ble_eq_true rfl) if80 sz80 (ball_cons rfl (ball_cons rfl (ball_cons rfl (ball_cons rfl (ball_cons rfl (ball_cons rfl (ball_nil))))))) rfl) ?_
  refine VRunO.nil ?_
  refine vthn.n ?_
  refine VRun.ret ?_
  refine vfin.eq (r' := (T.agg [(T.int .i64 a.Grid.Rows), (T.int .i64 a.Grid.Cols), (T.str a.Grid.Cells), (T.sl true 2 (a.Clues.map (eClue true))), (T.sl true 1 (a.Seals.map (eInt true))), (T.int .i64 a.Salt)])) ?_ (vfin.r (VRes.celln (ws := [(T.int .i64 a.Grid.Rows), (T.int .i64 a.Grid.Cols), (T.str a.Grid.Cells), (T.os 2 3 0 ((a.Clues.map (eClue true)).length)), (T.os 1 4 0 ((a.Seals.map (eInt true)).length)), (T.int .i64 a.Salt)]) rfl rfl st80 sz80 (Nat.le_of_ble_eq_true rfl) rfl VRes.nil) (Give.agg (GiveL.cons (Give.int _ _) (GiveL.cons (Give.int _ _) (GiveL.cons (Give.str _) (GiveL.cons (Give.os rfl rfl (okeClue.cleanMap _)) (GiveL.cons (Give.os rfl rfl (okInt.cleanMap _)) (GiveL.cons (Give.int _ _) GiveL.nil (by decide)) (by decide)) (by decide)) (by decide)) (by decide)) (by decide))))
  show (T.agg [(T.int .i64 a.Grid.Rows), (T.int .i64 a.Grid.Cols), (T.str a.Grid.Cells), (T.sl true 2 (a.Clues.map (eClue true))), (T.sl true 1 (a.Seals.map (eInt true))), (T.int .i64 a.Salt)]) = (T.agg (ePuzzle true a))
  first | rfl | (exact decN (by omega)) | (symm; rw [decide_eq_false_iff_not]; omega) | (symm; rw [decide_eq_true_eq]; omega) | (simp_all; done)
theorem W_laws_toIssue (n : Nat) (a : D.Issue) (ha : zIssue a ≤ mx) : Pure (acall Try.prog (n + 6)) 51 [(T.agg (eIssue false a))] (T.agg (eIssue true a)) := by
  refine Pure.intro (rs := [ResultVar.cell 2 82]) Try.func51 rfl rfl rfl (E0 := [(0, (T.agg (eIssue false a)))]) rfl ?_
  have hlim : lim = 1099511627776 := rfl
  have hmx : mx = 1048576 := rfl
  have hmax : maxLen = 9223372036854775807 := rfl
  simp only [zIssue] at ha
  refine VRun.seq ?_
  refine VRun.region ?_
  refine VRunO.make VWant.always (B.box (ts := [(T.int .i64 a.Number), (T.int .i64 a.Puzzle.Grid.Rows), (T.int .i64 a.Puzzle.Grid.Cols), (T.str a.Puzzle.Grid.Cells), (T.sl false 2 (a.Puzzle.Clues.map (eClue false))), (T.sl false 1 (a.Puzzle.Seals.map (eInt false))), (T.int .i64 a.Puzzle.Salt), (T.str a.Fill), (T.int .i64 a.Open), (T.int .i64 a.Close)]) (VEv.tmp (t := (T.agg (eIssue false a))) rfl) nofun rfl) ?_
  refine VRunO.make VWant.always (B.alloc (t := (T.agg [(T.int .i64 0), (T.int .i64 0), (T.int .i64 0), (T.str ByteArray.empty), T.nils, T.nils, (T.int .i64 0), (T.str ByteArray.empty), (T.int .i64 0), (T.int .i64 0)])) (ts := [(T.int .i64 0), (T.int .i64 0), (T.int .i64 0), (T.str ByteArray.empty), T.nils, T.nils, (T.int .i64 0), (T.str ByteArray.empty), (T.int .i64 0), (T.int .i64 0)]) zo82 zc82 nofun (fun _ => .agg _ _ rfl (RLof (RL.cons (.int _ _) (RL.cons (.int _ _) (RL.cons (.int _ _) (RL.cons (.str _) (RL.cons (.nils) (RL.cons (.nils) (RL.cons (.int _ _) (RL.cons (.str _) (RL.cons (.int _ _) (RL.cons (.int _ _) (RL.nil _))))))))))))) rfl) ?_
  refine VRunO.nil ?_
  refine vthn.n ?_
  refine VRun.seq ?_
  refine VRun.region ?_
  refine VRunO.make VWant.always (B.alloc (t := (T.agg [(T.int .i64 0), (T.int .i64 0), (T.int .i64 0), (T.str ByteArray.empty), T.nils, T.nils, (T.int .i64 0), (T.str ByteArray.empty), (T.int .i64 0), (T.int .i64 0)])) (ts := [(T.int .i64 0), (T.int .i64 0), (T.int .i64 0), (T.str ByteArray.empty), T.nils, T.nils, (T.int .i64 0), (T.str ByteArray.empty), (T.int .i64 0), (T.int .i64 0)]) zo82 zc82 nofun (fun _ => .agg _ _ rfl (RLof (RL.cons (.int _ _) (RL.cons (.int _ _) (RL.cons (.int _ _) (RL.cons (.str _) (RL.cons (.nils) (RL.cons (.nils) (RL.cons (.int _ _) (RL.cons (.str _) (RL.cons (.int _ _) (RL.cons (.int _ _) (RL.nil _))))))))))))) rfl) ?_
  refine VRunO.nil ?_
  refine vthn.n ?_
  refine VRun.seq ?_
  refine VRun.region ?_
  refine VRunO.free VWant.always (OF.fieldAddrO (VEv.tmp (t := (T.op 0 0)) rfl) fa76_0) ?_
  refine VRunO.look VWant.always (OL.loadO1 (t := (T.int .i64 a.Number)) (VEv.tmp (t := (T.op 0 0)) rfl) rfl rfl st3) ?_
  refine VRunO.free VWant.always (OF.fieldAddrO (VEv.tmp (t := (T.op 2 0)) rfl) fa82_0) ?_
  refine VRunO.chain VWant.always (B.storeO (us := [(T.int .i64 a.Number)]) (ws := [(T.int .i64 a.Number), (T.int .i64 0), (T.int .i64 0), (T.str ByteArray.empty), T.nils, T.nils, (T.int .i64 0), (T.str ByteArray.empty), (T.int .i64 0), (T.int .i64 0)]) (VEv.tmp (t := (T.op 2 0)) rfl) (VEv.tmp (t := (T.int .i64 a.Number)) rfl) nofun rfl rfl (Nat.le_of_ble_eq_true rfl) if3 sz3 (ball_cons rfl (ball_nil)) rfl) ?_
  refine VRunO.nil ?_
  refine vthn.n ?_
  refine VRun.seq ?_
  refine VRun.region ?_
  refine VRunO.free VWant.always (OF.fieldAddrO (VEv.tmp (t := (T.op 0 0)) rfl) fa76_1) ?_
  refine VRunO.look VWant.always (OL.loadOn (us := (ePuzzle false a.Puzzle)) (VEv.tmp (t := (T.op 0 1)) rfl) rfl st74 sz74 (Nat.le_of_ble_eq_true rfl) rfl) ?_
  refine VRunO.chain VWant.always (OC.callF (us := [(T.agg (ePuzzle false a.Puzzle))]) (r := (T.agg (ePuzzle true a.Puzzle))) (r' := (T.agg [(T.int .i64 a.Puzzle.Grid.Rows), (T.int .i64 a.Puzzle.Grid.Cols), (T.str a.Puzzle.Grid.Cells), (T.os 2 3 0 ((a.Puzzle.Clues.map (eClue true)).length)), (T.os 1 4 0 ((a.Puzzle.Seals.map (eInt true)).length)), (T.int .i64 a.Puzzle.Salt)])) (objs := [(Obj.rows 2 (a.Puzzle.Clues.map (eClue true))), (Obj.rows 1 (a.Puzzle.Seals.map (eInt true)))]) rfl (VEvs.cons (VEv.tmp (t := (T.agg (ePuzzle false a.Puzzle))) rfl) VEvs.nil) (LendL.cons (Lend.agg (LendL.cons (Lend.pl rfl) (LendL.cons (Lend.pl rfl) (LendL.cons (Lend.pl rfl) (LendL.cons (Lend.pl rfl) (LendL.cons (Lend.pl rfl) (LendL.cons (Lend.pl rfl) (LendL.nil)))))))) (LendL.nil)) (W_laws_toPuzzle (n + 0) a.Puzzle (by first | assumption | omega | (simp only [List.length_map]; omega) | (simp only [List.length_map, List.length_append, List.length_cons, List.length_nil, List.length_replicate, List.length_set, List.length_drop, List.length_take, lim] at *; omega))) rfl) ?_
  refine VRunO.free VWant.always (OF.fieldAddrO (VEv.tmp (t := (T.op 2 0)) rfl) fa82_1) ?_
  refine VRunO.chain VWant.always (B.storeO (us := [(T.int .i64 a.Puzzle.Grid.Rows), (T.int .i64 a.Puzzle.Grid.Cols), (T.str a.Puzzle.Grid.Cells), (T.os 2 3 0 ((a.Puzzle.Clues.map (eClue true)).length)), (T.os 1 4 0 ((a.Puzzle.Seals.map (eInt true)).length)), (T.int .i64 a.Puzzle.Salt)]) (ws := [(T.int .i64 a.Number), (T.int .i64 a.Puzzle.Grid.Rows), (T.int .i64 a.Puzzle.Grid.Cols), (T.str a.Puzzle.Grid.Cells), (T.os 2 3 0 ((a.Puzzle.Clues.map (eClue true)).length)), (T.os 1 4 0 ((a.Puzzle.Seals.map (eInt true)).length)), (T.int .i64 a.Puzzle.Salt), (T.str ByteArray.empty), (T.int .i64 0), (T.int .i64 0)]) (VEv.tmp (t := (T.op 2 1)) rfl) (VEv.tmp (t := (T.agg [(T.int .i64 a.Puzzle.Grid.Rows), (T.int .i64 a.Puzzle.Grid.Cols), (T.str a.Puzzle.Grid.Cells), (T.os 2 3 0 ((a.Puzzle.Clues.map (eClue true)).length)), (T.os 1 4 0 ((a.Puzzle.Seals.map (eInt true)).length)), (T.int .i64 a.Puzzle.Salt)])) rfl) nofun rfl rfl (Nat.le_of_ble_eq_true rfl) if80 sz80 (ball_cons rfl (ball_cons rfl (ball_cons rfl (ball_cons rfl (ball_cons rfl (ball_cons rfl (ball_nil))))))) rfl) ?_
  refine VRunO.nil ?_
  refine vthn.n ?_
  refine VRun.seq ?_
  refine VRun.region ?_
  refine VRunO.free VWant.always (OF.fieldAddrO (VEv.tmp (t := (T.op 0 0)) rfl) fa76_2) ?_
  refine VRunO.look VWant.always (OL.loadO1 (t := (T.str a.Fill)) (VEv.tmp (t := (T.op 0 7)) rfl) rfl rfl st9) ?_
  refine VRunO.free VWant.always (OF.fieldAddrO (VEv.tmp (t := (T.op 2 0)) rfl) fa82_2) ?_
  refine VRunO.chain VWant.always (B.storeO (us := [(T.str a.Fill)]) (ws := [(T.int .i64 a.Number), (T.int .i64 a.Puzzle.Grid.Rows), (T.int .i64 a.Puzzle.Grid.Cols), (T.str a.Puzzle.Grid.Cells), (T.os 2 3 0 ((a.Puzzle.Clues.map (eClue true)).length)), (T.os 1 4 0 ((a.Puzzle.Seals.map (eInt true)).length)), (T.int .i64 a.Puzzle.Salt), (T.str a.Fill), (T.int .i64 0), (T.int .i64 0)]) (VEv.tmp (t := (T.op 2 7)) rfl) (VEv.tmp (t := (T.str a.Fill)) rfl) nofun rfl rfl (Nat.le_of_ble_eq_true rfl) if9 sz9 (ball_cons rfl (ball_nil)) rfl) ?_
  refine VRunO.nil ?_
  refine vthn.n ?_
  refine VRun.seq ?_
  refine VRun.region ?_
  refine VRunO.free VWant.always (OF.fieldAddrO (VEv.tmp (t := (T.op 0 0)) rfl) fa76_3) ?_
  refine VRunO.look VWant.always (OL.loadO1 (t := (T.int .i64 a.Open)) (VEv.tmp (t := (T.op 0 8)) rfl) rfl rfl st3) ?_
  refine VRunO.free VWant.always (OF.fieldAddrO (VEv.tmp (t := (T.op 2 0)) rfl) fa82_3) ?_
  refine VRunO.chain VWant.always (B.storeO (us := [(T.int .i64 a.Open)]) (ws := [(T.int .i64 a.Number), (T.int .i64 a.Puzzle.Grid.Rows), (T.int .i64 a.Puzzle.Grid.Cols), (T.str a.Puzzle.Grid.Cells), (T.os 2 3 0 ((a.Puzzle.Clues.map (eClue true)).length)), (T.os 1 4 0 ((a.Puzzle.Seals.map (eInt true)).length)), (T.int .i64 a.Puzzle.Salt), (T.str a.Fill), (T.int .i64 a.Open), (T.int .i64 0)]) (VEv.tmp (t := (T.op 2 8)) rfl) (VEv.tmp (t := (T.int .i64 a.Open)) rfl) nofun rfl rfl (Nat.le_of_ble_eq_true rfl) if3 sz3 (ball_cons rfl (ball_nil)) rfl) ?_
  refine VRunO.nil ?_
  refine vthn.n ?_
  refine VRun.seq ?_
  refine VRun.region ?_
  refine VRunO.free VWant.always (OF.fieldAddrO (VEv.tmp (t := (T.op 0 0)) rfl) fa76_4) ?_
  refine VRunO.look VWant.always (OL.loadO1 (t := (T.int .i64 a.Close)) (VEv.tmp (t := (T.op 0 9)) rfl) rfl rfl st3) ?_
  refine VRunO.free VWant.always (OF.fieldAddrO (VEv.tmp (t := (T.op 2 0)) rfl) fa82_4) ?_
  refine VRunO.chain VWant.always (B.storeO (us := [(T.int .i64 a.Close)]) (ws := [(T.int .i64 a.Number), (T.int .i64 a.Puzzle.Grid.Rows), (T.int .i64 a.Puzzle.Grid.Cols), (T.str a.Puzzle.Grid.Cells), (T.os 2 3 0 ((a.Puzzle.Clues.map (eClue true)).length)), (T.os 1 4 0 ((a.Puzzle.Seals.map (eInt true)).length)), (T.int .i64 a.Puzzle.Salt), (T.str a.Fill), (T.int .i64 a.Open), (T.int .i64 a.Close)]) (VEv.tmp (t := (T.op 2 9)) rfl) (VEv.tmp (t := (T.int .i64 a.Close)) rfl) nofun rfl rfl (Nat.le_of_ble_eq_true rfl) if3 sz3 (ball_cons rfl (ball_nil)) rfl) ?_
  refine VRunO.nil ?_
  refine vthn.n ?_
  refine VRun.seq ?_
  refine VRun.region ?_
  refine VRunO.look VWant.always (OL.loadOn (us := [(T.int .i64 a.Number), (T.int .i64 a.Puzzle.Grid.Rows), (T.int .i64 a.Puzzle.Grid.Cols), (T.str a.Puzzle.Grid.Cells), (T.os 2 3 0 ((a.Puzzle.Clues.map (eClue true)).length)), (T.os 1 4 0 ((a.Puzzle.Seals.map (eInt true)).length)), (T.int .i64 a.Puzzle.Salt), (T.str a.Fill), (T.int .i64 a.Open), (T.int .i64 a.Close)]) (VEv.tmp (t := (T.op 2 0)) rfl) rfl st82 sz82 (Nat.le_of_ble_eq_true rfl) rfl) ?_
  refine VRunO.chain VWant.always (B.storeO (us := [(T.int .i64 a.Number), (T.int .i64 a.Puzzle.Grid.Rows), (T.int .i64 a.Puzzle.Grid.Cols), (T.str a.Puzzle.Grid.Cells), (T.os 2 3 0 ((a.Puzzle.Clues.map (eClue true)).length)), (T.os 1 4 0 ((a.Puzzle.Seals.map (eInt true)).length)), (T.int .i64 a.Puzzle.Salt), (T.str a.Fill), (T.int .i64 a.Open), (T.int .i64 a.Close)]) (ws := [(T.int .i64 a.Number), (T.int .i64 a.Puzzle.Grid.Rows), (T.int .i64 a.Puzzle.Grid.Cols), (T.str a.Puzzle.Grid.Cells), (T.os 2 3 0 ((a.Puzzle.Clues.map (eClue true)).length)), (T.os 1 4 0 ((a.Puzzle.Seals.map (eInt true)).length)), (T.int .i64 a.Puzzle.Salt), (T.str a.Fill), (T.int .i64 a.Open), (T.int .i64 a.Close)]) (VEv.tmp (t := (T.op 1 0)) rfl) (VEv.tmp (t := (T.agg [(T.int .i64 a.Number), (T.int .i64 a.Puzzle.Grid.Rows), (T.int .i64 a.Puzzle.Grid.Cols), (T.str a.Puzzle.Grid.Cells), (T.os 2 3 0 ((a.Puzzle.Clues.map (eClue true)).length)), (T.os 1 4 0 ((a.Puzzle.Seals.map (eInt true)).length)), (T.int .i64 a.Puzzle.Salt), (T.str a.Fill), (T.int .i64 a.Open), (T.int .i64 a.Close)])) rfl) nofun rfl rfl (Nat.le_of_ble_eq_true rfl) if82 sz82 (ball_cons rfl (ball_cons rfl (ball_cons rfl (ball_cons rfl (ball_cons rfl (ball_cons rfl (ball_cons rfl (ball_cons rfl (ball_cons rfl (ball_cons rfl (ball_nil))))))))))) rfl) ?_
  refine VRunO.nil ?_
  refine vthn.n ?_
  refine VRun.ret ?_
  refine vfin.eq (r' := (T.agg [(T.int .i64 a.Number), (T.int .i64 a.Puzzle.Grid.Rows), (T.int .i64 a.Puzzle.Grid.Cols), (T.str a.Puzzle.Grid.Cells), (T.sl true 2 (a.Puzzle.Clues.map (eClue true))), (T.sl true 1 (a.Puzzle.Seals.map (eInt true))), (T.int .i64 a.Puzzle.Salt), (T.str a.Fill), (T.int .i64 a.Open), (T.int .i64 a.Close)])) ?_ (vfin.r (VRes.celln (ws := [(T.int .i64 a.Number), (T.int .i64 a.Puzzle.Grid.Rows), (T.int .i64 a.Puzzle.Grid.Cols), (T.str a.Puzzle.Grid.Cells), (T.os 2 3 0 ((a.Puzzle.Clues.map (eClue true)).length)), (T.os 1 4 0 ((a.Puzzle.Seals.map (eInt true)).length)), (T.int .i64 a.Puzzle.Salt), (T.str a.Fill), (T.int .i64 a.Open), (T.int .i64 a.Close)]) rfl rfl st82 sz82 (Nat.le_of_ble_eq_true rfl) rfl VRes.nil) (Give.agg (GiveL.cons (Give.int _ _) (GiveL.cons (Give.int _ _) (GiveL.cons (Give.int _ _) (GiveL.cons (Give.str _) (GiveL.cons (Give.os rfl rfl (okeClue.cleanMap _)) (GiveL.cons (Give.os rfl rfl (okInt.cleanMap _)) (GiveL.cons (Give.int _ _) (GiveL.cons (Give.str _) (GiveL.cons (Give.int _ _) (GiveL.cons (Give.int _ _) GiveL.nil (by decide)) (by decide)) (by decide)) (by decide)) (by decide)) (by decide)) (by decide)) (by decide)) (by decide)) (by decide))))
  show (T.agg [(T.int .i64 a.Number), (T.int .i64 a.Puzzle.Grid.Rows), (T.int .i64 a.Puzzle.Grid.Cols), (T.str a.Puzzle.Grid.Cells), (T.sl true 2 (a.Puzzle.Clues.map (eClue true))), (T.sl true 1 (a.Puzzle.Seals.map (eInt true))), (T.int .i64 a.Puzzle.Salt), (T.str a.Fill), (T.int .i64 a.Open), (T.int .i64 a.Close)]) = (T.agg (eIssue true a))
  first | rfl | (exact decN (by omega)) | (symm; rw [decide_eq_false_iff_not]; omega) | (symm; rw [decide_eq_true_eq]; omega) | (simp_all; done)
end Go.Proofs.Ythdnjihmjdbdkaa.AE
