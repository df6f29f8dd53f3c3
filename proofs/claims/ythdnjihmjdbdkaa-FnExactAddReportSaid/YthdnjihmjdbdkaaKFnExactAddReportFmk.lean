/- Walks of the program's functions over trees. Conditions: as each theorem states. -/
import Derived.Test.YthdnjihmjdbdkaaKFnExactAddReportVmark
namespace Go.Proofs.Ythdnjihmjdbdkaa.AE
open Go Go.RowKit
set_option linter.unusedVariables false
set_option linter.unusedSimpArgs false
set_option maxRecDepth 20000
set_option maxHeartbeats 2000000

noncomputable section
def mStep (k : Nat) : D.Step := (D.Step.mk ((k : Nat) : Int) (mtxt ((k + 1 : Nat) : Int)) ((k + 2 : Nat) : Int) ((k + 3 : Nat) : Int))
end
noncomputable section
def mInt (k : Nat) : Int := ((k : Nat) : Int)
end
noncomputable section
def mReport (k : Nat) : D.Report := (D.Report.mk ((k : Nat) : Int) ((k + 1 : Nat) : Int) ((k + 2 : Nat) : Int) (mtxt ((k + 3 : Nat) : Int)))
end
theorem W_laws_markReportS (n : Nat) (a : List D.Report) (k : Nat) (hk : k + 4 * a.length ≤ lim) : Mut (acall Try.prog (n + 2)) 37 4 (a.map (eReport true)) [(tN k)] ((k + 4 * a.length : Nat) : Int) ((mkN mReport 4 k a.length).map (eReport true)) := by
  refine Mut.intro (rt := 4) Try.func37 rfl rfl rfl (by kernel_rfl) (scMap (fun _ => rfl) _) (scMap (fun _ => rfl) _) (E0 := [(1, (tN k))]) rfl ?_
  have hlim : lim = 1099511627776 := rfl
  have hmx : mx = 1048576 := rfl
  have hmax : maxLen = 9223372036854775807 := rfl
  refine sr ?_
  refine fO (OF.assign (VEv.int .i64 0)) ?_
  refine nt ?_
  refine sq ?_
  refine sr ?_
  refine fO (OF.assign (VEv.int .i64 0)) ?_
  refine nt ?_
  refine VRun.block ?_
  have he1 : a = mkI mReport 4 k a 0 := by first | rfl | (refine mkI_set ?_; omega) | (simp only [List.set_set]; refine mkI_set ?_; omega) | (simp; done) | omega
  refine VRun.loop (A := Nat) (fun s_ => [(0, (T.os 4 0 0 (((mkI mReport 4 k a s_).map (eReport true)).length))), (1, (tN (k + 4 * s_))), (4, (tN 0)), (5, (tN s_))]) (fun s_ => mkO [(0, (Obj.rows 4 ((mkI mReport 4 k a s_).map (eReport true))))]) 1 (fun s_ => s_ ≤ a.length) (fun s_ => a.length - s_) (0 : Nat) ?_ (Wk.mk (fun k => k) ?_ ?_ ?_) ?_
  · first | trivial | (simp; done) | omega | (constructor <;> simp)
  · exact (ball_cons ⟨(congrArg (fun l_ => T.os 4 0 0 (List.map (eReport true) l_).length) he1), rfl⟩ (ball_cons ⟨(congrArg (T.int .i64) (show ((k : Nat) : Int) = ((k + 4 * 0 : Nat) : Int) from (by first | rfl | omega | (simp; done) | (push_cast; omega)))), rfl⟩ (ball_cons ⟨rfl, rfl⟩ (ball_cons ⟨rfl, rfl⟩ (ball_nil)))))
  · exact (ball_cons ⟨(congrArg (fun l_ => some (Obj.rows 4 (List.map (eReport true) l_))) he1), (Nat.le_of_ble_eq_true rfl), rfl⟩ (ball_nil))
  · show List.Nodup ([0] : List Nat)
    decide
  rintro i hI
  have hI' : i ≤ a.length := hI
  clear hI
  show VRun _ _ _ [(0, (T.os 4 0 0 (((mkI mReport 4 k a i).map (eReport true)).length))), (1, (tN (k + 4 * i))), (4, (tN 0)), (5, (tN i))] (mkO [(0, (Obj.rows 4 ((mkI mReport 4 k a i).map (eReport true))))]) 1 _
  have hml := mkI_len (f := mReport) (w := 4) (k := k) hI'
  refine sq ?_
  refine sr ?_
  refine mO (tN i) rfl ?_
  refine mO (T.os 4 0 0 (((mkI mReport 4 k a i).map (eReport true)).length)) rfl ?_
  refine lO (B.lenO (m := (mkI mReport 4 k a i).length) (tv (T.os 4 0 0 (((mkI mReport 4 k a i).map (eReport true)).length)) rfl) Try.underlying32 (List.length_map ..)) ?_
  refine fO (B.lss (c := (decide (i < (mkI mReport 4 k a i).length))) (tv (tN i) rfl) (tv (tN ((mkI mReport 4 k a i).length)) rfl) (by first | omega | (simp only [List.length_set]; omega) | (exact decN (by omega)))) ?_
  refine nt ?_
  refine VRun.cond (tv (tB (decide (i < (mkI mReport 4 k a i).length))) rfl) (fun hc0 => ?_) (fun hc0 => ?_)
  · have fhc0 : i < (mkI mReport 4 k a i).length := of_decide_eq_true hc0
    refine sk ?_
    refine tn ?_
    refine sq ?_
    refine VRun.block ?_
    refine sr ?_
    refine mO (T.os 4 0 0 (((mkI mReport 4 k a i).map (eReport true)).length)) rfl ?_
    refine mO (tN i) rfl ?_
    refine mO (tN (k + 4 * i)) rfl ?_
    obtain ⟨x1, hx1⟩ : ∃ x, (mkI mReport 4 k a i)[i]? = some x := ⟨_, List.getElem?_eq_getElem (by first | omega | (simp only [List.length_set]; omega) | omega)⟩
    refine fO (B.indexAddrO (i := i) (tv (T.os 4 0 0 (((mkI mReport 4 k a i).map (eReport true)).length)) rfl) (tv (tN i) rfl) rfl (by first | omega | (simp only [List.length_set]; omega) | omega | (simp only [List.length_map]; omega) | (simp only [List.length_map, List.length_append, List.length_cons, List.length_nil, List.length_replicate, List.length_set, List.length_drop, List.length_take, lim] at *; omega)) Try.underlying32 sz48 if48) ?_
    refine fO (OF.fieldAddrP (tv (T.orp 4 0 i 0) rfl) fa48_0) ?_
    refine cO (B.storeP (us := [(tN (k + 4 * i))]) (rows' := (((mkI mReport 4 k a i).set i (D.Report.mk ((k + 4 * i : Nat) : Int) x1.Slot x1.Kind x1.Word)).map (eReport true))) (row := (eReport true x1)) (tv (T.orp 4 0 i 0) rfl) (tv (tN (k + 4 * i)) rfl) nofun rfl (map_at _ hx1) rfl (Nat.le_of_ble_eq_true rfl) if3 sz3 (ball_cons rfl (ball_nil)) (by intro r hr t ht; obtain ⟨x, _, rfl⟩ := List.mem_map.1 hr; rw [flReport] at ht; exact isPl_flat (okeReport.pl _ t ht)) (set_mapE rfl)) ?_
    refine nt ?_
    refine sr ?_
    refine mO (tN (k + 4 * i)) rfl ?_
    refine fO (B.add (n := (((k + 4 * i + 1) : Nat) : Int)) (tv (tN (k + 4 * i)) rfl) (VEv.int .i64 1) (by first | omega | (simp only [List.length_set]; omega) | rfl | (rw [wrap64 (by omega)]; omega) | (rw [wrap64 (by omega)]; done))) ?_
    refine aO (tN (k + 4 * i + 1)) rfl ?_
    refine nt ?_
    refine sr ?_
    refine mO (T.os 4 0 0 (((mkI mReport 4 k a i).map (eReport true)).length)) rfl ?_
    refine mO (tN i) rfl ?_
    refine mO (tN (k + 4 * i + 1)) rfl ?_
    refine fO (B.indexAddrO (i := i) (tv (T.os 4 0 0 (((mkI mReport 4 k a i).map (eReport true)).length)) rfl) (tv (tN i) rfl) rfl (by first | omega | (simp only [List.length_set]; omega) | omega | (simp only [List.length_map]; omega) | (simp only [List.length_map, List.length_append, List.length_cons, List.length_nil, List.length_replicate, List.length_set, List.length_drop, List.length_take, lim] at *; omega)) Try.underlying32 sz48 if48) ?_
    refine fO (OF.fieldAddrP (tv (T.orp 4 0 i 0) rfl) fa48_1) ?_
    refine cO (B.storeP (us := [(tN (k + 4 * i + 1))]) (rows' := ((((mkI mReport 4 k a i).set i (D.Report.mk ((k + 4 * i : Nat) : Int) x1.Slot x1.Kind x1.Word)).set i (D.Report.mk ((D.Report.mk ((k + 4 * i : Nat) : Int) x1.Slot x1.Kind x1.Word).Tester) (((k + 4 * i + 1) : Nat) : Int) ((D.Report.mk ((k + 4 * i : Nat) : Int) x1.Slot x1.Kind x1.Word).Kind) ((D.Report.mk ((k + 4 * i : Nat) : Int) x1.Slot x1.Kind x1.Word).Word))).map (eReport true))) (row := (eReport true (D.Report.mk ((k + 4 * i : Nat) : Int) x1.Slot x1.Kind x1.Word))) (tv (T.orp 4 0 i 1) rfl) (tv (tN (k + 4 * i + 1)) rfl) nofun rfl (map_at _ (set_at (by first | omega | (simp only [List.length_set]; omega) | omega | (simp only [List.length_map]; omega) | (simp only [List.length_map, List.length_append, List.length_cons, List.length_nil, List.length_replicate, List.length_set, List.length_drop, List.length_take, lim] at *; omega)))) rfl (Nat.le_of_ble_eq_true rfl) if3 sz3 (ball_cons rfl (ball_nil)) (by intro r hr t ht; obtain ⟨x, _, rfl⟩ := List.mem_map.1 hr; rw [flReport] at ht; exact isPl_flat (okeReport.pl _ t ht)) (set_mapE rfl)) ?_
    refine nt ?_
    refine sr ?_
    refine mO (tN (k + 4 * i + 1)) rfl ?_
    refine fO (B.add (n := ((((k + 4 * i + 1) + 1) : Nat) : Int)) (tv (tN (k + 4 * i + 1)) rfl) (VEv.int .i64 1) (by first | omega | (simp only [List.length_set]; omega) | rfl | (rw [wrap64 (by omega)]; omega) | (rw [wrap64 (by omega)]; done))) ?_
    refine aO (tN ((k + 4 * i + 1) + 1)) rfl ?_
    refine nt ?_
    refine sr ?_
    refine mO (T.os 4 0 0 (((mkI mReport 4 k a i).map (eReport true)).length)) rfl ?_
    refine mO (tN i) rfl ?_
    refine mO (tN ((k + 4 * i + 1) + 1)) rfl ?_
    refine fO (B.indexAddrO (i := i) (tv (T.os 4 0 0 (((mkI mReport 4 k a i).map (eReport true)).length)) rfl) (tv (tN i) rfl) rfl (by first | omega | (simp only [List.length_set]; omega) | omega | (simp only [List.length_map]; omega) | (simp only [List.length_map, List.length_append, List.length_cons, List.length_nil, List.length_replicate, List.length_set, List.length_drop, List.length_take, lim] at *; omega)) Try.underlying32 sz48 if48) ?_
    refine fO (OF.fieldAddrP (tv (T.orp 4 0 i 0) rfl) fa48_2) ?_
    refine cO (B.storeP (us := [(tN ((k + 4 * i + 1) + 1))]) (rows' := (((((mkI mReport 4 k a i).set i (D.Report.mk ((k + 4 * i : Nat) : Int) x1.Slot x1.Kind x1.Word)).set i (D.Report.mk ((D.Report.mk ((k + 4 * i : Nat) : Int) x1.Slot x1.Kind x1.Word).Tester) (((k + 4 * i + 1) : Nat) : Int) ((D.Report.mk ((k + 4 * i : Nat) : Int) x1.Slot x1.Kind x1.Word).Kind) ((D.Report.mk ((k + 4 * i : Nat) : Int) x1.Slot x1.Kind x1.Word).Word))).set i (D.Report.mk ((D.Report.mk ((D.Report.mk ((k + 4 * i : Nat) : Int) x1.Slot x1.Kind x1.Word).Tester) (((k + 4 * i + 1) : Nat) : Int) ((D.Report.mk ((k + 4 * i : Nat) : Int) x1.Slot x1.Kind x1.Word).Kind) ((D.Report.mk ((k + 4 * i : Nat) : Int) x1.Slot x1.Kind x1.Word).Word)).Tester) ((D.Report.mk ((D.Report.mk ((k + 4 * i : Nat) : Int) x1.Slot x1.Kind x1.Word).Tester) (((k + 4 * i + 1) : Nat) : Int) ((D.Report.mk ((k + 4 * i : Nat) : Int) x1.Slot x1.Kind x1.Word).Kind) ((D.Report.mk ((k + 4 * i : Nat) : Int) x1.Slot x1.Kind x1.Word).Word)).Slot) ((((k + 4 * i + 1) + 1) : Nat) : Int) ((D.Report.mk ((D.Report.mk ((k + 4 * i : Nat) : Int) x1.Slot x1.Kind x1.Word).Tester) (((k + 4 * i + 1) : Nat) : Int) ((D.Report.mk ((k + 4 * i : Nat) : Int) x1.Slot x1.Kind x1.Word).Kind) ((D.Report.mk ((k + 4 * i : Nat) : Int) x1.Slot x1.Kind x1.Word).Word)).Word))).map (eReport true))) (row := (eReport true (D.Report.mk ((D.Report.mk ((k + 4 * i : Nat) : Int) x1.Slot x1.Kind x1.Word).Tester) (((k + 4 * i + 1) : Nat) : Int) ((D.Report.mk ((k + 4 * i : Nat) : Int) x1.Slot x1.Kind x1.Word).Kind) ((D.Report.mk ((k + 4 * i : Nat) : Int) x1.Slot x1.Kind x1.Word).Word)))) (tv (T.orp 4 0 i 2) rfl) (tv (tN ((k + 4 * i + 1) + 1)) rfl) nofun rfl (map_at _ (set_at (by first | omega | (simp only [List.length_set]; omega) | omega | (simp only [List.length_map]; omega) | (simp only [List.length_map, List.length_append, List.length_cons, List.length_nil, List.length_replicate, List.length_set, List.length_drop, List.length_take, lim] at *; omega)))) rfl (Nat.le_of_ble_eq_true rfl) if3 sz3 (ball_cons rfl (ball_nil)) (by intro r hr t ht; obtain ⟨x, _, rfl⟩ := List.mem_map.1 hr; rw [flReport] at ht; exact isPl_flat (okeReport.pl _ t ht)) (set_mapE rfl)) ?_
    refine nt ?_
    refine sr ?_
    refine mO (tN ((k + 4 * i + 1) + 1)) rfl ?_
    refine fO (B.add (n := (((((k + 4 * i + 1) + 1) + 1) : Nat) : Int)) (tv (tN ((k + 4 * i + 1) + 1)) rfl) (VEv.int .i64 1) (by first | omega | (simp only [List.length_set]; omega) | rfl | (rw [wrap64 (by omega)]; omega) | (rw [wrap64 (by omega)]; done))) ?_
    refine aO (tN (((k + 4 * i + 1) + 1) + 1)) rfl ?_
    refine nt ?_
    refine sr ?_
    refine mO (T.os 4 0 0 (((mkI mReport 4 k a i).map (eReport true)).length)) rfl ?_
    refine mO (tN i) rfl ?_
    refine mO (tN (((k + 4 * i + 1) + 1) + 1)) rfl ?_
    refine cO (cS (vc (tv (tN (((k + 4 * i + 1) + 1) + 1)) rfl) VEvs.nil) (lp rfl (LendL.nil)) (W_laws_markText (n + 0) (((((k + 4 * i + 1) + 1) + 1) : Nat) : Int) (by first | omega | (simp only [List.length_set]; omega) | assumption | omega)) rfl rfl) ?_
    refine fO (B.indexAddrO (i := i) (tv (T.os 4 0 0 (((mkI mReport 4 k a i).map (eReport true)).length)) rfl) (tv (tN i) rfl) rfl (by first | omega | (simp only [List.length_set]; omega) | omega | (simp only [List.length_map]; omega) | (simp only [List.length_map, List.length_append, List.length_cons, List.length_nil, List.length_replicate, List.length_set, List.length_drop, List.length_take, lim] at *; omega)) Try.underlying32 sz48 if48) ?_
    refine fO (OF.fieldAddrP (tv (T.orp 4 0 i 0) rfl) fa48_3) ?_
    refine cO (B.storeP (us := [(tS (mtxt (((((k + 4 * i + 1) + 1) + 1) : Nat) : Int)))]) (rows' := ((((((mkI mReport 4 k a i).set i (D.Report.mk ((k + 4 * i : Nat) : Int) x1.Slot x1.Kind x1.Word)).set i (D.Report.mk ((D.Report.mk ((k + 4 * i : Nat) : Int) x1.Slot x1.Kind x1.Word).Tester) (((k + 4 * i + 1) : Nat) : Int) ((D.Report.mk ((k + 4 * i : Nat) : Int) x1.Slot x1.Kind x1.Word).Kind) ((D.Report.mk ((k + 4 * i : Nat) : Int) x1.Slot x1.Kind x1.Word).Word))).set i (D.Report.mk ((D.Report.mk ((D.Report.mk ((k + 4 * i : Nat) : Int) x1.Slot x1.Kind x1.Word).Tester) (((k + 4 * i + 1) : Nat) : Int) ((D.Report.mk ((k + 4 * i : Nat) : Int) x1.Slot x1.Kind x1.Word).Kind) ((D.Report.mk ((k + 4 * i : Nat) : Int) x1.Slot x1.Kind x1.Word).Word)).Tester) ((D.Report.mk ((D.Report.mk ((k + 4 * i : Nat) : Int) x1.Slot x1.Kind x1.Word).Tester) (((k + 4 * i + 1) : Nat) : Int) ((D.Report.mk ((k + 4 * i : Nat) : Int) x1.Slot x1.Kind x1.Word).Kind) ((D.Report.mk ((k + 4 * i : Nat) : Int) x1.Slot x1.Kind x1.Word).Word)).Slot) ((((k + 4 * i + 1) + 1) : Nat) : Int) ((D.Report.mk ((D.Report.mk ((k + 4 * i : Nat) : Int) x1.Slot x1.Kind x1.Word).Tester) (((k + 4 * i + 1) : Nat) : Int) ((D.Report.mk ((k + 4 * i : Nat) : Int) x1.Slot x1.Kind x1.Word).Kind) ((D.Report.mk ((k + 4 * i : Nat) : Int) x1.Slot x1.Kind x1.Word).Word)).Word))).set i (D.Report.mk ((D.Report.mk ((D.Report.mk ((D.Report.mk ((k + 4 * i : Nat) : Int) x1.Slot x1.Kind x1.Word).Tester) (((k + 4 * i + 1) : Nat) : Int) ((D.Report.mk ((k + 4 * i : Nat) : Int) x1.Slot x1.Kind x1.Word).Kind) ((D.Report.mk ((k + 4 * i : Nat) : Int) x1.Slot x1.Kind x1.Word).Word)).Tester) ((D.Report.mk ((D.Report.mk ((k + 4 * i : Nat) : Int) x1.Slot x1.Kind x1.Word).Tester) (((k + 4 * i + 1) : Nat) : Int) ((D.Report.mk ((k + 4 * i : Nat) : Int) x1.Slot x1.Kind x1.Word).Kind) ((D.Report.mk ((k + 4 * i : Nat) : Int) x1.Slot x1.Kind x1.Word).Word)).Slot) ((((k + 4 * i + 1) + 1) : Nat) : Int) ((D.Report.mk ((D.Report.mk ((k + 4 * i : Nat) : Int) x1.Slot x1.Kind x1.Word).Tester) (((k + 4 * i + 1) : Nat) : Int) ((D.Report.mk ((k + 4 * i : Nat) : Int) x1.Slot x1.Kind x1.Word).Kind) ((D.Report.mk ((k + 4 * i : Nat) : Int) x1.Slot x1.Kind x1.Word).Word)).Word)).Tester) ((D.Report.mk ((D.Report.mk ((D.Report.mk ((k + 4 * i : Nat) : Int) x1.Slot x1.Kind x1.Word).Tester) (((k + 4 * i + 1) : Nat) : Int) ((D.Report.mk ((k + 4 * i : Nat) : Int) x1.Slot x1.Kind x1.Word).Kind) ((D.Report.mk ((k + 4 * i : Nat) : Int) x1.Slot x1.Kind x1.Word).Word)).Tester) ((D.Report.mk ((D.Report.mk ((k + 4 * i : Nat) : Int) x1.Slot x1.Kind x1.Word).Tester) (((k + 4 * i + 1) : Nat) : Int) ((D.Report.mk ((k + 4 * i : Nat) : Int) x1.Slot x1.Kind x1.Word).Kind) ((D.Report.mk ((k + 4 * i : Nat) : Int) x1.Slot x1.Kind x1.Word).Word)).Slot) ((((k + 4 * i + 1) + 1) : Nat) : Int) ((D.Report.mk ((D.Report.mk ((k + 4 * i : Nat) : Int) x1.Slot x1.Kind x1.Word).Tester) (((k + 4 * i + 1) : Nat) : Int) ((D.Report.mk ((k + 4 * i : Nat) : Int) x1.Slot x1.Kind x1.Word).Kind) ((D.Report.mk ((k + 4 * i : Nat) : Int) x1.Slot x1.Kind x1.Word).Word)).Word)).Slot) ((D.Report.mk ((D.Report.mk ((D.Report.mk ((k + 4 * i : Nat) : Int) x1.Slot x1.Kind x1.Word).Tester) (((k + 4 * i + 1) : Nat) : Int) ((D.Report.mk ((k + 4 * i : Nat) : Int) x1.Slot x1.Kind x1.Word).Kind) ((D.Report.mk ((k + 4 * i : Nat) : Int) x1.Slot x1.Kind x1.Word).Word)).Tester) ((D.Report.mk ((D.Report.mk ((k + 4 * i : Nat) : Int) x1.Slot x1.Kind x1.Word).Tester) (((k + 4 * i + 1) : Nat) : Int) ((D.Report.mk ((k + 4 * i : Nat) : Int) x1.Slot x1.Kind x1.Word).Kind) ((D.Report.mk ((k + 4 * i : Nat) : Int) x1.Slot x1.Kind x1.Word).Word)).Slot) ((((k + 4 * i + 1) + 1) : Nat) : Int) ((D.Report.mk ((D.Report.mk ((k + 4 * i : Nat) : Int) x1.Slot x1.Kind x1.Word).Tester) (((k + 4 * i + 1) : Nat) : Int) ((D.Report.mk ((k + 4 * i : Nat) : Int) x1.Slot x1.Kind x1.Word).Kind) ((D.Report.mk ((k + 4 * i : Nat) : Int) x1.Slot x1.Kind x1.Word).Word)).Word)).Kind) (mtxt (((((k + 4 * i + 1) + 1) + 1) : Nat) : Int)))).map (eReport true))) (row := (eReport true (D.Report.mk ((D.Report.mk ((D.Report.mk ((k + 4 * i : Nat) : Int) x1.Slot x1.Kind x1.Word).Tester) (((k + 4 * i + 1) : Nat) : Int) ((D.Report.mk ((k + 4 * i : Nat) : Int) x1.Slot x1.Kind x1.Word).Kind) ((D.Report.mk ((k + 4 * i : Nat) : Int) x1.Slot x1.Kind x1.Word).Word)).Tester) ((D.Report.mk ((D.Report.mk ((k + 4 * i : Nat) : Int) x1.Slot x1.Kind x1.Word).Tester) (((k + 4 * i + 1) : Nat) : Int) ((D.Report.mk ((k + 4 * i : Nat) : Int) x1.Slot x1.Kind x1.Word).Kind) ((D.Report.mk ((k + 4 * i : Nat) : Int) x1.Slot x1.Kind x1.Word).Word)).Slot) ((((k + 4 * i + 1) + 1) : Nat) : Int) ((D.Report.mk ((D.Report.mk ((k + 4 * i : Nat) : Int) x1.Slot x1.Kind x1.Word).Tester) (((k + 4 * i + 1) : Nat) : Int) ((D.Report.mk ((k + 4 * i : Nat) : Int) x1.Slot x1.Kind x1.Word).Kind) ((D.Report.mk ((k + 4 * i : Nat) : Int) x1.Slot x1.Kind x1.Word).Word)).Word)))) (tv (T.orp 4 0 i 3) rfl) (tv (tS (mtxt (((((k + 4 * i + 1) + 1) + 1) : Nat) : Int))) rfl) nofun rfl (map_at _ (set_at (by first | omega | (simp only [List.length_set]; omega) | omega | (simp only [List.length_map]; omega) | (simp only [List.length_map, List.length_append, List.length_cons, List.length_nil, List.length_replicate, List.length_set, List.length_drop, List.length_take, lim] at *; omega)))) rfl (Nat.le_of_ble_eq_true rfl) if9 sz9 (ball_cons rfl (ball_nil)) (by intro r hr t ht; obtain ⟨x, _, rfl⟩ := List.mem_map.1 hr; rw [flReport] at ht; exact isPl_flat (okeReport.pl _ t ht)) (set_mapE rfl)) ?_
    refine nt ?_
    refine VRun.region ?_
    refine mO (tN (((k + 4 * i + 1) + 1) + 1)) rfl ?_
    refine fO (B.add (n := ((((((k + 4 * i + 1) + 1) + 1) + 1) : Nat) : Int)) (tv (tN (((k + 4 * i + 1) + 1) + 1)) rfl) (VEv.int .i64 1) (by first | omega | (simp only [List.length_set]; omega) | rfl | (rw [wrap64 (by omega)]; omega) | (rw [wrap64 (by omega)]; done))) ?_
    refine aO (tN ((((k + 4 * i + 1) + 1) + 1) + 1)) rfl ?_
    refine VRunO.nil ?_
    refine vinB.n ?_
    refine tn ?_
    refine VRun.region ?_
    refine mO (tN i) rfl ?_
    refine fO (B.add (n := (((i + 1) : Nat) : Int)) (tv (tN i) rfl) (VEv.int .i64 1) (by first | omega | (simp only [List.length_set]; omega) | rfl | (rw [wrap64 (by omega)]; omega) | (rw [wrap64 (by omega)]; done))) ?_
    refine aO (tN (i + 1)) rfl ?_
    refine VRunO.nil ?_
    refine tn ?_
    have hi1 : i + 1 ≤ a.length := by omega
    have he2 : (((((mkI mReport 4 k a i).set i (D.Report.mk ((k + 4 * i : Nat) : Int) x1.Slot x1.Kind x1.Word)).set i (D.Report.mk ((D.Report.mk ((k + 4 * i : Nat) : Int) x1.Slot x1.Kind x1.Word).Tester) (((k + 4 * i + 1) : Nat) : Int) ((D.Report.mk ((k + 4 * i : Nat) : Int) x1.Slot x1.Kind x1.Word).Kind) ((D.Report.mk ((k + 4 * i : Nat) : Int) x1.Slot x1.Kind x1.Word).Word))).set i (D.Report.mk ((D.Report.mk ((D.Report.mk ((k + 4 * i : Nat) : Int) x1.Slot x1.Kind x1.Word).Tester) (((k + 4 * i + 1) : Nat) : Int) ((D.Report.mk ((k + 4 * i : Nat) : Int) x1.Slot x1.Kind x1.Word).Kind) ((D.Report.mk ((k + 4 * i : Nat) : Int) x1.Slot x1.Kind x1.Word).Word)).Tester) ((D.Report.mk ((D.Report.mk ((k + 4 * i : Nat) : Int) x1.Slot x1.Kind x1.Word).Tester) (((k + 4 * i + 1) : Nat) : Int) ((D.Report.mk ((k + 4 * i : Nat) : Int) x1.Slot x1.Kind x1.Word).Kind) ((D.Report.mk ((k + 4 * i : Nat) : Int) x1.Slot x1.Kind x1.Word).Word)).Slot) ((((k + 4 * i + 1) + 1) : Nat) : Int) ((D.Report.mk ((D.Report.mk ((k + 4 * i : Nat) : Int) x1.Slot x1.Kind x1.Word).Tester) (((k + 4 * i + 1) : Nat) : Int) ((D.Report.mk ((k + 4 * i : Nat) : Int) x1.Slot x1.Kind x1.Word).Kind) ((D.Report.mk ((k + 4 * i : Nat) : Int) x1.Slot x1.Kind x1.Word).Word)).Word))).set i (D.Report.mk ((D.Report.mk ((D.Report.mk ((D.Report.mk ((k + 4 * i : Nat) : Int) x1.Slot x1.Kind x1.Word).Tester) (((k + 4 * i + 1) : Nat) : Int) ((D.Report.mk ((k + 4 * i : Nat) : Int) x1.Slot x1.Kind x1.Word).Kind) ((D.Report.mk ((k + 4 * i : Nat) : Int) x1.Slot x1.Kind x1.Word).Word)).Tester) ((D.Report.mk ((D.Report.mk ((k + 4 * i : Nat) : Int) x1.Slot x1.Kind x1.Word).Tester) (((k + 4 * i + 1) : Nat) : Int) ((D.Report.mk ((k + 4 * i : Nat) : Int) x1.Slot x1.Kind x1.Word).Kind) ((D.Report.mk ((k + 4 * i : Nat) : Int) x1.Slot x1.Kind x1.Word).Word)).Slot) ((((k + 4 * i + 1) + 1) : Nat) : Int) ((D.Report.mk ((D.Report.mk ((k + 4 * i : Nat) : Int) x1.Slot x1.Kind x1.Word).Tester) (((k + 4 * i + 1) : Nat) : Int) ((D.Report.mk ((k + 4 * i : Nat) : Int) x1.Slot x1.Kind x1.Word).Kind) ((D.Report.mk ((k + 4 * i : Nat) : Int) x1.Slot x1.Kind x1.Word).Word)).Word)).Tester) ((D.Report.mk ((D.Report.mk ((D.Report.mk ((k + 4 * i : Nat) : Int) x1.Slot x1.Kind x1.Word).Tester) (((k + 4 * i + 1) : Nat) : Int) ((D.Report.mk ((k + 4 * i : Nat) : Int) x1.Slot x1.Kind x1.Word).Kind) ((D.Report.mk ((k + 4 * i : Nat) : Int) x1.Slot x1.Kind x1.Word).Word)).Tester) ((D.Report.mk ((D.Report.mk ((k + 4 * i : Nat) : Int) x1.Slot x1.Kind x1.Word).Tester) (((k + 4 * i + 1) : Nat) : Int) ((D.Report.mk ((k + 4 * i : Nat) : Int) x1.Slot x1.Kind x1.Word).Kind) ((D.Report.mk ((k + 4 * i : Nat) : Int) x1.Slot x1.Kind x1.Word).Word)).Slot) ((((k + 4 * i + 1) + 1) : Nat) : Int) ((D.Report.mk ((D.Report.mk ((k + 4 * i : Nat) : Int) x1.Slot x1.Kind x1.Word).Tester) (((k + 4 * i + 1) : Nat) : Int) ((D.Report.mk ((k + 4 * i : Nat) : Int) x1.Slot x1.Kind x1.Word).Kind) ((D.Report.mk ((k + 4 * i : Nat) : Int) x1.Slot x1.Kind x1.Word).Word)).Word)).Slot) ((D.Report.mk ((D.Report.mk ((D.Report.mk ((k + 4 * i : Nat) : Int) x1.Slot x1.Kind x1.Word).Tester) (((k + 4 * i + 1) : Nat) : Int) ((D.Report.mk ((k + 4 * i : Nat) : Int) x1.Slot x1.Kind x1.Word).Kind) ((D.Report.mk ((k + 4 * i : Nat) : Int) x1.Slot x1.Kind x1.Word).Word)).Tester) ((D.Report.mk ((D.Report.mk ((k + 4 * i : Nat) : Int) x1.Slot x1.Kind x1.Word).Tester) (((k + 4 * i + 1) : Nat) : Int) ((D.Report.mk ((k + 4 * i : Nat) : Int) x1.Slot x1.Kind x1.Word).Kind) ((D.Report.mk ((k + 4 * i : Nat) : Int) x1.Slot x1.Kind x1.Word).Word)).Slot) ((((k + 4 * i + 1) + 1) : Nat) : Int) ((D.Report.mk ((D.Report.mk ((k + 4 * i : Nat) : Int) x1.Slot x1.Kind x1.Word).Tester) (((k + 4 * i + 1) : Nat) : Int) ((D.Report.mk ((k + 4 * i : Nat) : Int) x1.Slot x1.Kind x1.Word).Kind) ((D.Report.mk ((k + 4 * i : Nat) : Int) x1.Slot x1.Kind x1.Word).Word)).Word)).Kind) (mtxt (((((k + 4 * i + 1) + 1) + 1) : Nat) : Int)))) = mkI mReport 4 k a (i + 1) := by first | rfl | (refine mkI_set ?_; omega) | (simp only [List.set_set]; refine mkI_set ?_; omega) | (simp; done) | omega
    refine ⟨(i + 1 : Nat), ?_, ?_, Wk.mk (fun k => k) ?_ ?_ ?_⟩
    · first | trivial | omega | (simp; done) | exact ⟨by omega, hI'.2⟩
    · first | omega | (simp only []; omega) | (show _ < _; omega) | (simp; omega)
    · exact (ball_cons ⟨(congrArg (fun n_ => T.os 4 0 0 n_) (show ((mkI mReport 4 k a i).map (eReport true)).length = ((mkI mReport 4 k a (i + 1)).map (eReport true)).length from (by first | rfl | (rw [List.length_map, List.length_map, mkI_len hI', mkI_len hi1]) | (simp only [List.length_map]; omega) | (simp only [List.length_map, List.length_set, List.length_append, List.length_take, List.length_replicate, List.length_cons, List.length_nil]; omega)))), rfl⟩ (ball_cons ⟨(congrArg (T.int .i64) (show ((((((k + 4 * i + 1) + 1) + 1) + 1) : Nat) : Int) = ((k + 4 * (i + 1) : Nat) : Int) from (by first | rfl | omega | (simp; done) | (push_cast; omega)))), rfl⟩ (ball_cons ⟨rfl, rfl⟩ (ball_cons ⟨rfl, rfl⟩ (ball_nil)))))
    · exact (ball_cons ⟨(congrArg (fun l_ => some (Obj.rows 4 (List.map (eReport true) l_))) he2), (Nat.le_of_ble_eq_true rfl), rfl⟩ (ball_nil))
    · show List.Nodup ([0] : List Nat)
      decide
  have fhc0 : ¬ (i < (mkI mReport 4 k a i).length) := of_decide_eq_false hc0
  refine VRun.exit ?_
  refine vthn.e ?_
  refine vthn.e ?_
  refine vinB.e ?_
  refine tn ?_
  refine sr ?_
  refine mO (tN (k + 4 * i)) rfl ?_
  refine aO (tN (k + 4 * i)) rfl ?_
  refine nt ?_
  refine rt ?_
  refine vmut.r (r0 := ((k + 4 * i : Nat) : Int)) (rows := ((mkI mReport 4 k a i).map (eReport true))) rfl rfl rfl ?_ ?_ rfl
  · first | rfl | (push_cast; omega) | (have : i = a.length := (by omega); subst this; rfl)
  · show List.map _ (mkI mReport 4 k a i) = List.map _ (mkN mReport 4 k a.length)
    refine congrArg (List.map _) ?_
    exact mkI_all hI' (by omega)
theorem W_laws_heldReportS (n : Nat) (a : List D.Report) (k : Nat) (hh : a = mkN mReport 4 k a.length) (hk : k + 4 * a.length ≤ lim) : Pure (acall Try.prog (n + 2)) 38 [(rd 4 eReport a), (tN k)] (tN (k + 4 * a.length)) := by
  refine Pure.intro (rs := [ResultVar.tmp 4]) Try.func38 rfl rfl rfl (E0 := [(0, (rd 4 eReport a)), (1, (tN k))]) rfl ?_
  have hlim : lim = 1099511627776 := rfl
  have hmx : mx = 1048576 := rfl
  have hmax : maxLen = 9223372036854775807 := rfl
  refine sr ?_
  refine fO (OF.assign (VEv.int .i64 0)) ?_
  refine nt ?_
  refine sq ?_
  refine sr ?_
  refine fO (OF.assign (VEv.int .i64 0)) ?_
  refine nt ?_
  refine VRun.block ?_
  refine VRun.loop (A := Nat) (fun s_ => [(0, (rd 4 eReport a)), (1, (tN (k + 4 * s_))), (5, (tN s_))]) (fun s_ => mkO []) 0 (fun s_ => s_ ≤ a.length) (fun s_ => a.length - s_) (0 : Nat) ?_ (Wk.mk (fun k => k) ?_ ?_ ?_) ?_
  · first | trivial | (simp; done) | omega | (constructor <;> simp)
  · exact (ball_cons ⟨rfl, rfl⟩ (ball_cons ⟨(congrArg (T.int .i64) (show ((k : Nat) : Int) = ((k + 4 * 0 : Nat) : Int) from (by first | rfl | omega | (simp; done) | (push_cast; omega)))), rfl⟩ (ball_cons ⟨rfl, rfl⟩ (ball_nil))))
  · exact (ball_nil)
  · show List.Nodup ([] : List Nat)
    decide
  rintro i hI
  have hI' : i ≤ a.length := hI
  clear hI
  show VRun _ _ _ [(0, (rd 4 eReport a)), (1, (tN (k + 4 * i))), (5, (tN i))] (mkO []) 0 _
  refine sq ?_
  refine sr ?_
  refine mO (tN i) rfl ?_
  refine mO (rd 4 eReport a) rfl ?_
  refine lO (B.lenR (m := a.length) (tv (rd 4 eReport a) rfl) Try.underlying32 (List.length_map ..)) ?_
  refine fO (B.lss (c := (decide (i < a.length))) (tv (tN i) rfl) (tv (tN a.length) rfl) (by first | (exact decN (by omega)))) ?_
  refine nt ?_
  refine VRun.cond (tv (tB (decide (i < a.length))) rfl) (fun hc0 => ?_) (fun hc0 => ?_)
  · have fhc0 : i < a.length := of_decide_eq_true hc0
    refine sk ?_
    refine tn ?_
    refine sq ?_
    refine VRun.block ?_
    refine sq ?_
    refine sr ?_
    refine mO (rd 4 eReport a) rfl ?_
    refine mO (tN i) rfl ?_
    obtain ⟨x1, hx1⟩ : ∃ x, a[i]? = some x := ⟨_, List.getElem?_eq_getElem (by first | omega)⟩
    refine fO (OF.indexAddrR (row := (eReport false x1)) (i := i) (tv (rd 4 eReport a) rfl) (tv (tN i) rfl) rfl (map_at _ hx1) Try.underlying32 sz48 if48) ?_
    refine fO (B.fieldAddrR (us := (eReport false x1)) (tv (T.rp (eReport false x1)) rfl) (Nat.le_of_ble_eq_true rfl) fa48_0 rfl) ?_
    refine lO (OL.loadR1 (t := (tI x1.Tester)) (tv (T.rp (eReport false x1)) rfl) rfl st3) ?_
    refine mO (tN (k + 4 * i)) rfl ?_
    refine fO (B.neq (c := (!(decide (x1.Tester = ((k + 4 * i : Nat) : Int))))) (tv (tI x1.Tester) rfl) (tv (tN (k + 4 * i)) rfl) rfl) ?_
    refine nt ?_
    refine VRun.cond (tv (tB (!(decide (x1.Tester = ((k + 4 * i : Nat) : Int))))) rfl) (fun hc1 => ?_) (fun hc1 => ?_)
    · have fhc1 : ¬ (x1.Tester = ((k + 4 * i : Nat) : Int)) := ndT hc1
      exact absurd (congrArg (fun x => x.Tester) (mkN_at hh hx1)) fhc1
    have fhc1 : x1.Tester = ((k + 4 * i : Nat) : Int) := ndF hc1
    refine sk ?_
    refine tn ?_
    refine sr ?_
    refine mO (tN (k + 4 * i)) rfl ?_
    refine fO (B.add (n := (((k + 4 * i + 1) : Nat) : Int)) (tv (tN (k + 4 * i)) rfl) (VEv.int .i64 1) (by first | rfl | (rw [wrap64 (by omega)]; omega) | (rw [wrap64 (by omega)]; done))) ?_
    refine aO (tN (k + 4 * i + 1)) rfl ?_
    refine nt ?_
    refine sq ?_
    refine sr ?_
    refine mO (rd 4 eReport a) rfl ?_
    refine mO (tN i) rfl ?_
    refine fO (OF.indexAddrR (row := (eReport false x1)) (i := i) (tv (rd 4 eReport a) rfl) (tv (tN i) rfl) rfl (map_at _ hx1) Try.underlying32 sz48 if48) ?_
    refine fO (B.fieldAddrR (us := ((eReport false x1).drop 1)) (tv (T.rp (eReport false x1)) rfl) (Nat.le_of_ble_eq_true rfl) fa48_1 rfl) ?_
    refine lO (OL.loadR1 (t := (tI x1.Slot)) (tv (T.rp ((eReport false x1).drop 1)) rfl) rfl st3) ?_
    refine mO (tN (k + 4 * i + 1)) rfl ?_
    refine fO (B.neq (c := (!(decide (x1.Slot = (((k + 4 * i + 1) : Nat) : Int))))) (tv (tI x1.Slot) rfl) (tv (tN (k + 4 * i + 1)) rfl) rfl) ?_
    refine nt ?_
    refine VRun.cond (tv (tB (!(decide (x1.Slot = (((k + 4 * i + 1) : Nat) : Int))))) rfl) (fun hc2 => ?_) (fun hc2 => ?_)
    · have fhc2 : ¬ (x1.Slot = (((k + 4 * i + 1) : Nat) : Int)) := ndT hc2
      exact absurd (congrArg (fun x => x.Slot) (mkN_at hh hx1)) fhc2
    have fhc2 : x1.Slot = (((k + 4 * i + 1) : Nat) : Int) := ndF hc2
    refine sk ?_
    refine tn ?_
    refine sr ?_
    refine mO (tN (k + 4 * i + 1)) rfl ?_
    refine fO (B.add (n := ((((k + 4 * i + 1) + 1) : Nat) : Int)) (tv (tN (k + 4 * i + 1)) rfl) (VEv.int .i64 1) (by first | rfl | (rw [wrap64 (by omega)]; omega) | (rw [wrap64 (by omega)]; done))) ?_
    refine aO (tN ((k + 4 * i + 1) + 1)) rfl ?_
    refine nt ?_
    refine sq ?_
    refine sr ?_
    refine mO (rd 4 eReport a) rfl ?_
    refine mO (tN i) rfl ?_
    refine fO (OF.indexAddrR (row := (eReport false x1)) (i := i) (tv (rd 4 eReport a) rfl) (tv (tN i) rfl) rfl (map_at _ hx1) Try.underlying32 sz48 if48) ?_
    refine fO (B.fieldAddrR (us := ((eReport false x1).drop 2)) (tv (T.rp (eReport false x1)) rfl) (Nat.le_of_ble_eq_true rfl) fa48_2 rfl) ?_
    refine lO (OL.loadR1 (t := (tI x1.Kind)) (tv (T.rp ((eReport false x1).drop 2)) rfl) rfl st3) ?_
    refine mO (tN ((k + 4 * i + 1) + 1)) rfl ?_
    refine fO (B.neq (c := (!(decide (x1.Kind = ((((k + 4 * i + 1) + 1) : Nat) : Int))))) (tv (tI x1.Kind) rfl) (tv (tN ((k + 4 * i + 1) + 1)) rfl) rfl) ?_
    refine nt ?_
    refine VRun.cond (tv (tB (!(decide (x1.Kind = ((((k + 4 * i + 1) + 1) : Nat) : Int))))) rfl) (fun hc3 => ?_) (fun hc3 => ?_)
    · have fhc3 : ¬ (x1.Kind = ((((k + 4 * i + 1) + 1) : Nat) : Int)) := ndT hc3
      exact absurd (congrArg (fun x => x.Kind) (mkN_at hh hx1)) fhc3
    have fhc3 : x1.Kind = ((((k + 4 * i + 1) + 1) : Nat) : Int) := ndF hc3
    refine sk ?_
    refine tn ?_
    refine sr ?_
    refine mO (tN ((k + 4 * i + 1) + 1)) rfl ?_
    refine fO (B.add (n := (((((k + 4 * i + 1) + 1) + 1) : Nat) : Int)) (tv (tN ((k + 4 * i + 1) + 1)) rfl) (VEv.int .i64 1) (by first | rfl | (rw [wrap64 (by omega)]; omega) | (rw [wrap64 (by omega)]; done))) ?_
    refine aO (tN (((k + 4 * i + 1) + 1) + 1)) rfl ?_
    refine nt ?_
    refine sq ?_
    refine sq ?_
    refine VRun.draw (B := [[], [], [1, 0], [0, 1, 2], [2, 1, 0, 3], [], [5], [5, 6, 3, 0, 1, 2, 4]]) (by kernel_rfl) (by kernel_rfl) ?_
    refine mD (rd 4 eReport a) rfl rfl ?_
    refine mD (tN i) rfl rfl ?_
    refine fD (OF.indexAddrR (row := (eReport false x1)) (i := i) (tv (rd 4 eReport a) rfl) (tv (tN i) rfl) rfl (map_at _ hx1) Try.underlying32 sz48 if48) rfl rfl ?_
    refine fD (B.fieldAddrR (us := [(tS x1.Word)]) (tv (T.rp (eReport false x1)) rfl) (Nat.le_of_ble_eq_true rfl) fa48_3 rfl) rfl rfl ?_
    refine lD (OL.loadR1 (t := (tS x1.Word)) (tv (T.rp [(tS x1.Word)]) rfl) rfl st9) rfl rfl ?_
    refine mD (tN (((k + 4 * i + 1) + 1) + 1)) rfl rfl ?_
    refine VRunD.quiet (bi := [5]) rfl VWant.always rfl rfl rfl (ball_nil) (cS (vc (tv (tN (((k + 4 * i + 1) + 1) + 1)) rfl) VEvs.nil) (lp rfl (LendL.nil)) (W_laws_markText (n + 0) (((((k + 4 * i + 1) + 1) + 1) : Nat) : Int) (by first | assumption | omega)) rfl rfl) ?_
    refine fD (B.sneq (c := (!(decide (x1.Word = mtxt (((((k + 4 * i + 1) + 1) + 1) : Nat) : Int))))) (tv (tS x1.Word) rfl) (tv (tS (mtxt (((((k + 4 * i + 1) + 1) + 1) : Nat) : Int))) rfl) rfl) rfl rfl ?_
    refine VRunD.nil ?_
    refine tn ?_
    refine VRun.cond (tv (tB (!(decide (x1.Word = mtxt (((((k + 4 * i + 1) + 1) + 1) : Nat) : Int))))) rfl) (fun hc4 => ?_) (fun hc4 => ?_)
    · have fhc4 : ¬ (x1.Word = mtxt (((((k + 4 * i + 1) + 1) + 1) : Nat) : Int)) := ndT hc4
      exact absurd (congrArg (fun x => x.Word) (mkN_at hh hx1)) fhc4
    have fhc4 : x1.Word = mtxt (((((k + 4 * i + 1) + 1) + 1) : Nat) : Int) := ndF hc4
    refine sk ?_
    refine tn ?_
    refine VRun.region ?_
    refine mO (tN (((k + 4 * i + 1) + 1) + 1)) rfl ?_
    refine fO (B.add (n := ((((((k + 4 * i + 1) + 1) + 1) + 1) : Nat) : Int)) (tv (tN (((k + 4 * i + 1) + 1) + 1)) rfl) (VEv.int .i64 1) (by first | rfl | (rw [wrap64 (by omega)]; omega) | (rw [wrap64 (by omega)]; done))) ?_
    refine aO (tN ((((k + 4 * i + 1) + 1) + 1) + 1)) rfl ?_
    refine VRunO.nil ?_
    refine vinB.n ?_
    refine tn ?_
    refine VRun.region ?_
    refine mO (tN i) rfl ?_
    refine fO (B.add (n := (((i + 1) : Nat) : Int)) (tv (tN i) rfl) (VEv.int .i64 1) (by first | rfl | (rw [wrap64 (by omega)]; omega) | (rw [wrap64 (by omega)]; done))) ?_
    refine aO (tN (i + 1)) rfl ?_
    refine VRunO.nil ?_
    refine tn ?_
    refine ⟨(i + 1 : Nat), ?_, ?_, Wk.mk (fun k => k) ?_ ?_ ?_⟩
    · first | trivial | omega | (simp; done) | exact ⟨by omega, hI'.2⟩
    · first | omega | (simp only []; omega) | (show _ < _; omega) | (simp; omega)
    · exact (ball_cons ⟨rfl, rfl⟩ (ball_cons ⟨(congrArg (T.int .i64) (show ((((((k + 4 * i + 1) + 1) + 1) + 1) : Nat) : Int) = ((k + 4 * (i + 1) : Nat) : Int) from (by first | rfl | omega | (simp; done) | (push_cast; omega)))), rfl⟩ (ball_cons ⟨rfl, rfl⟩ (ball_nil))))
    · exact (ball_nil)
    · show List.Nodup ([] : List Nat)
      decide
  have fhc0 : ¬ (i < a.length) := of_decide_eq_false hc0
  refine VRun.exit ?_
  refine vthn.e ?_
  refine vthn.e ?_
  refine vinB.e ?_
  refine tn ?_
  refine sr ?_
  refine mO (tN (k + 4 * i)) rfl ?_
  refine aO (tN (k + 4 * i)) rfl ?_
  refine nt ?_
  refine rt ?_
  refine vi (n' := ((k + 4 * i : Nat) : Int)) rfl ?_
  omega
noncomputable section
def mNote (k : Nat) : D.Note := (D.Note.mk ((k : Nat) : Int) (mtxt ((k + 1 : Nat) : Int)) ((k + 2 : Nat) : Int) ((k + 3 : Nat) : Int))
end
noncomputable section
def mUsed (k : Nat) : D.Used := (D.Used.mk (mtxt ((k : Nat) : Int)) ((k + 1 : Nat) : Int))
end
end Go.Proofs.Ythdnjihmjdbdkaa.AE
