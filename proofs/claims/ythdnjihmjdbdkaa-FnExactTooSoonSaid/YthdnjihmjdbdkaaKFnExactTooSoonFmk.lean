/- Walks of the program's functions over trees. Conditions: as each theorem states. -/
import Derived.Test.YthdnjihmjdbdkaaKFnExactTooSoonVmark
namespace Go.Proofs.Ythdnjihmjdbdkaa.AE
open Go Go.RowKit
set_option linter.unusedVariables false
set_option linter.unusedSimpArgs false
set_option maxRecDepth 20000
set_option maxHeartbeats 2000000

noncomputable section
def mStep (k : Nat) : D.Step := (D.Step.mk ((k : Nat) : Int) (mtxt ((k + 1 : Nat) : Int)) ((k + 2 : Nat) : Int) ((k + 3 : Nat) : Int))
end
noncomputable section
def mInt (k : Nat) : Int := ((k : Nat) : Int)
end
noncomputable section
def mReport (k : Nat) : D.Report := (D.Report.mk ((k : Nat) : Int) ((k + 1 : Nat) : Int) ((k + 2 : Nat) : Int) (mtxt ((k + 3 : Nat) : Int)))
end
noncomputable section
def mNote (k : Nat) : D.Note := (D.Note.mk ((k : Nat) : Int) (mtxt ((k + 1 : Nat) : Int)) ((k + 2 : Nat) : Int) ((k + 3 : Nat) : Int))
end
noncomputable section
def mUsed (k : Nat) : D.Used := (D.Used.mk (mtxt ((k : Nat) : Int)) ((k + 1 : Nat) : Int))
end
theorem W_laws_markUsedS (n : Nat) (a : List D.Used) (k : Nat) (hk : k + 2 * a.length ≤ lim) : Mut (acall Try.prog (n + 2)) 30 2 (a.map (eUsed true)) [(tN k)] ((k + 2 * a.length : Nat) : Int) ((mkN mUsed 2 k a.length).map (eUsed true)) := by
  refine Mut.intro (rt := 4) Try.func30 rfl rfl rfl (by kernel_rfl) (scMap (fun _ => rfl) _) (scMap (fun _ => rfl) _) (E0 := [(1, (tN k))]) rfl ?_
  have hlim : lim = 1099511627776 := rfl
  have hmx : mx = 1048576 := rfl
  have hmax : maxLen = 9223372036854775807 := rfl
  refine sr ?_
  refine fO (OF.assign (VEv.int .i64 0)) ?_
  refine nt ?_
  refine sq ?_
  refine sr ?_
  refine fO (OF.assign (VEv.int .i64 0)) ?_
  refine nt ?_
  refine VRun.block ?_
  have he1 : a = mkI mUsed 2 k a 0 := by first | rfl | (refine mkI_set ?_; omega) | (simp only [List.set_set]; refine mkI_set ?_; omega) | (simp; done) | omega
  refine VRun.loop (A := Nat) (fun s_ => [(0, (T.os 2 0 0 (((mkI mUsed 2 k a s_).map (eUsed true)).length))), (1, (tN (k + 2 * s_))), (4, (tN 0)), (5, (tN s_))]) (fun s_ => mkO [(0, (Obj.rows 2 ((mkI mUsed 2 k a s_).map (eUsed true))))]) 1 (fun s_ => s_ ≤ a.length) (fun s_ => a.length - s_) (0 : Nat) ?_ (Wk.mk (fun k => k) ?_ ?_ ?_) ?_
  · first | trivial | (simp; done) | omega | (constructor <;> simp)
  · exact (ball_cons ⟨(congrArg (fun l_ => T.os 2 0 0 (List.map (eUsed true) l_).length) he1), rfl⟩ (ball_cons ⟨(congrArg (T.int .i64) (show ((k : Nat) : Int) = ((k + 2 * 0 : Nat) : Int) from (by first | rfl | omega | (simp; done) | (push_cast; omega)))), rfl⟩ (ball_cons ⟨rfl, rfl⟩ (ball_cons ⟨rfl, rfl⟩ (ball_nil)))))
  · exact (ball_cons ⟨(congrArg (fun l_ => some (Obj.rows 2 (List.map (eUsed true) l_))) he1), (Nat.le_of_ble_eq_true rfl), rfl⟩ (ball_nil))
  · show List.Nodup ([0] : List Nat)
    decide
  rintro i hI
  have hI' : i ≤ a.length := hI
  clear hI
  show VRun _ _ _ [(0, (T.os 2 0 0 (((mkI mUsed 2 k a i).map (eUsed true)).length))), (1, (tN (k + 2 * i))), (4, (tN 0)), (5, (tN i))] (mkO [(0, (Obj.rows 2 ((mkI mUsed 2 k a i).map (eUsed true))))]) 1 _
  have hml := mkI_len (f := mUsed) (w := 2) (k := k) hI'
  refine sq ?_
  refine sr ?_
  refine mO (tN i) rfl ?_
  refine mO (T.os 2 0 0 (((mkI mUsed 2 k a i).map (eUsed true)).length)) rfl ?_
  refine lO (B.lenO (m := (mkI mUsed 2 k a i).length) (tv (T.os 2 0 0 (((mkI mUsed 2 k a i).map (eUsed true)).length)) rfl) Try.underlying25 (List.length_map ..)) ?_
  refine fO (B.lss (c := (decide (i < (mkI mUsed 2 k a i).length))) (tv (tN i) rfl) (tv (tN ((mkI mUsed 2 k a i).length)) rfl) (by first | omega | (simp only [List.length_set]; omega) | (exact decN (by omega)))) ?_
  refine nt ?_
  refine VRun.cond (tv (tB (decide (i < (mkI mUsed 2 k a i).length))) rfl) (fun hc0 => ?_) (fun hc0 => ?_)
  · have fhc0 : i < (mkI mUsed 2 k a i).length := of_decide_eq_true hc0
    refine sk ?_
    refine tn ?_
    refine sq ?_
    refine VRun.block ?_
    refine sr ?_
    refine mO (T.os 2 0 0 (((mkI mUsed 2 k a i).map (eUsed true)).length)) rfl ?_
    refine mO (tN i) rfl ?_
    refine mO (tN (k + 2 * i)) rfl ?_
    refine cO (cS (vc (tv (tN (k + 2 * i)) rfl) VEvs.nil) (lp rfl (LendL.nil)) (W_laws_markText (n + 0) ((k + 2 * i : Nat) : Int) (by first | omega | (simp only [List.length_set]; omega) | assumption | omega)) rfl rfl) ?_
    obtain ⟨x1, hx1⟩ : ∃ x, (mkI mUsed 2 k a i)[i]? = some x := ⟨_, List.getElem?_eq_getElem (by first | omega | (simp only [List.length_set]; omega) | omega)⟩
    refine fO (B.indexAddrO (i := i) (tv (T.os 2 0 0 (((mkI mUsed 2 k a i).map (eUsed true)).length)) rfl) (tv (tN i) rfl) rfl (by first | omega | (simp only [List.length_set]; omega) | omega | (simp only [List.length_map]; omega) | (simp only [List.length_map, List.length_append, List.length_cons, List.length_nil, List.length_replicate, List.length_set, List.length_drop, List.length_take, lim] at *; omega)) Try.underlying25 sz127 if127) ?_
    refine fO (OF.fieldAddrP (tv (T.orp 2 0 i 0) rfl) fa127_0) ?_
    refine cO (B.storeP (us := [(tS (mtxt ((k + 2 * i : Nat) : Int)))]) (rows' := (((mkI mUsed 2 k a i).set i (D.Used.mk (mtxt ((k + 2 * i : Nat) : Int)) x1.Issue)).map (eUsed true))) (row := (eUsed true x1)) (tv (T.orp 2 0 i 0) rfl) (tv (tS (mtxt ((k + 2 * i : Nat) : Int))) rfl) nofun rfl (map_at _ hx1) rfl (Nat.le_of_ble_eq_true rfl) if9 sz9 (ball_cons rfl (ball_nil)) (by intro r hr t ht; obtain ⟨x, _, rfl⟩ := List.mem_map.1 hr; rw [flUsed] at ht; exact isPl_flat (okeUsed.pl _ t ht)) (set_mapE rfl)) ?_
    refine nt ?_
    refine sr ?_
    refine mO (tN (k + 2 * i)) rfl ?_
    refine fO (B.add (n := (((k + 2 * i + 1) : Nat) : Int)) (tv (tN (k + 2 * i)) rfl) (VEv.int .i64 1) (by first | omega | (simp only [List.length_set]; omega) | rfl | (rw [wrap64 (by omega)]; omega) | (rw [wrap64 (by omega)]; done))) ?_
    refine aO (tN (k + 2 * i + 1)) rfl ?_
    refine nt ?_
    refine sr ?_
    refine mO (T.os 2 0 0 (((mkI mUsed 2 k a i).map (eUsed true)).length)) rfl ?_
    refine mO (tN i) rfl ?_
    refine mO (tN (k + 2 * i + 1)) rfl ?_
    refine fO (B.indexAddrO (i := i) (tv (T.os 2 0 0 (((mkI mUsed 2 k a i).map (eUsed true)).length)) rfl) (tv (tN i) rfl) rfl (by first | omega | (simp only [List.length_set]; omega) | omega | (simp only [List.length_map]; omega) | (simp only [List.length_map, List.length_append, List.length_cons, List.length_nil, List.length_replicate, List.length_set, List.length_drop, List.length_take, lim] at *; omega)) Try.underlying25 sz127 if127) ?_
    refine fO (OF.fieldAddrP (tv (T.orp 2 0 i 0) rfl) fa127_1) ?_
    refine cO (B.storeP (us := [(tN (k + 2 * i + 1))]) (rows' := ((((mkI mUsed 2 k a i).set i (D.Used.mk (mtxt ((k + 2 * i : Nat) : Int)) x1.Issue)).set i (D.Used.mk ((D.Used.mk (mtxt ((k + 2 * i : Nat) : Int)) x1.Issue).Word) (((k + 2 * i + 1) : Nat) : Int))).map (eUsed true))) (row := (eUsed true (D.Used.mk (mtxt ((k + 2 * i : Nat) : Int)) x1.Issue))) (tv (T.orp 2 0 i 1) rfl) (tv (tN (k + 2 * i + 1)) rfl) nofun rfl (map_at _ (set_at (by first | omega | (simp only [List.length_set]; omega) | omega | (simp only [List.length_map]; omega) | (simp only [List.length_map, List.length_append, List.length_cons, List.length_nil, List.length_replicate, List.length_set, List.length_drop, List.length_take, lim] at *; omega)))) rfl (Nat.le_of_ble_eq_true rfl) if3 sz3 (ball_cons rfl (ball_nil)) (by intro r hr t ht; obtain ⟨x, _, rfl⟩ := List.mem_map.1 hr; rw [flUsed] at ht; exact isPl_flat (okeUsed.pl _ t ht)) (set_mapE rfl)) ?_
    refine nt ?_
    refine VRun.region ?_
    refine mO (tN (k + 2 * i + 1)) rfl ?_
    refine fO (B.add (n := ((((k + 2 * i + 1) + 1) : Nat) : Int)) (tv (tN (k + 2 * i + 1)) rfl) (VEv.int .i64 1) (by first | omega | (simp only [List.length_set]; omega) | rfl | (rw [wrap64 (by omega)]; omega) | (rw [wrap64 (by omega)]; done))) ?_
    refine aO (tN ((k + 2 * i + 1) + 1)) rfl ?_
    refine VRunO.nil ?_
    refine vinB.n ?_
    refine tn ?_
    refine VRun.region ?_
    refine mO (tN i) rfl ?_
    refine fO (B.add (n := (((i + 1) : Nat) : Int)) (tv (tN i) rfl) (VEv.int .i64 1) (by first | omega | (simp only [List.length_set]; omega) | rfl | (rw [wrap64 (by omega)]; omega) | (rw [wrap64 (by omega)]; done))) ?_
    refine aO (tN (i + 1)) rfl ?_
    refine VRunO.nil ?_
    refine tn ?_
    have hi1 : i + 1 ≤ a.length := by omega
    have he2 : (((mkI mUsed 2 k a i).set i (D.Used.mk (mtxt ((k + 2 * i : Nat) : Int)) x1.Issue)).set i (D.Used.mk ((D.Used.mk (mtxt ((k + 2 * i : Nat) : Int)) x1.Issue).Word) (((k + 2 * i + 1) : Nat) : Int))) = mkI mUsed 2 k a (i + 1) := by first | rfl | (refine mkI_set ?_; omega) | (simp only [List.set_set]; refine mkI_set ?_; omega) | (simp; done) | omega
    refine ⟨(i + 1 : Nat), ?_, ?_, Wk.mk (fun k => k) ?_ ?_ ?_⟩
    · first | trivial | omega | (simp; done) | exact ⟨by omega, hI'.2⟩
    · first | omega | (simp only []; omega) | (show _ < _; omega) | (simp; omega)
    · exact (ball_cons ⟨(congrArg (fun n_ => T.os 2 0 0 n_) (show ((mkI mUsed 2 k a i).map (eUsed true)).length = ((mkI mUsed 2 k a (i + 1)).map (eUsed true)).length from (by first | rfl | (rw [List.length_map, List.length_map, mkI_len hI', mkI_len hi1]) | (simp only [List.length_map]; omega) | (simp only [List.length_map, List.length_set, List.length_append, List.length_take, List.length_replicate, List.length_cons, List.length_nil]; omega)))), rfl⟩ (ball_cons ⟨(congrArg (T.int .i64) (show ((((k + 2 * i + 1) + 1) : Nat) : Int) = ((k + 2 * (i + 1) : Nat) : Int) from (by first | rfl | omega | (simp; done) | (push_cast; omega)))), rfl⟩ (ball_cons ⟨rfl, rfl⟩ (ball_cons ⟨rfl, rfl⟩ (ball_nil)))))
    · exact (ball_cons ⟨(congrArg (fun l_ => some (Obj.rows 2 (List.map (eUsed true) l_))) he2), (Nat.le_of_ble_eq_true rfl), rfl⟩ (ball_nil))
    · show List.Nodup ([0] : List Nat)
      decide
  have fhc0 : ¬ (i < (mkI mUsed 2 k a i).length) := of_decide_eq_false hc0
  refine VRun.exit ?_
  refine vthn.e ?_
  refine vthn.e ?_
  refine vinB.e ?_
  refine tn ?_
  refine sr ?_
  refine mO (tN (k + 2 * i)) rfl ?_
  refine aO (tN (k + 2 * i)) rfl ?_
  refine nt ?_
  refine rt ?_
  refine vmut.r (r0 := ((k + 2 * i : Nat) : Int)) (rows := ((mkI mUsed 2 k a i).map (eUsed true))) rfl rfl rfl ?_ ?_ rfl
  · first | rfl | (push_cast; omega) | (have : i = a.length := (by omega); subst this; rfl)
  · show List.map _ (mkI mUsed 2 k a i) = List.map _ (mkN mUsed 2 k a.length)
    refine congrArg (List.map _) ?_
    exact mkI_all hI' (by omega)
end Go.Proofs.Ythdnjihmjdbdkaa.AE
