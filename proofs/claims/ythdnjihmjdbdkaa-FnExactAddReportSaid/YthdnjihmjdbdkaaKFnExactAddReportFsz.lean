/- Walks of the program's functions over trees. Conditions: as each theorem states. -/
import Derived.Test.YthdnjihmjdbdkaaVlTy
namespace Go.Proofs.Ythdnjihmjdbdkaa.AE
open Go Go.RowKit
set_option linter.unusedVariables false
set_option linter.unusedSimpArgs false
set_option maxRecDepth 20000
set_option maxHeartbeats 2000000

theorem W_laws_szReport (n : Nat) (a : D.Report) (left : Int) (h0 : 0 ≤ left) (h1 : left ≤ (mx : Int)) (hg : GReport a) : Pure (acall Try.prog (n + 1)) 33 [(T.agg (eReport false a)), (tI left)] (tI (szR (zReport a) left)) := by
  refine Pure.intro (rs := [ResultVar.tmp 4]) Try.func33 rfl rfl rfl (E0 := [(0, (T.agg (eReport false a))), (1, (tI left))]) rfl ?_
  have hlim : lim = 1099511627776 := rfl
  have hmx : mx = 1048576 := rfl
  have hmax : maxLen = 9223372036854775807 := rfl
  obtain ⟨hg0, hg1, hg2, hg3⟩ := hg
  refine sr ?_
  refine kO (B.box (ts := (eReport false a)) (tv (T.agg (eReport false a)) rfl) nofun rfl) ?_
  refine fO (OF.assign (VEv.int .i64 0)) ?_
  refine nt ?_
  refine sr ?_
  refine mO (tI left) rfl ?_
  refine fO (OF.fieldAddrO (tv (T.op 0 0) rfl) fa44_3) ?_
  refine lO (OL.loadO1 (t := (tS a.Word)) (tv (T.op 0 3) rfl) rfl rfl st9) ?_
  refine lO (B.lenS (tv (tS a.Word) rfl) Try.underlying9) ?_
  refine fO (B.sub (n := (left - ((a.Word.size : Nat) : Int))) (tv (tI left) rfl) (tv (tN a.Word.size) rfl) (by first | rfl | (rw [wrap64 (by omega)]; omega) | (rw [wrap64 (by omega)]; done))) ?_
  refine aO (tI (left - ((a.Word.size : Nat) : Int))) rfl ?_
  refine nt ?_
  refine sq ?_
  refine sr ?_
  refine mO (tI (left - ((a.Word.size : Nat) : Int))) rfl ?_
  refine fO (B.lss (c := (decide ((left - ((a.Word.size : Nat) : Int)) < 0))) (tv (tI (left - ((a.Word.size : Nat) : Int))) rfl) (VEv.int .i64 0) rfl) ?_
  refine nt ?_
  refine VRun.cond (tv (tB (decide ((left - ((a.Word.size : Nat) : Int)) < 0))) rfl) (fun hc0 => ?_) (fun hc0 => ?_)
  · have fhc0 : (left - ((a.Word.size : Nat) : Int)) < 0 := of_decide_eq_true hc0
    refine sr ?_
    refine fO (OF.assign (VEv.int .i64 (-1))) ?_
    refine nt ?_
    refine rt ?_
    refine tr ?_
    refine vi (n' := (-1)) rfl ?_
    exact szR_neg (by simp only [zReport]; omega)
  have fhc0 : ¬ ((left - ((a.Word.size : Nat) : Int)) < 0) := of_decide_eq_false hc0
  refine sk ?_
  refine tn ?_
  refine sr ?_
  refine mO (tI (left - ((a.Word.size : Nat) : Int))) rfl ?_
  refine aO (tI (left - ((a.Word.size : Nat) : Int))) rfl ?_
  refine nt ?_
  refine rt ?_
  refine vi (n' := (left - ((a.Word.size : Nat) : Int))) rfl ?_
  rw [← szR_nn (z := zReport a) (l := left) (by simp only [zReport]; omega)]
  all_goals first | rfl | (simp only [zReport]; done) | (simp only [zReport]; omega)
theorem W_laws_szReportS (n : Nat) (a : List D.Report) (left : Int) (h0 : 0 ≤ left) (h1 : left ≤ (mx : Int)) (hg : a.length ≤ maxLen ∧ ∀ x ∈ a, GReport x) : Pure (acall Try.prog (n + 2)) 20 [(rd 4 eReport a), (tI left)] (tI (szR (zL zReport a) left)) := by
  refine Pure.intro (rs := [ResultVar.tmp 4]) Try.func20 rfl rfl rfl (E0 := [(0, (rd 4 eReport a)), (1, (tI left))]) rfl ?_
  have hlim : lim = 1099511627776 := rfl
  have hmx : mx = 1048576 := rfl
  have hmax : maxLen = 9223372036854775807 := rfl
  obtain ⟨hg1, hg2⟩ := hg
  refine sr ?_
  refine fO (OF.assign (VEv.int .i64 0)) ?_
  refine nt ?_
  refine sr ?_
  refine mO (tI left) rfl ?_
  refine mO (rd 4 eReport a) rfl ?_
  refine lO (B.lenR (m := a.length) (tv (rd 4 eReport a) rfl) Try.underlying29 (List.length_map ..)) ?_
  refine fO (B.sub (n := (left - ((a.length : Nat) : Int))) (tv (tI left) rfl) (tv (tN a.length) rfl) (by first | exact hg2 _ (List.mem_of_getElem? hx1) | rfl | (rw [wrap64 (by omega)]; omega) | (rw [wrap64 (by omega)]; done))) ?_
  refine aO (tI (left - ((a.length : Nat) : Int))) rfl ?_
  refine nt ?_
  refine sq ?_
  refine sr ?_
  refine mO (tI (left - ((a.length : Nat) : Int))) rfl ?_
  refine fO (B.lss (c := (decide ((left - ((a.length : Nat) : Int)) < 0))) (tv (tI (left - ((a.length : Nat) : Int))) rfl) (VEv.int .i64 0) rfl) ?_
  refine nt ?_
  refine VRun.cond (tv (tB (decide ((left - ((a.length : Nat) : Int)) < 0))) rfl) (fun hc0 => ?_) (fun hc0 => ?_)
  · have fhc0 : (left - ((a.length : Nat) : Int)) < 0 := of_decide_eq_true hc0
    refine sr ?_
    refine fO (OF.assign (VEv.int .i64 (-1))) ?_
    refine nt ?_
    refine rt ?_
    refine tr ?_
    refine vi (n' := (-1)) rfl ?_
    exact SzI.early fhc0
  have fhc0 : ¬ ((left - ((a.length : Nat) : Int)) < 0) := of_decide_eq_false hc0
  refine sk ?_
  refine tn ?_
  refine sq ?_
  refine sr ?_
  refine fO (OF.assign (VEv.int .i64 0)) ?_
  refine nt ?_
  refine VRun.block ?_
  refine VRun.loop (A := Nat × Int) (fun s_ => [(0, (rd 4 eReport a)), (1, (tI s_.2)), (5, (tN s_.1))]) (fun s_ => mkO []) 0 (fun s_ => SzI zReport a left s_.1 s_.2) (fun s_ => a.length - s_.1) ((0, left - (a.length : Int)) : Nat × Int) ?_ (Wk.mk (fun k => k) ?_ ?_ ?_) ?_
  · exact SzI.start h1 fhc0
  · exact (ball_cons ⟨rfl, rfl⟩ (ball_cons ⟨(congrArg (T.int .i64) (show (left - ((a.length : Nat) : Int)) = (left - (a.length : Int)) from (by first | rfl | omega | (simp; done) | (push_cast; omega)))), rfl⟩ (ball_cons ⟨rfl, rfl⟩ (ball_nil))))
  · exact (ball_nil)
  · show List.Nodup ([] : List Nat)
    decide
  rintro ⟨i, r⟩ hI
  have hI' : SzI zReport a left i r := hI
  clear hI
  show VRun _ _ _ [(0, (rd 4 eReport a)), (1, (tI r)), (5, (tN i))] (mkO []) 0 _
  have hI2 := hI'.1
  have hI3 := hI'.2.1
  have hI4 := hI'.2.2.1
  refine sq ?_
  refine sr ?_
  refine mO (tN i) rfl ?_
  refine mO (rd 4 eReport a) rfl ?_
  refine lO (B.lenR (m := a.length) (tv (rd 4 eReport a) rfl) Try.underlying29 (List.length_map ..)) ?_
  refine fO (B.lss (c := (decide (i < a.length))) (tv (tN i) rfl) (tv (tN a.length) rfl) (by first | exact hg2 _ (List.mem_of_getElem? hx1) | (exact decN (by omega)))) ?_
  refine nt ?_
  refine VRun.cond (tv (tB (decide (i < a.length))) rfl) (fun hc1 => ?_) (fun hc1 => ?_)
  · have fhc1 : i < a.length := of_decide_eq_true hc1
    refine sk ?_
    refine tn ?_
    refine sq ?_
    refine VRun.block ?_
    refine sr ?_
    refine mO (rd 4 eReport a) rfl ?_
    refine mO (tN i) rfl ?_
    obtain ⟨x1, hx1⟩ : ∃ x, a[i]? = some x := ⟨_, List.getElem?_eq_getElem (by first | exact hg2 _ (List.mem_of_getElem? hx1) | omega)⟩
    refine fO (OF.indexAddrR (row := (eReport false x1)) (i := i) (tv (rd 4 eReport a) rfl) (tv (tN i) rfl) rfl (map_at _ hx1) Try.underlying29 sz44 if44) ?_
    refine lO (OL.loadRn (us := (eReport false x1)) (tv (T.rp (eReport false x1)) rfl) st44 sz44 (Nat.le_of_ble_eq_true rfl) rfl) ?_
    refine mO (tI r) rfl ?_
    refine cO (cS (vc (tv (T.agg (eReport false x1)) rfl) (vc (tv (tI r) rfl) VEvs.nil)) (LendL.cons (lg okeReport) (lp rfl (LendL.nil))) (W_laws_szReport (n + 0) x1 r (by first | exact hg2 _ (List.mem_of_getElem? hx1) | assumption | omega) (by first | exact hg2 _ (List.mem_of_getElem? hx1) | assumption | omega) (by first | exact hg2 _ (List.mem_of_getElem? hx1) | assumption | omega)) rfl rfl) ?_
    refine aO (tI (szR (zReport x1) r)) rfl ?_
    refine nt ?_
    refine sr ?_
    refine mO (tI (szR (zReport x1) r)) rfl ?_
    refine fO (B.lss (c := (decide (szR (zReport x1) r < 0))) (tv (tI (szR (zReport x1) r)) rfl) (VEv.int .i64 0) rfl) ?_
    refine nt ?_
    refine VRun.cond (tv (tB (decide (szR (zReport x1) r < 0))) rfl) (fun hc2 => ?_) (fun hc2 => ?_)
    · have fhc2 : szR (zReport x1) r < 0 := of_decide_eq_true hc2
      refine sr ?_
      refine fO (OF.assign (VEv.int .i64 (-1))) ?_
      refine nt ?_
      refine rt ?_
      refine vinB.r ?_
      refine tr ?_
      refine tr ?_
      refine vinB.r ?_
      refine tr ?_
      refine vi (n' := (-1)) rfl ?_
      exact hI'.bad hx1 fhc2
    have fhc2 : ¬ (szR (zReport x1) r < 0) := of_decide_eq_false hc2
    refine sk ?_
    refine vinB.n ?_
    refine tn ?_
    refine VRun.region ?_
    refine mO (tN i) rfl ?_
    refine fO (B.add (n := (((i + 1) : Nat) : Int)) (tv (tN i) rfl) (VEv.int .i64 1) (by first | exact hg2 _ (List.mem_of_getElem? hx1) | rfl | (rw [wrap64 (by omega)]; omega) | (rw [wrap64 (by omega)]; done))) ?_
    refine aO (tN (i + 1)) rfl ?_
    refine VRunO.nil ?_
    refine tn ?_
    refine ⟨((i + 1, szR (zReport x1) r) : Nat × Int), ?_, ?_, Wk.mk (fun k => k) ?_ ?_ ?_⟩
    · exact hI'.next hx1 fhc2
    · first | omega | (simp only []; omega) | (show _ < _; omega) | (simp; omega)
    · exact (ball_cons ⟨rfl, rfl⟩ (ball_cons ⟨rfl, rfl⟩ (ball_cons ⟨rfl, rfl⟩ (ball_nil))))
    · exact (ball_nil)
    · show List.Nodup ([] : List Nat)
      decide
  have fhc1 : ¬ (i < a.length) := of_decide_eq_false hc1
  refine VRun.exit ?_
  refine vthn.e ?_
  refine vthn.e ?_
  refine vinB.e ?_
  refine tn ?_
  refine sr ?_
  refine mO (tI r) rfl ?_
  refine aO (tI r) rfl ?_
  refine nt ?_
  refine rt ?_
  refine vi (n' := r) rfl ?_
  exact hI'.done fhc1
end Go.Proofs.Ythdnjihmjdbdkaa.AE
