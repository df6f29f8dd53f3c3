/- Walks of the program's functions over trees. Conditions: as each theorem states. -/
import Derived.Test.YtfdefabncdddkaaVlTy
namespace Go.Proofs.Ytfdefabncdddkaa.AE
open Go Go.RowKit
set_option linter.unusedVariables false
set_option linter.unusedSimpArgs false
set_option maxRecDepth 20000
set_option maxHeartbeats 2000000

theorem W_laws_szIntS (n : Nat) (a : List Int) (left : Int) (h0 : 0 ≤ left) (h1 : left ≤ (mx : Int)) (hg : a.length ≤ maxLen) : Pure (acall Try.prog (n + 1)) 173 [(rd 1 eInt a), (tI left)] (tI (szR (zL zI a) left)) := by
  refine Pure.intro (rs := [ResultVar.tmp 4]) Try.func173 rfl rfl rfl (E0 := [(0, (rd 1 eInt a)), (1, (tI left))]) rfl ?_
  have hlim : lim = 1099511627776 := rfl
  have hmx : mx = 1048576 := rfl
  have hmax : maxLen = 9223372036854775807 := rfl
  refine sr ?_
  refine fO (OF.assign (VEv.int .i64 0)) ?_
  refine nt ?_
  refine sr ?_
  refine mO (tI left) rfl ?_
  refine mO (rd 1 eInt a) rfl ?_
  refine lO (B.lenR (m := a.length) (tv (rd 1 eInt a) rfl) Try.underlying56 (List.length_map ..)) ?_
  refine fO (B.sub (n := (left - ((a.length : Nat) : Int))) (tv (tI left) rfl) (tv (tN a.length) rfl) (by first | rfl | (rw [wrap64 (by omega)]; omega) | (rw [wrap64 (by omega)]; done))) ?_
  refine aO (tI (left - ((a.length : Nat) : Int))) rfl ?_
  refine nt ?_
  refine sq ?_
  refine sr ?_
  refine mO (tI (left - ((a.length : Nat) : Int))) rfl ?_
  refine fO (B.lss (c := (decide ((left - ((a.length : Nat) : Int)) < 0))) (tv (tI (left - ((a.length : Nat) : Int))) rfl) (VEv.int .i64 0) rfl) ?_
  refine nt ?_
  refine VRun.cond (tv (tB (decide ((left - ((a.length : Nat) : Int)) < 0))) rfl) (fun hc0 => ?_) (fun hc0 => ?_)
  · have fhc0 : (left - ((a.length : Nat) : Int)) < 0 := of_decide_eq_true hc0
    refine sr ?_
    refine fO (OF.assign (VEv.int .i64 (-1))) ?_
    refine nt ?_
    refine rt ?_
    refine tr ?_
    refine vi (n' := (-1)) rfl ?_
    exact SzI.early fhc0
  have fhc0 : ¬ ((left - ((a.length : Nat) : Int)) < 0) := of_decide_eq_false hc0
  refine sk ?_
  refine tn ?_
  refine sr ?_
  refine mO (tI (left - ((a.length : Nat) : Int))) rfl ?_
  refine aO (tI (left - ((a.length : Nat) : Int))) rfl ?_
  refine nt ?_
  refine rt ?_
  refine vi (n' := (left - ((a.length : Nat) : Int))) rfl ?_
  rw [zL_zero (z := zI) (fun _ => rfl)]; exact szR_nn fhc0
theorem W_laws_szGrid (n : Nat) (a : D.Grid) (left : Int) (h0 : 0 ≤ left) (h1 : left ≤ (mx : Int)) (hg : GGrid a) : Pure (acall Try.prog (n + 1)) 33 [(T.agg (eGrid false a)), (tI left)] (tI (szR (zGrid a) left)) := by
  refine Pure.intro (rs := [ResultVar.tmp 4]) Try.func33 rfl rfl rfl (E0 := [(0, (T.agg (eGrid false a))), (1, (tI left))]) rfl ?_
  have hlim : lim = 1099511627776 := rfl
  have hmx : mx = 1048576 := rfl
  have hmax : maxLen = 9223372036854775807 := rfl
  obtain ⟨hg0, hg1, hg2⟩ := hg
  refine sr ?_
  refine kO (B.box (ts := (eGrid false a)) (tv (T.agg (eGrid false a)) rfl) nofun rfl) ?_
  refine fO (OF.assign (VEv.int .i64 0)) ?_
  refine nt ?_
  refine sr ?_
  refine mO (tI left) rfl ?_
  refine fO (OF.fieldAddrO (tv (T.op 0 0) rfl) fa23_2) ?_
  refine lO (OL.loadO1 (t := (tS a.Cells)) (tv (T.op 0 2) rfl) rfl rfl st9) ?_
  refine lO (B.lenS (tv (tS a.Cells) rfl) Try.underlying9) ?_
  refine fO (B.sub (n := (left - ((a.Cells.size : Nat) : Int))) (tv (tI left) rfl) (tv (tN a.Cells.size) rfl) (by first | rfl | (rw [wrap64 (by omega)]; omega) | (rw [wrap64 (by omega)]; done))) ?_
  refine aO (tI (left - ((a.Cells.size : Nat) : Int))) rfl ?_
  refine nt ?_
  refine sq ?_
  refine sr ?_
  refine mO (tI (left - ((a.Cells.size : Nat) : Int))) rfl ?_
  refine fO (B.lss (c := (decide ((left - ((a.Cells.size : Nat) : Int)) < 0))) (tv (tI (left - ((a.Cells.size : Nat) : Int))) rfl) (VEv.int .i64 0) rfl) ?_
  refine nt ?_
  refine VRun.cond (tv (tB (decide ((left - ((a.Cells.size : Nat) : Int)) < 0))) rfl) (fun hc0 => ?_) (fun hc0 => ?_)
  · have fhc0 : (left - ((a.Cells.size : Nat) : Int)) < 0 := of_decide_eq_true hc0
    refine sr ?_
    refine fO (OF.assign (VEv.int .i64 (-1))) ?_
    refine nt ?_
    refine rt ?_
    refine tr ?_
    refine vi (n' := (-1)) rfl ?_
    exact szR_neg (by simp only [zGrid]; omega)
  have fhc0 : ¬ ((left - ((a.Cells.size : Nat) : Int)) < 0) := of_decide_eq_false hc0
  refine sk ?_
  refine tn ?_
  refine sr ?_
  refine mO (tI (left - ((a.Cells.size : Nat) : Int))) rfl ?_
  refine aO (tI (left - ((a.Cells.size : Nat) : Int))) rfl ?_
  refine nt ?_
  refine rt ?_
  refine vi (n' := (left - ((a.Cells.size : Nat) : Int))) rfl ?_
  rw [← szR_nn (z := zGrid a) (l := left) (by simp only [zGrid]; omega)]
  all_goals first | rfl | (simp only [zGrid]; done) | (simp only [zGrid]; omega)
theorem W_laws_szStep (n : Nat) (a : D.Step) (left : Int) (h0 : 0 ≤ left) (h1 : left ≤ (mx : Int)) (hg : GStep a) : Pure (acall Try.prog (n + 1)) 141 [(T.agg (eStep false a)), (tI left)] (tI (szR (zStep a) left)) := by
  refine Pure.intro (rs := [ResultVar.tmp 4]) Try.func141 rfl rfl rfl (E0 := [(0, (T.agg (eStep false a))), (1, (tI left))]) rfl ?_
  have hlim : lim = 1099511627776 := rfl
  have hmx : mx = 1048576 := rfl
  have hmax : maxLen = 9223372036854775807 := rfl
  obtain ⟨hg0, hg1, hg2, hg3⟩ := hg
  refine sr ?_
  refine kO (B.box (ts := (eStep false a)) (tv (T.agg (eStep false a)) rfl) nofun rfl) ?_
  refine fO (OF.assign (VEv.int .i64 0)) ?_
  refine nt ?_
  refine sr ?_
  refine mO (tI left) rfl ?_
  refine fO (OF.fieldAddrO (tv (T.op 0 0) rfl) fa182_1) ?_
  refine lO (OL.loadO1 (t := (tS a.Word)) (tv (T.op 0 1) rfl) rfl rfl st9) ?_
  refine lO (B.lenS (tv (tS a.Word) rfl) Try.underlying9) ?_
  refine fO (B.sub (n := (left - ((a.Word.size : Nat) : Int))) (tv (tI left) rfl) (tv (tN a.Word.size) rfl) (by first | rfl | (rw [wrap64 (by omega)]; omega) | (rw [wrap64 (by omega)]; done))) ?_
  refine aO (tI (left - ((a.Word.size : Nat) : Int))) rfl ?_
  refine nt ?_
  refine sq ?_
  refine sr ?_
  refine mO (tI (left - ((a.Word.size : Nat) : Int))) rfl ?_
  refine fO (B.lss (c := (decide ((left - ((a.Word.size : Nat) : Int)) < 0))) (tv (tI (left - ((a.Word.size : Nat) : Int))) rfl) (VEv.int .i64 0) rfl) ?_
  refine nt ?_
  refine VRun.cond (tv (tB (decide ((left - ((a.Word.size : Nat) : Int)) < 0))) rfl) (fun hc0 => ?_) (fun hc0 => ?_)
  · have fhc0 : (left - ((a.Word.size : Nat) : Int)) < 0 := of_decide_eq_true hc0
    refine sr ?_
    refine fO (OF.assign (VEv.int .i64 (-1))) ?_
    refine nt ?_
    refine rt ?_
    refine tr ?_
    refine vi (n' := (-1)) rfl ?_
    exact szR_neg (by simp only [zStep]; omega)
  have fhc0 : ¬ ((left - ((a.Word.size : Nat) : Int)) < 0) := of_decide_eq_false hc0
  refine sk ?_
  refine tn ?_
  refine sr ?_
  refine mO (tI (left - ((a.Word.size : Nat) : Int))) rfl ?_
  refine aO (tI (left - ((a.Word.size : Nat) : Int))) rfl ?_
  refine nt ?_
  refine rt ?_
  refine vi (n' := (left - ((a.Word.size : Nat) : Int))) rfl ?_
  rw [← szR_nn (z := zStep a) (l := left) (by simp only [zStep]; omega)]
  all_goals first | rfl | (simp only [zStep]; done) | (simp only [zStep]; omega)
theorem W_laws_szStepS (n : Nat) (a : List D.Step) (left : Int) (h0 : 0 ≤ left) (h1 : left ≤ (mx : Int)) (hg : a.length ≤ maxLen ∧ ∀ x ∈ a, GStep x) : Pure (acall Try.prog (n + 2)) 87 [(rd 4 eStep a), (tI left)] (tI (szR (zL zStep a) left)) := by
  refine Pure.intro (rs := [ResultVar.tmp 4]) Try.func87 rfl rfl rfl (E0 := [(0, (rd 4 eStep a)), (1, (tI left))]) rfl ?_
  have hlim : lim = 1099511627776 := rfl
  have hmx : mx = 1048576 := rfl
  have hmax : maxLen = 9223372036854775807 := rfl
  obtain ⟨hg1, hg2⟩ := hg
  refine sr ?_
  refine fO (OF.assign (VEv.int .i64 0)) ?_
  refine nt ?_
  refine sr ?_
  refine mO (tI left) rfl ?_
  refine mO (rd 4 eStep a) rfl ?_
  refine lO (B.lenR (m := a.length) (tv (rd 4 eStep a) rfl) Try.underlying62 (List.length_map ..)) ?_
  refine fO (B.sub (n := (left - ((a.length : Nat) : Int))) (tv (tI left) rfl) (tv (tN a.length) rfl) (by first | exact hg2 _ (List.mem_of_getElem? hx1) | rfl | (rw [wrap64 (by omega)]; omega) | (rw [wrap64 (by omega)]; done))) ?_
  refine aO (tI (left - ((a.length : Nat) : Int))) rfl ?_
  refine nt ?_
  refine sq ?_
  refine sr ?_
  refine mO (tI (left - ((a.length : Nat) : Int))) rfl ?_
  refine fO (B.lss (c := (decide ((left - ((a.length : Nat) : Int)) < 0))) (tv (tI (left - ((a.length : Nat) : Int))) rfl) (VEv.int .i64 0) rfl) ?_
  refine nt ?_
  refine VRun.cond (tv (tB (decide ((left - ((a.length : Nat) : Int)) < 0))) rfl) (fun hc0 => ?_) (fun hc0 => ?_)
  · have fhc0 : (left - ((a.length : Nat) : Int)) < 0 := of_decide_eq_true hc0
    refine sr ?_
    refine fO (OF.assign (VEv.int .i64 (-1))) ?_
    refine nt ?_
    refine rt ?_
    refine tr ?_
    refine vi (n' := (-1)) rfl ?_
    exact SzI.early fhc0
  have fhc0 : ¬ ((left - ((a.length : Nat) : Int)) < 0) := of_decide_eq_false hc0
  refine sk ?_
  refine tn ?_
  refine sq ?_
  refine sr ?_
  refine fO (OF.assign (VEv.int .i64 0)) ?_
  refine nt ?_
  refine VRun.block ?_
  refine VRun.loop (A := Nat × Int) (fun s_ => [(0, (rd 4 eStep a)), (1, (tI s_.2)), (5, (tN s_.1))]) (fun s_ => mkO []) 0 (fun s_ => SzI zStep a left s_.1 s_.2) (fun s_ => a.length - s_.1) ((0, left - (a.length : Int)) : Nat × Int) ?_ (Wk.mk (fun k => k) ?_ ?_ ?_) ?_
  · exact SzI.start h1 fhc0
  · exact (ball_cons ⟨rfl, rfl⟩ (ball_cons ⟨(congrArg (T.int .i64) (show (left - ((a.length : Nat) : Int)) = (left - (a.length : Int)) from (by first | rfl | omega | (simp; done) | (push_cast; omega)))), rfl⟩ (ball_cons ⟨rfl, rfl⟩ (ball_nil))))
  · exact (ball_nil)
  · show List.Nodup ([] : List Nat)
    decide
  rintro ⟨i, r⟩ hI
  have hI' : SzI zStep a left i r := hI
  clear hI
  show VRun _ _ _ [(0, (rd 4 eStep a)), (1, (tI r)), (5, (tN i))] (mkO []) 0 _
  have hI2 := hI'.1
  have hI3 := hI'.2.1
  have hI4 := hI'.2.2.1
  refine sq ?_
  refine sr ?_
  refine mO (tN i) rfl ?_
  refine mO (rd 4 eStep a) rfl ?_
  refine lO (B.lenR (m := a.length) (tv (rd 4 eStep a) rfl) Try.underlying62 (List.length_map ..)) ?_
  refine fO (B.lss (c := (decide (i < a.length))) (tv (tN i) rfl) (tv (tN a.length) rfl) (by first | exact hg2 _ (List.mem_of_getElem? hx1) | (exact decN (by omega)))) ?_
  refine nt ?_
  refine VRun.cond (tv (tB (decide (i < a.length))) rfl) (fun hc1 => ?_) (fun hc1 => ?_)
  · have fhc1 : i < a.length := of_decide_eq_true hc1
    refine sk ?_
    refine tn ?_
    refine sq ?_
    refine VRun.block ?_
    refine sr ?_
    refine mO (rd 4 eStep a) rfl ?_
    refine mO (tN i) rfl ?_
    obtain ⟨x1, hx1⟩ : ∃ x, a[i]? = some x := ⟨_, List.getElem?_eq_getElem (by first | exact hg2 _ (List.mem_of_getElem? hx1) | omega)⟩
    refine fO (OF.indexAddrR (row := (eStep false x1)) (i := i) (tv (rd 4 eStep a) rfl) (tv (tN i) rfl) rfl (map_at _ hx1) Try.underlying62 sz182 if182) ?_
    refine lO (OL.loadRn (us := (eStep false x1)) (tv (T.rp (eStep false x1)) rfl) st182 sz182 (Nat.le_of_ble_eq_true rfl) rfl) ?_
    refine mO (tI r) rfl ?_
    refine cO (cS (vc (tv (T.agg (eStep false x1)) rfl) (vc (tv (tI r) rfl) VEvs.nil)) (LendL.cons (lg okeStep) (lp rfl (LendL.nil))) (W_laws_szStep (n + 0) x1 r (by first | exact hg2 _ (List.mem_of_getElem? hx1) | assumption | omega) (by first | exact hg2 _ (List.mem_of_getElem? hx1) | assumption | omega) (by first | exact hg2 _ (List.mem_of_getElem? hx1) | assumption | omega)) rfl rfl) ?_
    refine aO (tI (szR (zStep x1) r)) rfl ?_
    refine nt ?_
    refine sr ?_
    refine mO (tI (szR (zStep x1) r)) rfl ?_
    refine fO (B.lss (c := (decide (szR (zStep x1) r < 0))) (tv (tI (szR (zStep x1) r)) rfl) (VEv.int .i64 0) rfl) ?_
    refine nt ?_
    refine VRun.cond (tv (tB (decide (szR (zStep x1) r < 0))) rfl) (fun hc2 => ?_) (fun hc2 => ?_)
    · have fhc2 : szR (zStep x1) r < 0 := of_decide_eq_true hc2
      refine sr ?_
      refine fO (OF.assign (VEv.int .i64 (-1))) ?_
      refine nt ?_
      refine rt ?_
      refine vinB.r ?_
      refine tr ?_
      refine tr ?_
      refine vinB.r ?_
      refine tr ?_
      refine vi (n' := (-1)) rfl ?_
      exact hI'.bad hx1 fhc2
    have fhc2 : ¬ (szR (zStep x1) r < 0) := of_decide_eq_false hc2
    refine sk ?_
    refine vinB.n ?_
    refine tn ?_
    refine VRun.region ?_
    refine mO (tN i) rfl ?_
    refine fO (B.add (n := (((i + 1) : Nat) : Int)) (tv (tN i) rfl) (VEv.int .i64 1) (by first | exact hg2 _ (List.mem_of_getElem? hx1) | rfl | (rw [wrap64 (by omega)]; omega) | (rw [wrap64 (by omega)]; done))) ?_
    refine aO (tN (i + 1)) rfl ?_
    refine VRunO.nil ?_
    refine tn ?_
    refine ⟨((i + 1, szR (zStep x1) r) : Nat × Int), ?_, ?_, Wk.mk (fun k => k) ?_ ?_ ?_⟩
    · exact hI'.next hx1 fhc2
    · first | omega | (simp only []; omega) | (show _ < _; omega) | (simp; omega)
    · exact (ball_cons ⟨rfl, rfl⟩ (ball_cons ⟨rfl, rfl⟩ (ball_cons ⟨rfl, rfl⟩ (ball_nil))))
    · exact (ball_nil)
    · show List.Nodup ([] : List Nat)
      decide
  have fhc1 : ¬ (i < a.length) := of_decide_eq_false hc1
  refine VRun.exit ?_
  refine vthn.e ?_
  refine vthn.e ?_
  refine vinB.e ?_
  refine tn ?_
  refine sr ?_
  refine mO (tI r) rfl ?_
  refine aO (tI r) rfl ?_
  refine nt ?_
  refine rt ?_
  refine vi (n' := r) rfl ?_
  exact hI'.done fhc1
theorem W_laws_szClue (n : Nat) (a : D.Clue) (left : Int) (h0 : 0 ≤ left) (h1 : left ≤ (mx : Int)) (hg : GClue a) : Pure (acall Try.prog (n + 3)) 24 [(T.agg (eClue false a)), (tI left)] (tI (szR (zClue a) left)) := by
  refine Pure.intro (rs := [ResultVar.tmp 4]) Try.func24 rfl rfl rfl (E0 := [(0, (T.agg (eClue false a))), (1, (tI left))]) rfl ?_
  have hlim : lim = 1099511627776 := rfl
  have hmx : mx = 1048576 := rfl
  have hmax : maxLen = 9223372036854775807 := rfl
  obtain ⟨hg0, hg1⟩ := hg
  refine sr ?_
  refine kO (B.box (ts := (eClue false a)) (tv (T.agg (eClue false a)) rfl) nofun rfl) ?_
  refine fO (OF.assign (VEv.int .i64 0)) ?_
  refine nt ?_
  refine sr ?_
  refine fO (OF.fieldAddrO (tv (T.op 0 0) rfl) fa64_1) ?_
  refine lO (OL.loadO1 (t := (rd 4 eStep a.Play)) (tv (T.op 0 1) rfl) rfl rfl st62) ?_
  refine mO (tI left) rfl ?_
  refine cO (cS (vc (tv (rd 4 eStep a.Play) rfl) (vc (tv (tI left) rfl) VEvs.nil)) (lp rfl (lp rfl (LendL.nil))) (W_laws_szStepS (n + 0) a.Play left (by first | assumption | omega) (by first | assumption | omega) (by first | assumption | omega)) rfl rfl) ?_
  refine aO (tI (szR (zL zStep a.Play) left)) rfl ?_
  refine nt ?_
  refine sq ?_
  refine sr ?_
  refine mO (tI (szR (zL zStep a.Play) left)) rfl ?_
  refine fO (B.lss (c := (decide (szR (zL zStep a.Play) left < 0))) (tv (tI (szR (zL zStep a.Play) left)) rfl) (VEv.int .i64 0) rfl) ?_
  refine nt ?_
  refine VRun.cond (tv (tB (decide (szR (zL zStep a.Play) left < 0))) rfl) (fun hc0 => ?_) (fun hc0 => ?_)
  · have fhc0 : szR (zL zStep a.Play) left < 0 := of_decide_eq_true hc0
    refine sr ?_
    refine fO (OF.assign (VEv.int .i64 (-1))) ?_
    refine nt ?_
    refine rt ?_
    refine tr ?_
    refine vi (n' := (-1)) rfl ?_
    exact szR_neg (by have hlt := szR_lt fhc0; simp only [zClue]; omega)
  have fhc0 : ¬ (szR (zL zStep a.Play) left < 0) := of_decide_eq_false hc0
  have hq0 := szR_pos fhc0
  refine sk ?_
  refine tn ?_
  refine sr ?_
  refine mO (tI (szR (zL zStep a.Play) left)) rfl ?_
  refine aO (tI (szR (zL zStep a.Play) left)) rfl ?_
  refine nt ?_
  refine rt ?_
  refine vi (n' := szR (zL zStep a.Play) left) rfl ?_
  rw [← szR_nn (z := zClue a) (l := left) (by simp only [zClue]; omega)]
  all_goals first | rfl | (simp only [zClue]; done) | (simp only [zClue]; omega)
theorem W_laws_szClueS (n : Nat) (a : List D.Clue) (left : Int) (h0 : 0 ≤ left) (h1 : left ≤ (mx : Int)) (hg : a.length ≤ maxLen ∧ ∀ x ∈ a, GClue x) : Pure (acall Try.prog (n + 4)) 34 [(rd 2 eClue a), (tI left)] (tI (szR (zL zClue a) left)) := by
  refine Pure.intro (rs := [ResultVar.tmp 4]) Try.func34 rfl rfl rfl (E0 := [(0, (rd 2 eClue a)), (1, (tI left))]) rfl ?_
  have hlim : lim = 1099511627776 := rfl
  have hmx : mx = 1048576 := rfl
  have hmax : maxLen = 9223372036854775807 := rfl
  obtain ⟨hg1, hg2⟩ := hg
  refine sr ?_
  refine fO (OF.assign (VEv.int .i64 0)) ?_
  refine nt ?_
  refine sr ?_
  refine mO (tI left) rfl ?_
  refine mO (rd 2 eClue a) rfl ?_
  refine lO (B.lenR (m := a.length) (tv (rd 2 eClue a) rfl) Try.underlying24 (List.length_map ..)) ?_
  refine fO (B.sub (n := (left - ((a.length : Nat) : Int))) (tv (tI left) rfl) (tv (tN a.length) rfl) (by first | exact hg2 _ (List.mem_of_getElem? hx1) | rfl | (rw [wrap64 (by omega)]; omega) | (rw [wrap64 (by omega)]; done))) ?_
  refine aO (tI (left - ((a.length : Nat) : Int))) rfl ?_
  refine nt ?_
  refine sq ?_
  refine sr ?_
  refine mO (tI (left - ((a.length : Nat) : Int))) rfl ?_
  refine fO (B.lss (c := (decide ((left - ((a.length : Nat) : Int)) < 0))) (tv (tI (left - ((a.length : Nat) : Int))) rfl) (VEv.int .i64 0) rfl) ?_
  refine nt ?_
  refine VRun.cond (tv (tB (decide ((left - ((a.length : Nat) : Int)) < 0))) rfl) (fun hc0 => ?_) (fun hc0 => ?_)
  · have fhc0 : (left - ((a.length : Nat) : Int)) < 0 := of_decide_eq_true hc0
    refine sr ?_
    refine fO (OF.assign (VEv.int .i64 (-1))) ?_
    refine nt ?_
    refine rt ?_
    refine tr ?_
    refine vi (n' := (-1)) rfl ?_
    exact SzI.early fhc0
  have fhc0 : ¬ ((left - ((a.length : Nat) : Int)) < 0) := of_decide_eq_false hc0
  refine sk ?_
  refine tn ?_
  refine sq ?_
  refine sr ?_
  refine fO (OF.assign (VEv.int .i64 0)) ?_
  refine nt ?_
  refine VRun.block ?_
  refine VRun.loop (A := Nat × Int) (fun s_ => [(0, (rd 2 eClue a)), (1, (tI s_.2)), (5, (tN s_.1))]) (fun s_ => mkO []) 0 (fun s_ => SzI zClue a left s_.1 s_.2) (fun s_ => a.length - s_.1) ((0, left - (a.length : Int)) : Nat × Int) ?_ (Wk.mk (fun k => k) ?_ ?_ ?_) ?_
  · exact SzI.start h1 fhc0
  · exact (ball_cons ⟨rfl, rfl⟩ (ball_cons ⟨(congrArg (T.int .i64) (show (left - ((a.length : Nat) : Int)) = (left - (a.length : Int)) from (by first | rfl | omega | (simp; done) | (push_cast; omega)))), rfl⟩ (ball_cons ⟨rfl, rfl⟩ (ball_nil))))
  · exact (ball_nil)
  · show List.Nodup ([] : List Nat)
    decide
  rintro ⟨i, r⟩ hI
  have hI' : SzI zClue a left i r := hI
  clear hI
  show VRun _ _ _ [(0, (rd 2 eClue a)), (1, (tI r)), (5, (tN i))] (mkO []) 0 _
  have hI2 := hI'.1
  have hI3 := hI'.2.1
  have hI4 := hI'.2.2.1
  refine sq ?_
  refine sr ?_
  refine mO (tN i) rfl ?_
  refine mO (rd 2 eClue a) rfl ?_
  refine lO (B.lenR (m := a.length) (tv (rd 2 eClue a) rfl) Try.underlying24 (List.length_map ..)) ?_
  refine fO (B.lss (c := (decide (i < a.length))) (tv (tN i) rfl) (tv (tN a.length) rfl) (by first | exact hg2 _ (List.mem_of_getElem? hx1) | (exact decN (by omega)))) ?_
  refine nt ?_
  refine VRun.cond (tv (tB (decide (i < a.length))) rfl) (fun hc1 => ?_) (fun hc1 => ?_)
  · have fhc1 : i < a.length := of_decide_eq_true hc1
    refine sk ?_
    refine tn ?_
    refine sq ?_
    refine VRun.block ?_
    refine sr ?_
    refine mO (rd 2 eClue a) rfl ?_
    refine mO (tN i) rfl ?_
    obtain ⟨x1, hx1⟩ : ∃ x, a[i]? = some x := ⟨_, List.getElem?_eq_getElem (by first | exact hg2 _ (List.mem_of_getElem? hx1) | omega)⟩
    refine fO (OF.indexAddrR (row := (eClue false x1)) (i := i) (tv (rd 2 eClue a) rfl) (tv (tN i) rfl) rfl (map_at _ hx1) Try.underlying24 sz64 if64) ?_
    refine lO (OL.loadRn (us := (eClue false x1)) (tv (T.rp (eClue false x1)) rfl) st64 sz64 (Nat.le_of_ble_eq_true rfl) rfl) ?_
    refine mO (tI r) rfl ?_
    refine cO (cS (vc (tv (T.agg (eClue false x1)) rfl) (vc (tv (tI r) rfl) VEvs.nil)) (LendL.cons (lg okeClue) (lp rfl (LendL.nil))) (W_laws_szClue (n + 0) x1 r (by first | exact hg2 _ (List.mem_of_getElem? hx1) | assumption | omega) (by first | exact hg2 _ (List.mem_of_getElem? hx1) | assumption | omega) (by first | exact hg2 _ (List.mem_of_getElem? hx1) | assumption | omega)) rfl rfl) ?_
    refine aO (tI (szR (zClue x1) r)) rfl ?_
    refine nt ?_
    refine sr ?_
    refine mO (tI (szR (zClue x1) r)) rfl ?_
    refine fO (B.lss (c := (decide (szR (zClue x1) r < 0))) (tv (tI (szR (zClue x1) r)) rfl) (VEv.int .i64 0) rfl) ?_
    refine nt ?_
    refine VRun.cond (tv (tB (decide (szR (zClue x1) r < 0))) rfl) (fun hc2 => ?_) (fun hc2 => ?_)
    · have fhc2 : szR (zClue x1) r < 0 := of_decide_eq_true hc2
      refine sr ?_
      refine fO (OF.assign (VEv.int .i64 (-1))) ?_
      refine nt ?_
      refine rt ?_
      refine vinB.r ?_
      refine tr ?_
      refine tr ?_
      refine vinB.r ?_
      refine tr ?_
      refine vi (n' := (-1)) rfl ?_
      exact hI'.bad hx1 fhc2
    have fhc2 : ¬ (szR (zClue x1) r < 0) := of_decide_eq_false hc2
    refine sk ?_
    refine vinB.n ?_
    refine tn ?_
    refine VRun.region ?_
    refine mO (tN i) rfl ?_
    refine fO (B.add (n := (((i + 1) : Nat) : Int)) (tv (tN i) rfl) (VEv.int .i64 1) (by first | exact hg2 _ (List.mem_of_getElem? hx1) | rfl | (rw [wrap64 (by omega)]; omega) | (rw [wrap64 (by omega)]; done))) ?_
    refine aO (tN (i + 1)) rfl ?_
    refine VRunO.nil ?_
    refine tn ?_
    refine ⟨((i + 1, szR (zClue x1) r) : Nat × Int), ?_, ?_, Wk.mk (fun k => k) ?_ ?_ ?_⟩
    · exact hI'.next hx1 fhc2
    · first | omega | (simp only []; omega) | (show _ < _; omega) | (simp; omega)
    · exact (ball_cons ⟨rfl, rfl⟩ (ball_cons ⟨rfl, rfl⟩ (ball_cons ⟨rfl, rfl⟩ (ball_nil))))
    · exact (ball_nil)
    · show List.Nodup ([] : List Nat)
      decide
  have fhc1 : ¬ (i < a.length) := of_decide_eq_false hc1
  refine VRun.exit ?_
  refine vthn.e ?_
  refine vthn.e ?_
  refine vinB.e ?_
  refine tn ?_
  refine sr ?_
  refine mO (tI r) rfl ?_
  refine aO (tI r) rfl ?_
  refine nt ?_
  refine rt ?_
  refine vi (n' := r) rfl ?_
  exact hI'.done fhc1
theorem W_laws_szDraft (n : Nat) (a : D.Draft) (left : Int) (h0 : 0 ≤ left) (h1 : left ≤ (mx : Int)) (hg : GDraft a) : Pure (acall Try.prog (n + 5)) 8 [(T.agg (eDraft false a)), (tI left)] (tI (szR (zDraft a) left)) := by
  refine Pure.intro (rs := [ResultVar.tmp 4]) Try.func8 rfl rfl rfl (E0 := [(0, (T.agg (eDraft false a))), (1, (tI left))]) rfl ?_
  have hlim : lim = 1099511627776 := rfl
  have hmx : mx = 1048576 := rfl
  have hmax : maxLen = 9223372036854775807 := rfl
  obtain ⟨hg0, hg1, hg2, hg3⟩ := hg
  refine sr ?_
  refine kO (B.box (ts := (eDraft false a)) (tv (T.agg (eDraft false a)) rfl) nofun rfl) ?_
  refine fO (OF.assign (VEv.int .i64 0)) ?_
  refine nt ?_
  refine sr ?_
  refine fO (OF.fieldAddrO (tv (T.op 0 0) rfl) fa26_0) ?_
  refine lO (OL.loadOn (us := (eGrid false a.Grid)) (tv (T.op 0 0) rfl) rfl st23 sz23 (Nat.le_of_ble_eq_true rfl) rfl) ?_
  refine mO (tI left) rfl ?_
  refine cO (cS (vc (tv (T.agg (eGrid false a.Grid)) rfl) (vc (tv (tI left) rfl) VEvs.nil)) (LendL.cons (lg okeGrid) (lp rfl (LendL.nil))) (W_laws_szGrid (n + 3) a.Grid left (by first | assumption | omega) (by first | assumption | omega) (by first | assumption | omega)) rfl rfl) ?_
  refine aO (tI (szR (zGrid a.Grid) left)) rfl ?_
  refine nt ?_
  refine sq ?_
  refine sr ?_
  refine mO (tI (szR (zGrid a.Grid) left)) rfl ?_
  refine fO (B.lss (c := (decide (szR (zGrid a.Grid) left < 0))) (tv (tI (szR (zGrid a.Grid) left)) rfl) (VEv.int .i64 0) rfl) ?_
  refine nt ?_
  refine VRun.cond (tv (tB (decide (szR (zGrid a.Grid) left < 0))) rfl) (fun hc0 => ?_) (fun hc0 => ?_)
  · have fhc0 : szR (zGrid a.Grid) left < 0 := of_decide_eq_true hc0
    refine sr ?_
    refine fO (OF.assign (VEv.int .i64 (-1))) ?_
    refine nt ?_
    refine rt ?_
    refine tr ?_
    refine vi (n' := (-1)) rfl ?_
    exact szR_neg (by have hlt := szR_lt fhc0; simp only [zDraft]; omega)
  have fhc0 : ¬ (szR (zGrid a.Grid) left < 0) := of_decide_eq_false hc0
  have hq0 := szR_pos fhc0
  refine sk ?_
  refine tn ?_
  refine sr ?_
  refine mO (tI (szR (zGrid a.Grid) left)) rfl ?_
  refine fO (OF.fieldAddrO (tv (T.op 0 0) rfl) fa26_1) ?_
  refine lO (OL.loadO1 (t := (tS a.Fill)) (tv (T.op 0 3) rfl) rfl rfl st9) ?_
  refine lO (B.lenS (tv (tS a.Fill) rfl) Try.underlying9) ?_
  refine fO (B.sub (n := (szR (zGrid a.Grid) left - ((a.Fill.size : Nat) : Int))) (tv (tI (szR (zGrid a.Grid) left)) rfl) (tv (tN a.Fill.size) rfl) (by first | rfl | (rw [wrap64 (by omega)]; omega) | (rw [wrap64 (by omega)]; done))) ?_
  refine aO (tI (szR (zGrid a.Grid) left - ((a.Fill.size : Nat) : Int))) rfl ?_
  refine nt ?_
  refine sq ?_
  refine sr ?_
  refine mO (tI (szR (zGrid a.Grid) left - ((a.Fill.size : Nat) : Int))) rfl ?_
  refine fO (B.lss (c := (decide ((szR (zGrid a.Grid) left - ((a.Fill.size : Nat) : Int)) < 0))) (tv (tI (szR (zGrid a.Grid) left - ((a.Fill.size : Nat) : Int))) rfl) (VEv.int .i64 0) rfl) ?_
  refine nt ?_
  refine VRun.cond (tv (tB (decide ((szR (zGrid a.Grid) left - ((a.Fill.size : Nat) : Int)) < 0))) rfl) (fun hc1 => ?_) (fun hc1 => ?_)
  · have fhc1 : (szR (zGrid a.Grid) left - ((a.Fill.size : Nat) : Int)) < 0 := of_decide_eq_true hc1
    refine sr ?_
    refine fO (OF.assign (VEv.int .i64 (-1))) ?_
    refine nt ?_
    refine rt ?_
    refine tr ?_
    refine vi (n' := (-1)) rfl ?_
    exact szR_neg (by simp only [zDraft]; omega)
  have fhc1 : ¬ ((szR (zGrid a.Grid) left - ((a.Fill.size : Nat) : Int)) < 0) := of_decide_eq_false hc1
  refine sk ?_
  refine tn ?_
  refine sr ?_
  refine fO (OF.fieldAddrO (tv (T.op 0 0) rfl) fa26_2) ?_
  refine lO (OL.loadO1 (t := (rd 2 eClue a.Clues)) (tv (T.op 0 4) rfl) rfl rfl st24) ?_
  refine mO (tI (szR (zGrid a.Grid) left - ((a.Fill.size : Nat) : Int))) rfl ?_
  refine cO (cS (vc (tv (rd 2 eClue a.Clues) rfl) (vc (tv (tI (szR (zGrid a.Grid) left - ((a.Fill.size : Nat) : Int))) rfl) VEvs.nil)) (lp rfl (lp rfl (LendL.nil))) (W_laws_szClueS (n + 0) a.Clues (szR (zGrid a.Grid) left - ((a.Fill.size : Nat) : Int)) (by first | assumption | omega) (by first | assumption | omega) (by first | assumption | omega)) rfl rfl) ?_
  refine aO (tI (szR (zL zClue a.Clues) (szR (zGrid a.Grid) left - ((a.Fill.size : Nat) : Int)))) rfl ?_
  refine nt ?_
  refine sq ?_
  refine sr ?_
  refine mO (tI (szR (zL zClue a.Clues) (szR (zGrid a.Grid) left - ((a.Fill.size : Nat) : Int)))) rfl ?_
  refine fO (B.lss (c := (decide (szR (zL zClue a.Clues) (szR (zGrid a.Grid) left - ((a.Fill.size : Nat) : Int)) < 0))) (tv (tI (szR (zL zClue a.Clues) (szR (zGrid a.Grid) left - ((a.Fill.size : Nat) : Int)))) rfl) (VEv.int .i64 0) rfl) ?_
  refine nt ?_
  refine VRun.cond (tv (tB (decide (szR (zL zClue a.Clues) (szR (zGrid a.Grid) left - ((a.Fill.size : Nat) : Int)) < 0))) rfl) (fun hc2 => ?_) (fun hc2 => ?_)
  · have fhc2 : szR (zL zClue a.Clues) (szR (zGrid a.Grid) left - ((a.Fill.size : Nat) : Int)) < 0 := of_decide_eq_true hc2
    refine sr ?_
    refine fO (OF.assign (VEv.int .i64 (-1))) ?_
    refine nt ?_
    refine rt ?_
    refine tr ?_
    refine vi (n' := (-1)) rfl ?_
    exact szR_neg (by have hlt := szR_lt fhc2; simp only [zDraft]; omega)
  have fhc2 : ¬ (szR (zL zClue a.Clues) (szR (zGrid a.Grid) left - ((a.Fill.size : Nat) : Int)) < 0) := of_decide_eq_false hc2
  have hq2 := szR_pos fhc2
  refine sk ?_
  refine tn ?_
  refine sr ?_
  refine mO (tI (szR (zL zClue a.Clues) (szR (zGrid a.Grid) left - ((a.Fill.size : Nat) : Int)))) rfl ?_
  refine aO (tI (szR (zL zClue a.Clues) (szR (zGrid a.Grid) left - ((a.Fill.size : Nat) : Int)))) rfl ?_
  refine nt ?_
  refine rt ?_
  refine vi (n' := szR (zL zClue a.Clues) (szR (zGrid a.Grid) left - ((a.Fill.size : Nat) : Int))) rfl ?_
  rw [← szR_nn (z := zDraft a) (l := left) (by simp only [zDraft]; omega)]
  all_goals first | rfl | (simp only [zDraft]; done) | (simp only [zDraft]; omega)
theorem W_laws_szListed (n : Nat) (a : D.Listed) (left : Int) (h0 : 0 ≤ left) (h1 : left ≤ (mx : Int)) (hg : GListed a) : Pure (acall Try.prog (n + 1)) 119 [(T.agg (eListed false a)), (tI left)] (tI (szR (zListed a) left)) := by
  refine Pure.intro (rs := [ResultVar.tmp 4]) Try.func119 rfl rfl rfl (E0 := [(0, (T.agg (eListed false a))), (1, (tI left))]) rfl ?_
  have hlim : lim = 1099511627776 := rfl
  have hmx : mx = 1048576 := rfl
  have hmax : maxLen = 9223372036854775807 := rfl
  obtain ⟨hg0, hg1, hg2, hg3⟩ := hg
  refine sr ?_
  refine kO (B.box (ts := (eListed false a)) (tv (T.agg (eListed false a)) rfl) nofun rfl) ?_
  refine fO (OF.assign (VEv.int .i64 0)) ?_
  refine nt ?_
  refine sr ?_
  refine mO (tI left) rfl ?_
  refine fO (OF.fieldAddrO (tv (T.op 0 0) rfl) fa153_0) ?_
  refine lO (OL.loadO1 (t := (tS a.Word)) (tv (T.op 0 0) rfl) rfl rfl st9) ?_
  refine lO (B.lenS (tv (tS a.Word) rfl) Try.underlying9) ?_
  refine fO (B.sub (n := (left - ((a.Word.size : Nat) : Int))) (tv (tI left) rfl) (tv (tN a.Word.size) rfl) (by first | rfl | (rw [wrap64 (by omega)]; omega) | (rw [wrap64 (by omega)]; done))) ?_
  refine aO (tI (left - ((a.Word.size : Nat) : Int))) rfl ?_
  refine nt ?_
  refine sq ?_
  refine sr ?_
  refine mO (tI (left - ((a.Word.size : Nat) : Int))) rfl ?_
  refine fO (B.lss (c := (decide ((left - ((a.Word.size : Nat) : Int)) < 0))) (tv (tI (left - ((a.Word.size : Nat) : Int))) rfl) (VEv.int .i64 0) rfl) ?_
  refine nt ?_
  refine VRun.cond (tv (tB (decide ((left - ((a.Word.size : Nat) : Int)) < 0))) rfl) (fun hc0 => ?_) (fun hc0 => ?_)
  · have fhc0 : (left - ((a.Word.size : Nat) : Int)) < 0 := of_decide_eq_true hc0
    refine sr ?_
    refine fO (OF.assign (VEv.int .i64 (-1))) ?_
    refine nt ?_
    refine rt ?_
    refine tr ?_
    refine vi (n' := (-1)) rfl ?_
    exact szR_neg (by simp only [zListed]; omega)
  have fhc0 : ¬ ((left - ((a.Word.size : Nat) : Int)) < 0) := of_decide_eq_false hc0
  refine sk ?_
  refine tn ?_
  refine sr ?_
  refine mO (tI (left - ((a.Word.size : Nat) : Int))) rfl ?_
  refine aO (tI (left - ((a.Word.size : Nat) : Int))) rfl ?_
  refine nt ?_
  refine rt ?_
  refine vi (n' := (left - ((a.Word.size : Nat) : Int))) rfl ?_
  rw [← szR_nn (z := zListed a) (l := left) (by simp only [zListed]; omega)]
  all_goals first | rfl | (simp only [zListed]; done) | (simp only [zListed]; omega)
theorem W_laws_szListedS (n : Nat) (a : List D.Listed) (left : Int) (h0 : 0 ≤ left) (h1 : left ≤ (mx : Int)) (hg : a.length ≤ maxLen ∧ ∀ x ∈ a, GListed x) : Pure (acall Try.prog (n + 2)) 53 [(rd 4 eListed a), (tI left)] (tI (szR (zL zListed a) left)) := by
  refine Pure.intro (rs := [ResultVar.tmp 4]) Try.func53 rfl rfl rfl (E0 := [(0, (rd 4 eListed a)), (1, (tI left))]) rfl ?_
  have hlim : lim = 1099511627776 := rfl
  have hmx : mx = 1048576 := rfl
  have hmax : maxLen = 9223372036854775807 := rfl
  obtain ⟨hg1, hg2⟩ := hg
  refine sr ?_
  refine fO (OF.assign (VEv.int .i64 0)) ?_
  refine nt ?_
  refine sr ?_
  refine mO (tI left) rfl ?_
  refine mO (rd 4 eListed a) rfl ?_
  refine lO (B.lenR (m := a.length) (tv (rd 4 eListed a) rfl) Try.underlying36 (List.length_map ..)) ?_
  refine fO (B.sub (n := (left - ((a.length : Nat) : Int))) (tv (tI left) rfl) (tv (tN a.length) rfl) (by first | exact hg2 _ (List.mem_of_getElem? hx1) | rfl | (rw [wrap64 (by omega)]; omega) | (rw [wrap64 (by omega)]; done))) ?_
  refine aO (tI (left - ((a.length : Nat) : Int))) rfl ?_
  refine nt ?_
  refine sq ?_
  refine sr ?_
  refine mO (tI (left - ((a.length : Nat) : Int))) rfl ?_
  refine fO (B.lss (c := (decide ((left - ((a.length : Nat) : Int)) < 0))) (tv (tI (left - ((a.length : Nat) : Int))) rfl) (VEv.int .i64 0) rfl) ?_
  refine nt ?_
  refine VRun.cond (tv (tB (decide ((left - ((a.length : Nat) : Int)) < 0))) rfl) (fun hc0 => ?_) (fun hc0 => ?_)
  · have fhc0 : (left - ((a.length : Nat) : Int)) < 0 := of_decide_eq_true hc0
    refine sr ?_
    refine fO (OF.assign (VEv.int .i64 (-1))) ?_
    refine nt ?_
    refine rt ?_
    refine tr ?_
    refine vi (n' := (-1)) rfl ?_
    exact SzI.early fhc0
  have fhc0 : ¬ ((left - ((a.length : Nat) : Int)) < 0) := of_decide_eq_false hc0
  refine sk ?_
  refine tn ?_
  refine sq ?_
  refine sr ?_
  refine fO (OF.assign (VEv.int .i64 0)) ?_
  refine nt ?_
  refine VRun.block ?_
  refine VRun.loop (A := Nat × Int) (fun s_ => [(0, (rd 4 eListed a)), (1, (tI s_.2)), (5, (tN s_.1))]) (fun s_ => mkO []) 0 (fun s_ => SzI zListed a left s_.1 s_.2) (fun s_ => a.length - s_.1) ((0, left - (a.length : Int)) : Nat × Int) ?_ (Wk.mk (fun k => k) ?_ ?_ ?_) ?_
  · exact SzI.start h1 fhc0
  · exact (ball_cons ⟨rfl, rfl⟩ (ball_cons ⟨(congrArg (T.int .i64) (show (left - ((a.length : Nat) : Int)) = (left - (a.length : Int)) from (by first | rfl | omega | (simp; done) | (push_cast; omega)))), rfl⟩ (ball_cons ⟨rfl, rfl⟩ (ball_nil))))
  · exact (ball_nil)
  · show List.Nodup ([] : List Nat)
    decide
  rintro ⟨i, r⟩ hI
  have hI' : SzI zListed a left i r := hI
  clear hI
  show VRun _ _ _ [(0, (rd 4 eListed a)), (1, (tI r)), (5, (tN i))] (mkO []) 0 _
  have hI2 := hI'.1
  have hI3 := hI'.2.1
  have hI4 := hI'.2.2.1
  refine sq ?_
  refine sr ?_
  refine mO (tN i) rfl ?_
  refine mO (rd 4 eListed a) rfl ?_
  refine lO (B.lenR (m := a.length) (tv (rd 4 eListed a) rfl) Try.underlying36 (List.length_map ..)) ?_
  refine fO (B.lss (c := (decide (i < a.length))) (tv (tN i) rfl) (tv (tN a.length) rfl) (by first | exact hg2 _ (List.mem_of_getElem? hx1) | (exact decN (by omega)))) ?_
  refine nt ?_
  refine VRun.cond (tv (tB (decide (i < a.length))) rfl) (fun hc1 => ?_) (fun hc1 => ?_)
  · have fhc1 : i < a.length := of_decide_eq_true hc1
    refine sk ?_
    refine tn ?_
    refine sq ?_
    refine VRun.block ?_
    refine sr ?_
    refine mO (rd 4 eListed a) rfl ?_
    refine mO (tN i) rfl ?_
    obtain ⟨x1, hx1⟩ : ∃ x, a[i]? = some x := ⟨_, List.getElem?_eq_getElem (by first | exact hg2 _ (List.mem_of_getElem? hx1) | omega)⟩
    refine fO (OF.indexAddrR (row := (eListed false x1)) (i := i) (tv (rd 4 eListed a) rfl) (tv (tN i) rfl) rfl (map_at _ hx1) Try.underlying36 sz153 if153) ?_
    refine lO (OL.loadRn (us := (eListed false x1)) (tv (T.rp (eListed false x1)) rfl) st153 sz153 (Nat.le_of_ble_eq_true rfl) rfl) ?_
    refine mO (tI r) rfl ?_
    refine cO (cS (vc (tv (T.agg (eListed false x1)) rfl) (vc (tv (tI r) rfl) VEvs.nil)) (LendL.cons (lg okeListed) (lp rfl (LendL.nil))) (W_laws_szListed (n + 0) x1 r (by first | exact hg2 _ (List.mem_of_getElem? hx1) | assumption | omega) (by first | exact hg2 _ (List.mem_of_getElem? hx1) | assumption | omega) (by first | exact hg2 _ (List.mem_of_getElem? hx1) | assumption | omega)) rfl rfl) ?_
    refine aO (tI (szR (zListed x1) r)) rfl ?_
    refine nt ?_
    refine sr ?_
    refine mO (tI (szR (zListed x1) r)) rfl ?_
    refine fO (B.lss (c := (decide (szR (zListed x1) r < 0))) (tv (tI (szR (zListed x1) r)) rfl) (VEv.int .i64 0) rfl) ?_
    refine nt ?_
    refine VRun.cond (tv (tB (decide (szR (zListed x1) r < 0))) rfl) (fun hc2 => ?_) (fun hc2 => ?_)
    · have fhc2 : szR (zListed x1) r < 0 := of_decide_eq_true hc2
      refine sr ?_
      refine fO (OF.assign (VEv.int .i64 (-1))) ?_
      refine nt ?_
      refine rt ?_
      refine vinB.r ?_
      refine tr ?_
      refine tr ?_
      refine vinB.r ?_
      refine tr ?_
      refine vi (n' := (-1)) rfl ?_
      exact hI'.bad hx1 fhc2
    have fhc2 : ¬ (szR (zListed x1) r < 0) := of_decide_eq_false hc2
    refine sk ?_
    refine vinB.n ?_
    refine tn ?_
    refine VRun.region ?_
    refine mO (tN i) rfl ?_
    refine fO (B.add (n := (((i + 1) : Nat) : Int)) (tv (tN i) rfl) (VEv.int .i64 1) (by first | exact hg2 _ (List.mem_of_getElem? hx1) | rfl | (rw [wrap64 (by omega)]; omega) | (rw [wrap64 (by omega)]; done))) ?_
    refine aO (tN (i + 1)) rfl ?_
    refine VRunO.nil ?_
    refine tn ?_
    refine ⟨((i + 1, szR (zListed x1) r) : Nat × Int), ?_, ?_, Wk.mk (fun k => k) ?_ ?_ ?_⟩
    · exact hI'.next hx1 fhc2
    · first | omega | (simp only []; omega) | (show _ < _; omega) | (simp; omega)
    · exact (ball_cons ⟨rfl, rfl⟩ (ball_cons ⟨rfl, rfl⟩ (ball_cons ⟨rfl, rfl⟩ (ball_nil))))
    · exact (ball_nil)
    · show List.Nodup ([] : List Nat)
      decide
  have fhc1 : ¬ (i < a.length) := of_decide_eq_false hc1
  refine VRun.exit ?_
  refine vthn.e ?_
  refine vthn.e ?_
  refine vinB.e ?_
  refine tn ?_
  refine sr ?_
  refine mO (tI r) rfl ?_
  refine aO (tI r) rfl ?_
  refine nt ?_
  refine rt ?_
  refine vi (n' := r) rfl ?_
  exact hI'.done fhc1
theorem W_laws_szMeaning (n : Nat) (a : D.Meaning) (left : Int) (h0 : 0 ≤ left) (h1 : left ≤ (mx : Int)) (hg : GMeaning a) : Pure (acall Try.prog (n + 1)) 120 [(T.agg (eMeaning false a)), (tI left)] (tI (szR (zMeaning a) left)) := by
  refine Pure.intro (rs := [ResultVar.tmp 4]) Try.func120 rfl rfl rfl (E0 := [(0, (T.agg (eMeaning false a))), (1, (tI left))]) rfl ?_
  have hlim : lim = 1099511627776 := rfl
  have hmx : mx = 1048576 := rfl
  have hmax : maxLen = 9223372036854775807 := rfl
  obtain ⟨hg0, hg1⟩ := hg
  refine sr ?_
  refine kO (B.box (ts := (eMeaning false a)) (tv (T.agg (eMeaning false a)) rfl) nofun rfl) ?_
  refine fO (OF.assign (VEv.int .i64 0)) ?_
  refine nt ?_
  refine sr ?_
  refine mO (tI left) rfl ?_
  refine fO (OF.fieldAddrO (tv (T.op 0 0) rfl) fa155_0) ?_
  refine lO (OL.loadO1 (t := (tS a.Word)) (tv (T.op 0 0) rfl) rfl rfl st9) ?_
  refine lO (B.lenS (tv (tS a.Word) rfl) Try.underlying9) ?_
  refine fO (B.sub (n := (left - ((a.Word.size : Nat) : Int))) (tv (tI left) rfl) (tv (tN a.Word.size) rfl) (by first | rfl | (rw [wrap64 (by omega)]; omega) | (rw [wrap64 (by omega)]; done))) ?_
  refine aO (tI (left - ((a.Word.size : Nat) : Int))) rfl ?_
  refine nt ?_
  refine sq ?_
  refine sr ?_
  refine mO (tI (left - ((a.Word.size : Nat) : Int))) rfl ?_
  refine fO (B.lss (c := (decide ((left - ((a.Word.size : Nat) : Int)) < 0))) (tv (tI (left - ((a.Word.size : Nat) : Int))) rfl) (VEv.int .i64 0) rfl) ?_
  refine nt ?_
  refine VRun.cond (tv (tB (decide ((left - ((a.Word.size : Nat) : Int)) < 0))) rfl) (fun hc0 => ?_) (fun hc0 => ?_)
  · have fhc0 : (left - ((a.Word.size : Nat) : Int)) < 0 := of_decide_eq_true hc0
    refine sr ?_
    refine fO (OF.assign (VEv.int .i64 (-1))) ?_
    refine nt ?_
    refine rt ?_
    refine tr ?_
    refine vi (n' := (-1)) rfl ?_
    exact szR_neg (by simp only [zMeaning]; omega)
  have fhc0 : ¬ ((left - ((a.Word.size : Nat) : Int)) < 0) := of_decide_eq_false hc0
  refine sk ?_
  refine tn ?_
  refine sr ?_
  refine mO (tI (left - ((a.Word.size : Nat) : Int))) rfl ?_
  refine aO (tI (left - ((a.Word.size : Nat) : Int))) rfl ?_
  refine nt ?_
  refine rt ?_
  refine vi (n' := (left - ((a.Word.size : Nat) : Int))) rfl ?_
  rw [← szR_nn (z := zMeaning a) (l := left) (by simp only [zMeaning]; omega)]
  all_goals first | rfl | (simp only [zMeaning]; done) | (simp only [zMeaning]; omega)
theorem W_laws_szMeaningS (n : Nat) (a : List D.Meaning) (left : Int) (h0 : 0 ≤ left) (h1 : left ≤ (mx : Int)) (hg : a.length ≤ maxLen ∧ ∀ x ∈ a, GMeaning x) : Pure (acall Try.prog (n + 2)) 54 [(rd 2 eMeaning a), (tI left)] (tI (szR (zL zMeaning a) left)) := by
  refine Pure.intro (rs := [ResultVar.tmp 4]) Try.func54 rfl rfl rfl (E0 := [(0, (rd 2 eMeaning a)), (1, (tI left))]) rfl ?_
  have hlim : lim = 1099511627776 := rfl
  have hmx : mx = 1048576 := rfl
  have hmax : maxLen = 9223372036854775807 := rfl
  obtain ⟨hg1, hg2⟩ := hg
  refine sr ?_
  refine fO (OF.assign (VEv.int .i64 0)) ?_
  refine nt ?_
  refine sr ?_
  refine mO (tI left) rfl ?_
  refine mO (rd 2 eMeaning a) rfl ?_
  refine lO (B.lenR (m := a.length) (tv (rd 2 eMeaning a) rfl) Try.underlying37 (List.length_map ..)) ?_
  refine fO (B.sub (n := (left - ((a.length : Nat) : Int))) (tv (tI left) rfl) (tv (tN a.length) rfl) (by first | exact hg2 _ (List.mem_of_getElem? hx1) | rfl | (rw [wrap64 (by omega)]; omega) | (rw [wrap64 (by omega)]; done))) ?_
  refine aO (tI (left - ((a.length : Nat) : Int))) rfl ?_
  refine nt ?_
  refine sq ?_
  refine sr ?_
  refine mO (tI (left - ((a.length : Nat) : Int))) rfl ?_
  refine fO (B.lss (c := (decide ((left - ((a.length : Nat) : Int)) < 0))) (tv (tI (left - ((a.length : Nat) : Int))) rfl) (VEv.int .i64 0) rfl) ?_
  refine nt ?_
  refine VRun.cond (tv (tB (decide ((left - ((a.length : Nat) : Int)) < 0))) rfl) (fun hc0 => ?_) (fun hc0 => ?_)
  · have fhc0 : (left - ((a.length : Nat) : Int)) < 0 := of_decide_eq_true hc0
    refine sr ?_
    refine fO (OF.assign (VEv.int .i64 (-1))) ?_
    refine nt ?_
    refine rt ?_
    refine tr ?_
    refine vi (n' := (-1)) rfl ?_
    exact SzI.early fhc0
  have fhc0 : ¬ ((left - ((a.length : Nat) : Int)) < 0) := of_decide_eq_false hc0
  refine sk ?_
  refine tn ?_
  refine sq ?_
  refine sr ?_
  refine fO (OF.assign (VEv.int .i64 0)) ?_
  refine nt ?_
  refine VRun.block ?_
  refine VRun.loop (A := Nat × Int) (fun s_ => [(0, (rd 2 eMeaning a)), (1, (tI s_.2)), (5, (tN s_.1))]) (fun s_ => mkO []) 0 (fun s_ => SzI zMeaning a left s_.1 s_.2) (fun s_ => a.length - s_.1) ((0, left - (a.length : Int)) : Nat × Int) ?_ (Wk.mk (fun k => k) ?_ ?_ ?_) ?_
  · exact SzI.start h1 fhc0
  · exact (ball_cons ⟨rfl, rfl⟩ (ball_cons ⟨(congrArg (T.int .i64) (show (left - ((a.length : Nat) : Int)) = (left - (a.length : Int)) from (by first | rfl | omega | (simp; done) | (push_cast; omega)))), rfl⟩ (ball_cons ⟨rfl, rfl⟩ (ball_nil))))
  · exact (ball_nil)
  · show List.Nodup ([] : List Nat)
    decide
  rintro ⟨i, r⟩ hI
  have hI' : SzI zMeaning a left i r := hI
  clear hI
  show VRun _ _ _ [(0, (rd 2 eMeaning a)), (1, (tI r)), (5, (tN i))] (mkO []) 0 _
  have hI2 := hI'.1
  have hI3 := hI'.2.1
  have hI4 := hI'.2.2.1
  refine sq ?_
  refine sr ?_
  refine mO (tN i) rfl ?_
  refine mO (rd 2 eMeaning a) rfl ?_
  refine lO (B.lenR (m := a.length) (tv (rd 2 eMeaning a) rfl) Try.underlying37 (List.length_map ..)) ?_
  refine fO (B.lss (c := (decide (i < a.length))) (tv (tN i) rfl) (tv (tN a.length) rfl) (by first | exact hg2 _ (List.mem_of_getElem? hx1) | (exact decN (by omega)))) ?_
  refine nt ?_
  refine VRun.cond (tv (tB (decide (i < a.length))) rfl) (fun hc1 => ?_) (fun hc1 => ?_)
  · have fhc1 : i < a.length := of_decide_eq_true hc1
    refine sk ?_
    refine tn ?_
    refine sq ?_
    refine VRun.block ?_
    refine sr ?_
    refine mO (rd 2 eMeaning a) rfl ?_
    refine mO (tN i) rfl ?_
    obtain ⟨x1, hx1⟩ : ∃ x, a[i]? = some x := ⟨_, List.getElem?_eq_getElem (by first | exact hg2 _ (List.mem_of_getElem? hx1) | omega)⟩
    refine fO (OF.indexAddrR (row := (eMeaning false x1)) (i := i) (tv (rd 2 eMeaning a) rfl) (tv (tN i) rfl) rfl (map_at _ hx1) Try.underlying37 sz155 if155) ?_
    refine lO (OL.loadRn (us := (eMeaning false x1)) (tv (T.rp (eMeaning false x1)) rfl) st155 sz155 (Nat.le_of_ble_eq_true rfl) rfl) ?_
    refine mO (tI r) rfl ?_
    refine cO (cS (vc (tv (T.agg (eMeaning false x1)) rfl) (vc (tv (tI r) rfl) VEvs.nil)) (LendL.cons (lg okeMeaning) (lp rfl (LendL.nil))) (W_laws_szMeaning (n + 0) x1 r (by first | exact hg2 _ (List.mem_of_getElem? hx1) | assumption | omega) (by first | exact hg2 _ (List.mem_of_getElem? hx1) | assumption | omega) (by first | exact hg2 _ (List.mem_of_getElem? hx1) | assumption | omega)) rfl rfl) ?_
    refine aO (tI (szR (zMeaning x1) r)) rfl ?_
    refine nt ?_
    refine sr ?_
    refine mO (tI (szR (zMeaning x1) r)) rfl ?_
    refine fO (B.lss (c := (decide (szR (zMeaning x1) r < 0))) (tv (tI (szR (zMeaning x1) r)) rfl) (VEv.int .i64 0) rfl) ?_
    refine nt ?_
    refine VRun.cond (tv (tB (decide (szR (zMeaning x1) r < 0))) rfl) (fun hc2 => ?_) (fun hc2 => ?_)
    · have fhc2 : szR (zMeaning x1) r < 0 := of_decide_eq_true hc2
      refine sr ?_
      refine fO (OF.assign (VEv.int .i64 (-1))) ?_
      refine nt ?_
      refine rt ?_
      refine vinB.r ?_
      refine tr ?_
      refine tr ?_
      refine vinB.r ?_
      refine tr ?_
      refine vi (n' := (-1)) rfl ?_
      exact hI'.bad hx1 fhc2
    have fhc2 : ¬ (szR (zMeaning x1) r < 0) := of_decide_eq_false hc2
    refine sk ?_
    refine vinB.n ?_
    refine tn ?_
    refine VRun.region ?_
    refine mO (tN i) rfl ?_
    refine fO (B.add (n := (((i + 1) : Nat) : Int)) (tv (tN i) rfl) (VEv.int .i64 1) (by first | exact hg2 _ (List.mem_of_getElem? hx1) | rfl | (rw [wrap64 (by omega)]; omega) | (rw [wrap64 (by omega)]; done))) ?_
    refine aO (tN (i + 1)) rfl ?_
    refine VRunO.nil ?_
    refine tn ?_
    refine ⟨((i + 1, szR (zMeaning x1) r) : Nat × Int), ?_, ?_, Wk.mk (fun k => k) ?_ ?_ ?_⟩
    · exact hI'.next hx1 fhc2
    · first | omega | (simp only []; omega) | (show _ < _; omega) | (simp; omega)
    · exact (ball_cons ⟨rfl, rfl⟩ (ball_cons ⟨rfl, rfl⟩ (ball_cons ⟨rfl, rfl⟩ (ball_nil))))
    · exact (ball_nil)
    · show List.Nodup ([] : List Nat)
      decide
  have fhc1 : ¬ (i < a.length) := of_decide_eq_false hc1
  refine VRun.exit ?_
  refine vthn.e ?_
  refine vthn.e ?_
  refine vinB.e ?_
  refine tn ?_
  refine sr ?_
  refine mO (tI r) rfl ?_
  refine aO (tI r) rfl ?_
  refine nt ?_
  refine rt ?_
  refine vi (n' := r) rfl ?_
  exact hI'.done fhc1
theorem W_laws_szPuzzle (n : Nat) (a : D.Puzzle) (left : Int) (h0 : 0 ≤ left) (h1 : left ≤ (mx : Int)) (hg : GPuzzle a) : Pure (acall Try.prog (n + 5)) 161 [(T.agg (ePuzzle false a)), (tI left)] (tI (szR (zPuzzle a) left)) := by
  refine Pure.intro (rs := [ResultVar.tmp 4]) Try.func161 rfl rfl rfl (E0 := [(0, (T.agg (ePuzzle false a))), (1, (tI left))]) rfl ?_
  have hlim : lim = 1099511627776 := rfl
  have hmx : mx = 1048576 := rfl
  have hmax : maxLen = 9223372036854775807 := rfl
  obtain ⟨hg0, hg1, hg2, hg3⟩ := hg
  refine sr ?_
  refine kO (B.box (ts := (ePuzzle false a)) (tv (T.agg (ePuzzle false a)) rfl) nofun rfl) ?_
  refine fO (OF.assign (VEv.int .i64 0)) ?_
  refine nt ?_
  refine sr ?_
  refine fO (OF.fieldAddrO (tv (T.op 0 0) rfl) fa158_0) ?_
  refine lO (OL.loadOn (us := (eGrid false a.Grid)) (tv (T.op 0 0) rfl) rfl st23 sz23 (Nat.le_of_ble_eq_true rfl) rfl) ?_
  refine mO (tI left) rfl ?_
  refine cO (cS (vc (tv (T.agg (eGrid false a.Grid)) rfl) (vc (tv (tI left) rfl) VEvs.nil)) (LendL.cons (lg okeGrid) (lp rfl (LendL.nil))) (W_laws_szGrid (n + 3) a.Grid left (by first | assumption | omega) (by first | assumption | omega) (by first | assumption | omega)) rfl rfl) ?_
  refine aO (tI (szR (zGrid a.Grid) left)) rfl ?_
  refine nt ?_
  refine sq ?_
  refine sr ?_
  refine mO (tI (szR (zGrid a.Grid) left)) rfl ?_
  refine fO (B.lss (c := (decide (szR (zGrid a.Grid) left < 0))) (tv (tI (szR (zGrid a.Grid) left)) rfl) (VEv.int .i64 0) rfl) ?_
  refine nt ?_
  refine VRun.cond (tv (tB (decide (szR (zGrid a.Grid) left < 0))) rfl) (fun hc0 => ?_) (fun hc0 => ?_)
  · have fhc0 : szR (zGrid a.Grid) left < 0 := of_decide_eq_true hc0
    refine sr ?_
    refine fO (OF.assign (VEv.int .i64 (-1))) ?_
    refine nt ?_
    refine rt ?_
    refine tr ?_
    refine vi (n' := (-1)) rfl ?_
    exact szR_neg (by have hlt := szR_lt fhc0; simp only [zPuzzle]; omega)
  have fhc0 : ¬ (szR (zGrid a.Grid) left < 0) := of_decide_eq_false hc0
  have hq0 := szR_pos fhc0
  refine sk ?_
  refine tn ?_
  refine sr ?_
  refine fO (OF.fieldAddrO (tv (T.op 0 0) rfl) fa158_1) ?_
  refine lO (OL.loadO1 (t := (rd 2 eClue a.Clues)) (tv (T.op 0 3) rfl) rfl rfl st24) ?_
  refine mO (tI (szR (zGrid a.Grid) left)) rfl ?_
  refine cO (cS (vc (tv (rd 2 eClue a.Clues) rfl) (vc (tv (tI (szR (zGrid a.Grid) left)) rfl) VEvs.nil)) (lp rfl (lp rfl (LendL.nil))) (W_laws_szClueS (n + 0) a.Clues (szR (zGrid a.Grid) left) (by first | assumption | omega) (by first | assumption | omega) (by first | assumption | omega)) rfl rfl) ?_
  refine aO (tI (szR (zL zClue a.Clues) (szR (zGrid a.Grid) left))) rfl ?_
  refine nt ?_
  refine sq ?_
  refine sr ?_
  refine mO (tI (szR (zL zClue a.Clues) (szR (zGrid a.Grid) left))) rfl ?_
  refine fO (B.lss (c := (decide (szR (zL zClue a.Clues) (szR (zGrid a.Grid) left) < 0))) (tv (tI (szR (zL zClue a.Clues) (szR (zGrid a.Grid) left))) rfl) (VEv.int .i64 0) rfl) ?_
  refine nt ?_
  refine VRun.cond (tv (tB (decide (szR (zL zClue a.Clues) (szR (zGrid a.Grid) left) < 0))) rfl) (fun hc1 => ?_) (fun hc1 => ?_)
  · have fhc1 : szR (zL zClue a.Clues) (szR (zGrid a.Grid) left) < 0 := of_decide_eq_true hc1
    refine sr ?_
    refine fO (OF.assign (VEv.int .i64 (-1))) ?_
    refine nt ?_
    refine rt ?_
    refine tr ?_
    refine vi (n' := (-1)) rfl ?_
    exact szR_neg (by have hlt := szR_lt fhc1; simp only [zPuzzle]; omega)
  have fhc1 : ¬ (szR (zL zClue a.Clues) (szR (zGrid a.Grid) left) < 0) := of_decide_eq_false hc1
  have hq1 := szR_pos fhc1
  refine sk ?_
  refine tn ?_
  refine sr ?_
  refine fO (OF.fieldAddrO (tv (T.op 0 0) rfl) fa158_2) ?_
  refine lO (OL.loadO1 (t := (rd 1 eInt a.Seals)) (tv (T.op 0 4) rfl) rfl rfl st56) ?_
  refine mO (tI (szR (zL zClue a.Clues) (szR (zGrid a.Grid) left))) rfl ?_
  refine cO (cS (vc (tv (rd 1 eInt a.Seals) rfl) (vc (tv (tI (szR (zL zClue a.Clues) (szR (zGrid a.Grid) left))) rfl) VEvs.nil)) (lp rfl (lp rfl (LendL.nil))) (W_laws_szIntS (n + 3) a.Seals (szR (zL zClue a.Clues) (szR (zGrid a.Grid) left)) (by first | assumption | omega) (by first | assumption | omega) (by first | assumption | omega)) rfl rfl) ?_
  refine aO (tI (szR (zL zI a.Seals) (szR (zL zClue a.Clues) (szR (zGrid a.Grid) left)))) rfl ?_
  refine nt ?_
  refine sq ?_
  refine sr ?_
  refine mO (tI (szR (zL zI a.Seals) (szR (zL zClue a.Clues) (szR (zGrid a.Grid) left)))) rfl ?_
  refine fO (B.lss (c := (decide (szR (zL zI a.Seals) (szR (zL zClue a.Clues) (szR (zGrid a.Grid) left)) < 0))) (tv (tI (szR (zL zI a.Seals) (szR (zL zClue a.Clues) (szR (zGrid a.Grid) left)))) rfl) (VEv.int .i64 0) rfl) ?_
  refine nt ?_
  refine VRun.cond (tv (tB (decide (szR (zL zI a.Seals) (szR (zL zClue a.Clues) (szR (zGrid a.Grid) left)) < 0))) rfl) (fun hc2 => ?_) (fun hc2 => ?_)
  · have fhc2 : szR (zL zI a.Seals) (szR (zL zClue a.Clues) (szR (zGrid a.Grid) left)) < 0 := of_decide_eq_true hc2
    refine sr ?_
    refine fO (OF.assign (VEv.int .i64 (-1))) ?_
    refine nt ?_
    refine rt ?_
    refine tr ?_
    refine vi (n' := (-1)) rfl ?_
    exact szR_neg (by have hlt := szR_lt fhc2; simp only [zPuzzle]; omega)
  have fhc2 : ¬ (szR (zL zI a.Seals) (szR (zL zClue a.Clues) (szR (zGrid a.Grid) left)) < 0) := of_decide_eq_false hc2
  have hq2 := szR_pos fhc2
  refine sk ?_
  refine tn ?_
  refine sr ?_
  refine mO (tI (szR (zL zI a.Seals) (szR (zL zClue a.Clues) (szR (zGrid a.Grid) left)))) rfl ?_
  refine aO (tI (szR (zL zI a.Seals) (szR (zL zClue a.Clues) (szR (zGrid a.Grid) left)))) rfl ?_
  refine nt ?_
  refine rt ?_
  refine vi (n' := szR (zL zI a.Seals) (szR (zL zClue a.Clues) (szR (zGrid a.Grid) left))) rfl ?_
  rw [← szR_nn (z := zPuzzle a) (l := left) (by simp only [zPuzzle]; omega)]
  all_goals first | rfl | (simp only [zPuzzle]; done) | (simp only [zPuzzle]; omega)
theorem W_laws_szIssue (n : Nat) (a : D.Issue) (left : Int) (h0 : 0 ≤ left) (h1 : left ≤ (mx : Int)) (hg : GIssue a) : Pure (acall Try.prog (n + 6)) 121 [(T.agg (eIssue false a)), (tI left)] (tI (szR (zIssue a) left)) := by
  refine Pure.intro (rs := [ResultVar.tmp 4]) Try.func121 rfl rfl rfl (E0 := [(0, (T.agg (eIssue false a))), (1, (tI left))]) rfl ?_
  have hlim : lim = 1099511627776 := rfl
  have hmx : mx = 1048576 := rfl
  have hmax : maxLen = 9223372036854775807 := rfl
  obtain ⟨hg0, hg1, hg2, hg3, hg4⟩ := hg
  refine sr ?_
  refine kO (B.box (ts := (eIssue false a)) (tv (T.agg (eIssue false a)) rfl) nofun rfl) ?_
  refine fO (OF.assign (VEv.int .i64 0)) ?_
  refine nt ?_
  refine sr ?_
  refine fO (OF.fieldAddrO (tv (T.op 0 0) rfl) fa160_1) ?_
  refine lO (OL.loadOn (us := (ePuzzle false a.Puzzle)) (tv (T.op 0 1) rfl) rfl st158 sz158 (Nat.le_of_ble_eq_true rfl) rfl) ?_
  refine mO (tI left) rfl ?_
  refine cO (cS (vc (tv (T.agg (ePuzzle false a.Puzzle)) rfl) (vc (tv (tI left) rfl) VEvs.nil)) (LendL.cons (lg okePuzzle) (lp rfl (LendL.nil))) (W_laws_szPuzzle (n + 0) a.Puzzle left (by first | assumption | omega) (by first | assumption | omega) (by first | assumption | omega)) rfl rfl) ?_
  refine aO (tI (szR (zPuzzle a.Puzzle) left)) rfl ?_
  refine nt ?_
  refine sq ?_
  refine sr ?_
  refine mO (tI (szR (zPuzzle a.Puzzle) left)) rfl ?_
  refine fO (B.lss (c := (decide (szR (zPuzzle a.Puzzle) left < 0))) (tv (tI (szR (zPuzzle a.Puzzle) left)) rfl) (VEv.int .i64 0) rfl) ?_
  refine nt ?_
  refine VRun.cond (tv (tB (decide (szR (zPuzzle a.Puzzle) left < 0))) rfl) (fun hc0 => ?_) (fun hc0 => ?_)
  · have fhc0 : szR (zPuzzle a.Puzzle) left < 0 := of_decide_eq_true hc0
    refine sr ?_
    refine fO (OF.assign (VEv.int .i64 (-1))) ?_
    refine nt ?_
    refine rt ?_
    refine tr ?_
    refine vi (n' := (-1)) rfl ?_
    exact szR_neg (by have hlt := szR_lt fhc0; simp only [zIssue]; omega)
  have fhc0 : ¬ (szR (zPuzzle a.Puzzle) left < 0) := of_decide_eq_false hc0
  have hq0 := szR_pos fhc0
  refine sk ?_
  refine tn ?_
  refine sr ?_
  refine mO (tI (szR (zPuzzle a.Puzzle) left)) rfl ?_
  refine fO (OF.fieldAddrO (tv (T.op 0 0) rfl) fa160_2) ?_
  refine lO (OL.loadO1 (t := (tS a.Fill)) (tv (T.op 0 7) rfl) rfl rfl st9) ?_
  refine lO (B.lenS (tv (tS a.Fill) rfl) Try.underlying9) ?_
  refine fO (B.sub (n := (szR (zPuzzle a.Puzzle) left - ((a.Fill.size : Nat) : Int))) (tv (tI (szR (zPuzzle a.Puzzle) left)) rfl) (tv (tN a.Fill.size) rfl) (by first | rfl | (rw [wrap64 (by omega)]; omega) | (rw [wrap64 (by omega)]; done))) ?_
  refine aO (tI (szR (zPuzzle a.Puzzle) left - ((a.Fill.size : Nat) : Int))) rfl ?_
  refine nt ?_
  refine sq ?_
  refine sr ?_
  refine mO (tI (szR (zPuzzle a.Puzzle) left - ((a.Fill.size : Nat) : Int))) rfl ?_
  refine fO (B.lss (c := (decide ((szR (zPuzzle a.Puzzle) left - ((a.Fill.size : Nat) : Int)) < 0))) (tv (tI (szR (zPuzzle a.Puzzle) left - ((a.Fill.size : Nat) : Int))) rfl) (VEv.int .i64 0) rfl) ?_
  refine nt ?_
  refine VRun.cond (tv (tB (decide ((szR (zPuzzle a.Puzzle) left - ((a.Fill.size : Nat) : Int)) < 0))) rfl) (fun hc1 => ?_) (fun hc1 => ?_)
  · have fhc1 : (szR (zPuzzle a.Puzzle) left - ((a.Fill.size : Nat) : Int)) < 0 := of_decide_eq_true hc1
    refine sr ?_
    refine fO (OF.assign (VEv.int .i64 (-1))) ?_
    refine nt ?_
    refine rt ?_
    refine tr ?_
    refine vi (n' := (-1)) rfl ?_
    exact szR_neg (by simp only [zIssue]; omega)
  have fhc1 : ¬ ((szR (zPuzzle a.Puzzle) left - ((a.Fill.size : Nat) : Int)) < 0) := of_decide_eq_false hc1
  refine sk ?_
  refine tn ?_
  refine sr ?_
  refine mO (tI (szR (zPuzzle a.Puzzle) left - ((a.Fill.size : Nat) : Int))) rfl ?_
  refine aO (tI (szR (zPuzzle a.Puzzle) left - ((a.Fill.size : Nat) : Int))) rfl ?_
  refine nt ?_
  refine rt ?_
  refine vi (n' := (szR (zPuzzle a.Puzzle) left - ((a.Fill.size : Nat) : Int))) rfl ?_
  rw [← szR_nn (z := zIssue a) (l := left) (by simp only [zIssue]; omega)]
  all_goals first | rfl | (simp only [zIssue]; done) | (simp only [zIssue]; omega)
theorem W_laws_szIssueS (n : Nat) (a : List D.Issue) (left : Int) (h0 : 0 ≤ left) (h1 : left ≤ (mx : Int)) (hg : a.length ≤ maxLen ∧ ∀ x ∈ a, GIssue x) : Pure (acall Try.prog (n + 7)) 55 [(rd 10 eIssue a), (tI left)] (tI (szR (zL zIssue a) left)) := by
  refine Pure.intro (rs := [ResultVar.tmp 4]) Try.func55 rfl rfl rfl (E0 := [(0, (rd 10 eIssue a)), (1, (tI left))]) rfl ?_
  have hlim : lim = 1099511627776 := rfl
  have hmx : mx = 1048576 := rfl
  have hmax : maxLen = 9223372036854775807 := rfl
  obtain ⟨hg1, hg2⟩ := hg
  refine sr ?_
  refine fO (OF.assign (VEv.int .i64 0)) ?_
  refine nt ?_
  refine sr ?_
  refine mO (tI left) rfl ?_
  refine mO (rd 10 eIssue a) rfl ?_
  refine lO (B.lenR (m := a.length) (tv (rd 10 eIssue a) rfl) Try.underlying38 (List.length_map ..)) ?_
  refine fO (B.sub (n := (left - ((a.length : Nat) : Int))) (tv (tI left) rfl) (tv (tN a.length) rfl) (by first | exact hg2 _ (List.mem_of_getElem? hx1) | rfl | (rw [wrap64 (by omega)]; omega) | (rw [wrap64 (by omega)]; done))) ?_
  refine aO (tI (left - ((a.length : Nat) : Int))) rfl ?_
  refine nt ?_
  refine sq ?_
  refine sr ?_
  refine mO (tI (left - ((a.length : Nat) : Int))) rfl ?_
  refine fO (B.lss (c := (decide ((left - ((a.length : Nat) : Int)) < 0))) (tv (tI (left - ((a.length : Nat) : Int))) rfl) (VEv.int .i64 0) rfl) ?_
  refine nt ?_
  refine VRun.cond (tv (tB (decide ((left - ((a.length : Nat) : Int)) < 0))) rfl) (fun hc0 => ?_) (fun hc0 => ?_)
  · have fhc0 : (left - ((a.length : Nat) : Int)) < 0 := of_decide_eq_true hc0
    refine sr ?_
    refine fO (OF.assign (VEv.int .i64 (-1))) ?_
    refine nt ?_
    refine rt ?_
    refine tr ?_
    refine vi (n' := (-1)) rfl ?_
    exact SzI.early fhc0
  have fhc0 : ¬ ((left - ((a.length : Nat) : Int)) < 0) := of_decide_eq_false hc0
  refine sk ?_
  refine tn ?_
  refine sq ?_
  refine sr ?_
  refine fO (OF.assign (VEv.int .i64 0)) ?_
  refine nt ?_
  refine VRun.block ?_
  refine VRun.loop (A := Nat × Int) (fun s_ => [(0, (rd 10 eIssue a)), (1, (tI s_.2)), (5, (tN s_.1))]) (fun s_ => mkO []) 0 (fun s_ => SzI zIssue a left s_.1 s_.2) (fun s_ => a.length - s_.1) ((0, left - (a.length : Int)) : Nat × Int) ?_ (Wk.mk (fun k => k) ?_ ?_ ?_) ?_
  · exact SzI.start h1 fhc0
  · exact (ball_cons ⟨rfl, rfl⟩ (ball_cons ⟨(congrArg (T.int .i64) (show (left - ((a.length : Nat) : Int)) = (left - (a.length : Int)) from (by first | rfl | omega | (simp; done) | (push_cast; omega)))), rfl⟩ (ball_cons ⟨rfl, rfl⟩ (ball_nil))))
  · exact (ball_nil)
  · show List.Nodup ([] : List Nat)
    decide
  rintro ⟨i, r⟩ hI
  have hI' : SzI zIssue a left i r := hI
  clear hI
  show VRun _ _ _ [(0, (rd 10 eIssue a)), (1, (tI r)), (5, (tN i))] (mkO []) 0 _
  have hI2 := hI'.1
  have hI3 := hI'.2.1
  have hI4 := hI'.2.2.1
  refine sq ?_
  refine sr ?_
  refine mO (tN i) rfl ?_
  refine mO (rd 10 eIssue a) rfl ?_
  refine lO (B.lenR (m := a.length) (tv (rd 10 eIssue a) rfl) Try.underlying38 (List.length_map ..)) ?_
  refine fO (B.lss (c := (decide (i < a.length))) (tv (tN i) rfl) (tv (tN a.length) rfl) (by first | exact hg2 _ (List.mem_of_getElem? hx1) | (exact decN (by omega)))) ?_
  refine nt ?_
  refine VRun.cond (tv (tB (decide (i < a.length))) rfl) (fun hc1 => ?_) (fun hc1 => ?_)
  · have fhc1 : i < a.length := of_decide_eq_true hc1
    refine sk ?_
    refine tn ?_
    refine sq ?_
    refine VRun.block ?_
    refine sr ?_
    refine mO (rd 10 eIssue a) rfl ?_
    refine mO (tN i) rfl ?_
    obtain ⟨x1, hx1⟩ : ∃ x, a[i]? = some x := ⟨_, List.getElem?_eq_getElem (by first | exact hg2 _ (List.mem_of_getElem? hx1) | omega)⟩
    refine fO (OF.indexAddrR (row := (eIssue false x1)) (i := i) (tv (rd 10 eIssue a) rfl) (tv (tN i) rfl) rfl (map_at _ hx1) Try.underlying38 sz160 if160) ?_
    refine lO (OL.loadRn (us := (eIssue false x1)) (tv (T.rp (eIssue false x1)) rfl) st160 sz160 (Nat.le_of_ble_eq_true rfl) rfl) ?_
    refine mO (tI r) rfl ?_
    refine cO (cS (vc (tv (T.agg (eIssue false x1)) rfl) (vc (tv (tI r) rfl) VEvs.nil)) (LendL.cons (lg okeIssue) (lp rfl (LendL.nil))) (W_laws_szIssue (n + 0) x1 r (by first | exact hg2 _ (List.mem_of_getElem? hx1) | assumption | omega) (by first | exact hg2 _ (List.mem_of_getElem? hx1) | assumption | omega) (by first | exact hg2 _ (List.mem_of_getElem? hx1) | assumption | omega)) rfl rfl) ?_
    refine aO (tI (szR (zIssue x1) r)) rfl ?_
    refine nt ?_
    refine sr ?_
    refine mO (tI (szR (zIssue x1) r)) rfl ?_
    refine fO (B.lss (c := (decide (szR (zIssue x1) r < 0))) (tv (tI (szR (zIssue x1) r)) rfl) (VEv.int .i64 0) rfl) ?_
    refine nt ?_
    refine VRun.cond (tv (tB (decide (szR (zIssue x1) r < 0))) rfl) (fun hc2 => ?_) (fun hc2 => ?_)
    · have fhc2 : szR (zIssue x1) r < 0 := of_decide_eq_true hc2
      refine sr ?_
      refine fO (OF.assign (VEv.int .i64 (-1))) ?_
      refine nt ?_
      refine rt ?_
      refine vinB.r ?_
      refine tr ?_
      refine tr ?_
      refine vinB.r ?_
      refine tr ?_
      refine vi (n' := (-1)) rfl ?_
      exact hI'.bad hx1 fhc2
    have fhc2 : ¬ (szR (zIssue x1) r < 0) := of_decide_eq_false hc2
    refine sk ?_
    refine vinB.n ?_
    refine tn ?_
    refine VRun.region ?_
    refine mO (tN i) rfl ?_
    refine fO (B.add (n := (((i + 1) : Nat) : Int)) (tv (tN i) rfl) (VEv.int .i64 1) (by first | exact hg2 _ (List.mem_of_getElem? hx1) | rfl | (rw [wrap64 (by omega)]; omega) | (rw [wrap64 (by omega)]; done))) ?_
    refine aO (tN (i + 1)) rfl ?_
    refine VRunO.nil ?_
    refine tn ?_
    refine ⟨((i + 1, szR (zIssue x1) r) : Nat × Int), ?_, ?_, Wk.mk (fun k => k) ?_ ?_ ?_⟩
    · exact hI'.next hx1 fhc2
    · first | omega | (simp only []; omega) | (show _ < _; omega) | (simp; omega)
    · exact (ball_cons ⟨rfl, rfl⟩ (ball_cons ⟨rfl, rfl⟩ (ball_cons ⟨rfl, rfl⟩ (ball_nil))))
    · exact (ball_nil)
    · show List.Nodup ([] : List Nat)
      decide
  have fhc1 : ¬ (i < a.length) := of_decide_eq_false hc1
  refine VRun.exit ?_
  refine vthn.e ?_
  refine vthn.e ?_
  refine vinB.e ?_
  refine tn ?_
  refine sr ?_
  refine mO (tI r) rfl ?_
  refine aO (tI r) rfl ?_
  refine nt ?_
  refine rt ?_
  refine vi (n' := r) rfl ?_
  exact hI'.done fhc1
theorem W_laws_szUsed (n : Nat) (a : D.Used) (left : Int) (h0 : 0 ≤ left) (h1 : left ≤ (mx : Int)) (hg : GUsed a) : Pure (acall Try.prog (n + 1)) 122 [(T.agg (eUsed false a)), (tI left)] (tI (szR (zUsed a) left)) := by
  refine Pure.intro (rs := [ResultVar.tmp 4]) Try.func122 rfl rfl rfl (E0 := [(0, (T.agg (eUsed false a))), (1, (tI left))]) rfl ?_
  have hlim : lim = 1099511627776 := rfl
  have hmx : mx = 1048576 := rfl
  have hmax : maxLen = 9223372036854775807 := rfl
  obtain ⟨hg0, hg1⟩ := hg
  refine sr ?_
  refine kO (B.box (ts := (eUsed false a)) (tv (T.agg (eUsed false a)) rfl) nofun rfl) ?_
  refine fO (OF.assign (VEv.int .i64 0)) ?_
  refine nt ?_
  refine sr ?_
  refine mO (tI left) rfl ?_
  refine fO (OF.fieldAddrO (tv (T.op 0 0) rfl) fa162_0) ?_
  refine lO (OL.loadO1 (t := (tS a.Word)) (tv (T.op 0 0) rfl) rfl rfl st9) ?_
  refine lO (B.lenS (tv (tS a.Word) rfl) Try.underlying9) ?_
  refine fO (B.sub (n := (left - ((a.Word.size : Nat) : Int))) (tv (tI left) rfl) (tv (tN a.Word.size) rfl) (by first | rfl | (rw [wrap64 (by omega)]; omega) | (rw [wrap64 (by omega)]; done))) ?_
  refine aO (tI (left - ((a.Word.size : Nat) : Int))) rfl ?_
  refine nt ?_
  refine sq ?_
  refine sr ?_
  refine mO (tI (left - ((a.Word.size : Nat) : Int))) rfl ?_
  refine fO (B.lss (c := (decide ((left - ((a.Word.size : Nat) : Int)) < 0))) (tv (tI (left - ((a.Word.size : Nat) : Int))) rfl) (VEv.int .i64 0) rfl) ?_
  refine nt ?_
  refine VRun.cond (tv (tB (decide ((left - ((a.Word.size : Nat) : Int)) < 0))) rfl) (fun hc0 => ?_) (fun hc0 => ?_)
  · have fhc0 : (left - ((a.Word.size : Nat) : Int)) < 0 := of_decide_eq_true hc0
    refine sr ?_
    refine fO (OF.assign (VEv.int .i64 (-1))) ?_
    refine nt ?_
    refine rt ?_
    refine tr ?_
    refine vi (n' := (-1)) rfl ?_
    exact szR_neg (by simp only [zUsed]; omega)
  have fhc0 : ¬ ((left - ((a.Word.size : Nat) : Int)) < 0) := of_decide_eq_false hc0
  refine sk ?_
  refine tn ?_
  refine sr ?_
  refine mO (tI (left - ((a.Word.size : Nat) : Int))) rfl ?_
  refine aO (tI (left - ((a.Word.size : Nat) : Int))) rfl ?_
  refine nt ?_
  refine rt ?_
  refine vi (n' := (left - ((a.Word.size : Nat) : Int))) rfl ?_
  rw [← szR_nn (z := zUsed a) (l := left) (by simp only [zUsed]; omega)]
  all_goals first | rfl | (simp only [zUsed]; done) | (simp only [zUsed]; omega)
theorem W_laws_szUsedS (n : Nat) (a : List D.Used) (left : Int) (h0 : 0 ≤ left) (h1 : left ≤ (mx : Int)) (hg : a.length ≤ maxLen ∧ ∀ x ∈ a, GUsed x) : Pure (acall Try.prog (n + 2)) 56 [(rd 2 eUsed a), (tI left)] (tI (szR (zL zUsed a) left)) := by
  refine Pure.intro (rs := [ResultVar.tmp 4]) Try.func56 rfl rfl rfl (E0 := [(0, (rd 2 eUsed a)), (1, (tI left))]) rfl ?_
  have hlim : lim = 1099511627776 := rfl
  have hmx : mx = 1048576 := rfl
  have hmax : maxLen = 9223372036854775807 := rfl
  obtain ⟨hg1, hg2⟩ := hg
  refine sr ?_
  refine fO (OF.assign (VEv.int .i64 0)) ?_
  refine nt ?_
  refine sr ?_
  refine mO (tI left) rfl ?_
  refine mO (rd 2 eUsed a) rfl ?_
  refine lO (B.lenR (m := a.length) (tv (rd 2 eUsed a) rfl) Try.underlying39 (List.length_map ..)) ?_
  refine fO (B.sub (n := (left - ((a.length : Nat) : Int))) (tv (tI left) rfl) (tv (tN a.length) rfl) (by first | exact hg2 _ (List.mem_of_getElem? hx1) | rfl | (rw [wrap64 (by omega)]; omega) | (rw [wrap64 (by omega)]; done))) ?_
  refine aO (tI (left - ((a.length : Nat) : Int))) rfl ?_
  refine nt ?_
  refine sq ?_
  refine sr ?_
  refine mO (tI (left - ((a.length : Nat) : Int))) rfl ?_
  refine fO (B.lss (c := (decide ((left - ((a.length : Nat) : Int)) < 0))) (tv (tI (left - ((a.length : Nat) : Int))) rfl) (VEv.int .i64 0) rfl) ?_
  refine nt ?_
  refine VRun.cond (tv (tB (decide ((left - ((a.length : Nat) : Int)) < 0))) rfl) (fun hc0 => ?_) (fun hc0 => ?_)
  · have fhc0 : (left - ((a.length : Nat) : Int)) < 0 := of_decide_eq_true hc0
    refine sr ?_
    refine fO (OF.assign (VEv.int .i64 (-1))) ?_
    refine nt ?_
    refine rt ?_
    refine tr ?_
    refine vi (n' := (-1)) rfl ?_
    exact SzI.early fhc0
  have fhc0 : ¬ ((left - ((a.length : Nat) : Int)) < 0) := of_decide_eq_false hc0
  refine sk ?_
  refine tn ?_
  refine sq ?_
  refine sr ?_
  refine fO (OF.assign (VEv.int .i64 0)) ?_
  refine nt ?_
  refine VRun.block ?_
  refine VRun.loop (A := Nat × Int) (fun s_ => [(0, (rd 2 eUsed a)), (1, (tI s_.2)), (5, (tN s_.1))]) (fun s_ => mkO []) 0 (fun s_ => SzI zUsed a left s_.1 s_.2) (fun s_ => a.length - s_.1) ((0, left - (a.length : Int)) : Nat × Int) ?_ (Wk.mk (fun k => k) ?_ ?_ ?_) ?_
  · exact SzI.start h1 fhc0
  · exact (ball_cons ⟨rfl, rfl⟩ (ball_cons ⟨(congrArg (T.int .i64) (show (left - ((a.length : Nat) : Int)) = (left - (a.length : Int)) from (by first | rfl | omega | (simp; done) | (push_cast; omega)))), rfl⟩ (ball_cons ⟨rfl, rfl⟩ (ball_nil))))
  · exact (ball_nil)
  · show List.Nodup ([] : List Nat)
    decide
  rintro ⟨i, r⟩ hI
  have hI' : SzI zUsed a left i r := hI
  clear hI
  show VRun _ _ _ [(0, (rd 2 eUsed a)), (1, (tI r)), (5, (tN i))] (mkO []) 0 _
  have hI2 := hI'.1
  have hI3 := hI'.2.1
  have hI4 := hI'.2.2.1
  refine sq ?_
  refine sr ?_
  refine mO (tN i) rfl ?_
  refine mO (rd 2 eUsed a) rfl ?_
  refine lO (B.lenR (m := a.length) (tv (rd 2 eUsed a) rfl) Try.underlying39 (List.length_map ..)) ?_
  refine fO (B.lss (c := (decide (i < a.length))) (tv (tN i) rfl) (tv (tN a.length) rfl) (by first | exact hg2 _ (List.mem_of_getElem? hx1) | (exact decN (by omega)))) ?_
  refine nt ?_
  refine VRun.cond (tv (tB (decide (i < a.length))) rfl) (fun hc1 => ?_) (fun hc1 => ?_)
  · have fhc1 : i < a.length := of_decide_eq_true hc1
    refine sk ?_
    refine tn ?_
    refine sq ?_
    refine VRun.block ?_
    refine sr ?_
    refine mO (rd 2 eUsed a) rfl ?_
    refine mO (tN i) rfl ?_
    obtain ⟨x1, hx1⟩ : ∃ x, a[i]? = some x := ⟨_, List.getElem?_eq_getElem (by first | exact hg2 _ (List.mem_of_getElem? hx1) | omega)⟩
    refine fO (OF.indexAddrR (row := (eUsed false x1)) (i := i) (tv (rd 2 eUsed a) rfl) (tv (tN i) rfl) rfl (map_at _ hx1) Try.underlying39 sz162 if162) ?_
    refine lO (OL.loadRn (us := (eUsed false x1)) (tv (T.rp (eUsed false x1)) rfl) st162 sz162 (Nat.le_of_ble_eq_true rfl) rfl) ?_
    refine mO (tI r) rfl ?_
    refine cO (cS (vc (tv (T.agg (eUsed false x1)) rfl) (vc (tv (tI r) rfl) VEvs.nil)) (LendL.cons (lg okeUsed) (lp rfl (LendL.nil))) (W_laws_szUsed (n + 0) x1 r (by first | exact hg2 _ (List.mem_of_getElem? hx1) | assumption | omega) (by first | exact hg2 _ (List.mem_of_getElem? hx1) | assumption | omega) (by first | exact hg2 _ (List.mem_of_getElem? hx1) | assumption | omega)) rfl rfl) ?_
    refine aO (tI (szR (zUsed x1) r)) rfl ?_
    refine nt ?_
    refine sr ?_
    refine mO (tI (szR (zUsed x1) r)) rfl ?_
    refine fO (B.lss (c := (decide (szR (zUsed x1) r < 0))) (tv (tI (szR (zUsed x1) r)) rfl) (VEv.int .i64 0) rfl) ?_
    refine nt ?_
    refine VRun.cond (tv (tB (decide (szR (zUsed x1) r < 0))) rfl) (fun hc2 => ?_) (fun hc2 => ?_)
    · have fhc2 : szR (zUsed x1) r < 0 := of_decide_eq_true hc2
      refine sr ?_
      refine fO (OF.assign (VEv.int .i64 (-1))) ?_
      refine nt ?_
      refine rt ?_
      refine vinB.r ?_
      refine tr ?_
      refine tr ?_
      refine vinB.r ?_
      refine tr ?_
      refine vi (n' := (-1)) rfl ?_
      exact hI'.bad hx1 fhc2
    have fhc2 : ¬ (szR (zUsed x1) r < 0) := of_decide_eq_false hc2
    refine sk ?_
    refine vinB.n ?_
    refine tn ?_
    refine VRun.region ?_
    refine mO (tN i) rfl ?_
    refine fO (B.add (n := (((i + 1) : Nat) : Int)) (tv (tN i) rfl) (VEv.int .i64 1) (by first | exact hg2 _ (List.mem_of_getElem? hx1) | rfl | (rw [wrap64 (by omega)]; omega) | (rw [wrap64 (by omega)]; done))) ?_
    refine aO (tN (i + 1)) rfl ?_
    refine VRunO.nil ?_
    refine tn ?_
    refine ⟨((i + 1, szR (zUsed x1) r) : Nat × Int), ?_, ?_, Wk.mk (fun k => k) ?_ ?_ ?_⟩
    · exact hI'.next hx1 fhc2
    · first | omega | (simp only []; omega) | (show _ < _; omega) | (simp; omega)
    · exact (ball_cons ⟨rfl, rfl⟩ (ball_cons ⟨rfl, rfl⟩ (ball_cons ⟨rfl, rfl⟩ (ball_nil))))
    · exact (ball_nil)
    · show List.Nodup ([] : List Nat)
      decide
  have fhc1 : ¬ (i < a.length) := of_decide_eq_false hc1
  refine VRun.exit ?_
  refine vthn.e ?_
  refine vthn.e ?_
  refine vinB.e ?_
  refine tn ?_
  refine sr ?_
  refine mO (tI r) rfl ?_
  refine aO (tI r) rfl ?_
  refine nt ?_
  refine rt ?_
  refine vi (n' := r) rfl ?_
  exact hI'.done fhc1
theorem W_laws_szCorrection (n : Nat) (a : D.Correction) (left : Int) (h0 : 0 ≤ left) (h1 : left ≤ (mx : Int)) (hg : GCorrection a) : Pure (acall Try.prog (n + 4)) 123 [(T.agg (eCorrection false a)), (tI left)] (tI (szR (zCorrection a) left)) := by
  refine Pure.intro (rs := [ResultVar.tmp 4]) Try.func123 rfl rfl rfl (E0 := [(0, (T.agg (eCorrection false a))), (1, (tI left))]) rfl ?_
  have hlim : lim = 1099511627776 := rfl
  have hmx : mx = 1048576 := rfl
  have hmax : maxLen = 9223372036854775807 := rfl
  obtain ⟨hg0, hg1, hg2, hg3⟩ := hg
  refine sr ?_
  refine kO (B.box (ts := (eCorrection false a)) (tv (T.agg (eCorrection false a)) rfl) nofun rfl) ?_
  refine fO (OF.assign (VEv.int .i64 0)) ?_
  refine nt ?_
  refine sr ?_
  refine fO (OF.fieldAddrO (tv (T.op 0 0) rfl) fa165_2) ?_
  refine lO (OL.loadOn (us := (eClue false a.Clue)) (tv (T.op 0 2) rfl) rfl st64 sz64 (Nat.le_of_ble_eq_true rfl) rfl) ?_
  refine mO (tI left) rfl ?_
  refine cO (cS (vc (tv (T.agg (eClue false a.Clue)) rfl) (vc (tv (tI left) rfl) VEvs.nil)) (LendL.cons (lg okeClue) (lp rfl (LendL.nil))) (W_laws_szClue (n + 0) a.Clue left (by first | assumption | omega) (by first | assumption | omega) (by first | assumption | omega)) rfl rfl) ?_
  refine aO (tI (szR (zClue a.Clue) left)) rfl ?_
  refine nt ?_
  refine sq ?_
  refine sr ?_
  refine mO (tI (szR (zClue a.Clue) left)) rfl ?_
  refine fO (B.lss (c := (decide (szR (zClue a.Clue) left < 0))) (tv (tI (szR (zClue a.Clue) left)) rfl) (VEv.int .i64 0) rfl) ?_
  refine nt ?_
  refine VRun.cond (tv (tB (decide (szR (zClue a.Clue) left < 0))) rfl) (fun hc0 => ?_) (fun hc0 => ?_)
  · have fhc0 : szR (zClue a.Clue) left < 0 := of_decide_eq_true hc0
    refine sr ?_
    refine fO (OF.assign (VEv.int .i64 (-1))) ?_
    refine nt ?_
    refine rt ?_
    refine tr ?_
    refine vi (n' := (-1)) rfl ?_
    exact szR_neg (by have hlt := szR_lt fhc0; simp only [zCorrection]; omega)
  have fhc0 : ¬ (szR (zClue a.Clue) left < 0) := of_decide_eq_false hc0
  have hq0 := szR_pos fhc0
  refine sk ?_
  refine tn ?_
  refine sr ?_
  refine mO (tI (szR (zClue a.Clue) left)) rfl ?_
  refine aO (tI (szR (zClue a.Clue) left)) rfl ?_
  refine nt ?_
  refine rt ?_
  refine vi (n' := szR (zClue a.Clue) left) rfl ?_
  rw [← szR_nn (z := zCorrection a) (l := left) (by simp only [zCorrection]; omega)]
  all_goals first | rfl | (simp only [zCorrection]; done) | (simp only [zCorrection]; omega)
theorem W_laws_szCorrectionS (n : Nat) (a : List D.Correction) (left : Int) (h0 : 0 ≤ left) (h1 : left ≤ (mx : Int)) (hg : a.length ≤ maxLen ∧ ∀ x ∈ a, GCorrection x) : Pure (acall Try.prog (n + 5)) 57 [(rd 5 eCorrection a), (tI left)] (tI (szR (zL zCorrection a) left)) := by
  refine Pure.intro (rs := [ResultVar.tmp 4]) Try.func57 rfl rfl rfl (E0 := [(0, (rd 5 eCorrection a)), (1, (tI left))]) rfl ?_
  have hlim : lim = 1099511627776 := rfl
  have hmx : mx = 1048576 := rfl
  have hmax : maxLen = 9223372036854775807 := rfl
  obtain ⟨hg1, hg2⟩ := hg
  refine sr ?_
  refine fO (OF.assign (VEv.int .i64 0)) ?_
  refine nt ?_
  refine sr ?_
  refine mO (tI left) rfl ?_
  refine mO (rd 5 eCorrection a) rfl ?_
  refine lO (B.lenR (m := a.length) (tv (rd 5 eCorrection a) rfl) Try.underlying40 (List.length_map ..)) ?_
  refine fO (B.sub (n := (left - ((a.length : Nat) : Int))) (tv (tI left) rfl) (tv (tN a.length) rfl) (by first | exact hg2 _ (List.mem_of_getElem? hx1) | rfl | (rw [wrap64 (by omega)]; omega) | (rw [wrap64 (by omega)]; done))) ?_
  refine aO (tI (left - ((a.length : Nat) : Int))) rfl ?_
  refine nt ?_
  refine sq ?_
  refine sr ?_
  refine mO (tI (left - ((a.length : Nat) : Int))) rfl ?_
  refine fO (B.lss (c := (decide ((left - ((a.length : Nat) : Int)) < 0))) (tv (tI (left - ((a.length : Nat) : Int))) rfl) (VEv.int .i64 0) rfl) ?_
  refine nt ?_
  refine VRun.cond (tv (tB (decide ((left - ((a.length : Nat) : Int)) < 0))) rfl) (fun hc0 => ?_) (fun hc0 => ?_)
  · have fhc0 : (left - ((a.length : Nat) : Int)) < 0 := of_decide_eq_true hc0
    refine sr ?_
    refine fO (OF.assign (VEv.int .i64 (-1))) ?_
    refine nt ?_
    refine rt ?_
    refine tr ?_
    refine vi (n' := (-1)) rfl ?_
    exact SzI.early fhc0
  have fhc0 : ¬ ((left - ((a.length : Nat) : Int)) < 0) := of_decide_eq_false hc0
  refine sk ?_
  refine tn ?_
  refine sq ?_
  refine sr ?_
  refine fO (OF.assign (VEv.int .i64 0)) ?_
  refine nt ?_
  refine VRun.block ?_
  refine VRun.loop (A := Nat × Int) (fun s_ => [(0, (rd 5 eCorrection a)), (1, (tI s_.2)), (5, (tN s_.1))]) (fun s_ => mkO []) 0 (fun s_ => SzI zCorrection a left s_.1 s_.2) (fun s_ => a.length - s_.1) ((0, left - (a.length : Int)) : Nat × Int) ?_ (Wk.mk (fun k => k) ?_ ?_ ?_) ?_
  · exact SzI.start h1 fhc0
  · exact (ball_cons ⟨rfl, rfl⟩ (ball_cons ⟨(congrArg (T.int .i64) (show (left - ((a.length : Nat) : Int)) = (left - (a.length : Int)) from (by first | rfl | omega | (simp; done) | (push_cast; omega)))), rfl⟩ (ball_cons ⟨rfl, rfl⟩ (ball_nil))))
  · exact (ball_nil)
  · show List.Nodup ([] : List Nat)
    decide
  rintro ⟨i, r⟩ hI
  have hI' : SzI zCorrection a left i r := hI
  clear hI
  show VRun _ _ _ [(0, (rd 5 eCorrection a)), (1, (tI r)), (5, (tN i))] (mkO []) 0 _
  have hI2 := hI'.1
  have hI3 := hI'.2.1
  have hI4 := hI'.2.2.1
  refine sq ?_
  refine sr ?_
  refine mO (tN i) rfl ?_
  refine mO (rd 5 eCorrection a) rfl ?_
  refine lO (B.lenR (m := a.length) (tv (rd 5 eCorrection a) rfl) Try.underlying40 (List.length_map ..)) ?_
  refine fO (B.lss (c := (decide (i < a.length))) (tv (tN i) rfl) (tv (tN a.length) rfl) (by first | exact hg2 _ (List.mem_of_getElem? hx1) | (exact decN (by omega)))) ?_
  refine nt ?_
  refine VRun.cond (tv (tB (decide (i < a.length))) rfl) (fun hc1 => ?_) (fun hc1 => ?_)
  · have fhc1 : i < a.length := of_decide_eq_true hc1
    refine sk ?_
    refine tn ?_
    refine sq ?_
    refine VRun.block ?_
    refine sr ?_
    refine mO (rd 5 eCorrection a) rfl ?_
    refine mO (tN i) rfl ?_
    obtain ⟨x1, hx1⟩ : ∃ x, a[i]? = some x := ⟨_, List.getElem?_eq_getElem (by first | exact hg2 _ (List.mem_of_getElem? hx1) | omega)⟩
    refine fO (OF.indexAddrR (row := (eCorrection false x1)) (i := i) (tv (rd 5 eCorrection a) rfl) (tv (tN i) rfl) rfl (map_at _ hx1) Try.underlying40 sz165 if165) ?_
    refine lO (OL.loadRn (us := (eCorrection false x1)) (tv (T.rp (eCorrection false x1)) rfl) st165 sz165 (Nat.le_of_ble_eq_true rfl) rfl) ?_
    refine mO (tI r) rfl ?_
    refine cO (cS (vc (tv (T.agg (eCorrection false x1)) rfl) (vc (tv (tI r) rfl) VEvs.nil)) (LendL.cons (lg okeCorrection) (lp rfl (LendL.nil))) (W_laws_szCorrection (n + 0) x1 r (by first | exact hg2 _ (List.mem_of_getElem? hx1) | assumption | omega) (by first | exact hg2 _ (List.mem_of_getElem? hx1) | assumption | omega) (by first | exact hg2 _ (List.mem_of_getElem? hx1) | assumption | omega)) rfl rfl) ?_
    refine aO (tI (szR (zCorrection x1) r)) rfl ?_
    refine nt ?_
    refine sr ?_
    refine mO (tI (szR (zCorrection x1) r)) rfl ?_
    refine fO (B.lss (c := (decide (szR (zCorrection x1) r < 0))) (tv (tI (szR (zCorrection x1) r)) rfl) (VEv.int .i64 0) rfl) ?_
    refine nt ?_
    refine VRun.cond (tv (tB (decide (szR (zCorrection x1) r < 0))) rfl) (fun hc2 => ?_) (fun hc2 => ?_)
    · have fhc2 : szR (zCorrection x1) r < 0 := of_decide_eq_true hc2
      refine sr ?_
      refine fO (OF.assign (VEv.int .i64 (-1))) ?_
      refine nt ?_
      refine rt ?_
      refine vinB.r ?_
      refine tr ?_
      refine tr ?_
      refine vinB.r ?_
      refine tr ?_
      refine vi (n' := (-1)) rfl ?_
      exact hI'.bad hx1 fhc2
    have fhc2 : ¬ (szR (zCorrection x1) r < 0) := of_decide_eq_false hc2
    refine sk ?_
    refine vinB.n ?_
    refine tn ?_
    refine VRun.region ?_
    refine mO (tN i) rfl ?_
    refine fO (B.add (n := (((i + 1) : Nat) : Int)) (tv (tN i) rfl) (VEv.int .i64 1) (by first | exact hg2 _ (List.mem_of_getElem? hx1) | rfl | (rw [wrap64 (by omega)]; omega) | (rw [wrap64 (by omega)]; done))) ?_
    refine aO (tN (i + 1)) rfl ?_
    refine VRunO.nil ?_
    refine tn ?_
    refine ⟨((i + 1, szR (zCorrection x1) r) : Nat × Int), ?_, ?_, Wk.mk (fun k => k) ?_ ?_ ?_⟩
    · exact hI'.next hx1 fhc2
    · first | omega | (simp only []; omega) | (show _ < _; omega) | (simp; omega)
    · exact (ball_cons ⟨rfl, rfl⟩ (ball_cons ⟨rfl, rfl⟩ (ball_cons ⟨rfl, rfl⟩ (ball_nil))))
    · exact (ball_nil)
    · show List.Nodup ([] : List Nat)
      decide
  have fhc1 : ¬ (i < a.length) := of_decide_eq_false hc1
  refine VRun.exit ?_
  refine vthn.e ?_
  refine vthn.e ?_
  refine vinB.e ?_
  refine tn ?_
  refine sr ?_
  refine mO (tI r) rfl ?_
  refine aO (tI r) rfl ?_
  refine nt ?_
  refine rt ?_
  refine vi (n' := r) rfl ?_
  exact hI'.done fhc1
theorem W_laws_szEntry (n : Nat) (a : D.Entry) (left : Int) (h0 : 0 ≤ left) (h1 : left ≤ (mx : Int)) (hg : GEntry a) : Pure (acall Try.prog (n + 1)) 124 [(T.agg (eEntry false a)), (tI left)] (tI (szR (zEntry a) left)) := by
  refine Pure.intro (rs := [ResultVar.tmp 4]) Try.func124 rfl rfl rfl (E0 := [(0, (T.agg (eEntry false a))), (1, (tI left))]) rfl ?_
  have hlim : lim = 1099511627776 := rfl
  have hmx : mx = 1048576 := rfl
  have hmax : maxLen = 9223372036854775807 := rfl
  obtain ⟨hg0, hg1, hg2, hg3⟩ := hg
  refine sr ?_
  refine kO (B.box (ts := (eEntry false a)) (tv (T.agg (eEntry false a)) rfl) nofun rfl) ?_
  refine fO (OF.assign (VEv.int .i64 0)) ?_
  refine nt ?_
  refine sr ?_
  refine mO (tI left) rfl ?_
  refine fO (OF.fieldAddrO (tv (T.op 0 0) rfl) fa167_3) ?_
  refine lO (OL.loadO1 (t := (tS a.Fill)) (tv (T.op 0 3) rfl) rfl rfl st9) ?_
  refine lO (B.lenS (tv (tS a.Fill) rfl) Try.underlying9) ?_
  refine fO (B.sub (n := (left - ((a.Fill.size : Nat) : Int))) (tv (tI left) rfl) (tv (tN a.Fill.size) rfl) (by first | rfl | (rw [wrap64 (by omega)]; omega) | (rw [wrap64 (by omega)]; done))) ?_
  refine aO (tI (left - ((a.Fill.size : Nat) : Int))) rfl ?_
  refine nt ?_
  refine sq ?_
  refine sr ?_
  refine mO (tI (left - ((a.Fill.size : Nat) : Int))) rfl ?_
  refine fO (B.lss (c := (decide ((left - ((a.Fill.size : Nat) : Int)) < 0))) (tv (tI (left - ((a.Fill.size : Nat) : Int))) rfl) (VEv.int .i64 0) rfl) ?_
  refine nt ?_
  refine VRun.cond (tv (tB (decide ((left - ((a.Fill.size : Nat) : Int)) < 0))) rfl) (fun hc0 => ?_) (fun hc0 => ?_)
  · have fhc0 : (left - ((a.Fill.size : Nat) : Int)) < 0 := of_decide_eq_true hc0
    refine sr ?_
    refine fO (OF.assign (VEv.int .i64 (-1))) ?_
    refine nt ?_
    refine rt ?_
    refine tr ?_
    refine vi (n' := (-1)) rfl ?_
    exact szR_neg (by simp only [zEntry]; omega)
  have fhc0 : ¬ ((left - ((a.Fill.size : Nat) : Int)) < 0) := of_decide_eq_false hc0
  refine sk ?_
  refine tn ?_
  refine sr ?_
  refine mO (tI (left - ((a.Fill.size : Nat) : Int))) rfl ?_
  refine aO (tI (left - ((a.Fill.size : Nat) : Int))) rfl ?_
  refine nt ?_
  refine rt ?_
  refine vi (n' := (left - ((a.Fill.size : Nat) : Int))) rfl ?_
  rw [← szR_nn (z := zEntry a) (l := left) (by simp only [zEntry]; omega)]
  all_goals first | rfl | (simp only [zEntry]; done) | (simp only [zEntry]; omega)
theorem W_laws_szEntryS (n : Nat) (a : List D.Entry) (left : Int) (h0 : 0 ≤ left) (h1 : left ≤ (mx : Int)) (hg : a.length ≤ maxLen ∧ ∀ x ∈ a, GEntry x) : Pure (acall Try.prog (n + 2)) 58 [(rd 4 eEntry a), (tI left)] (tI (szR (zL zEntry a) left)) := by
  refine Pure.intro (rs := [ResultVar.tmp 4]) Try.func58 rfl rfl rfl (E0 := [(0, (rd 4 eEntry a)), (1, (tI left))]) rfl ?_
  have hlim : lim = 1099511627776 := rfl
  have hmx : mx = 1048576 := rfl
  have hmax : maxLen = 9223372036854775807 := rfl
  obtain ⟨hg1, hg2⟩ := hg
  refine sr ?_
  refine fO (OF.assign (VEv.int .i64 0)) ?_
  refine nt ?_
  refine sr ?_
  refine mO (tI left) rfl ?_
  refine mO (rd 4 eEntry a) rfl ?_
  refine lO (B.lenR (m := a.length) (tv (rd 4 eEntry a) rfl) Try.underlying41 (List.length_map ..)) ?_
  refine fO (B.sub (n := (left - ((a.length : Nat) : Int))) (tv (tI left) rfl) (tv (tN a.length) rfl) (by first | exact hg2 _ (List.mem_of_getElem? hx1) | rfl | (rw [wrap64 (by omega)]; omega) | (rw [wrap64 (by omega)]; done))) ?_
  refine aO (tI (left - ((a.length : Nat) : Int))) rfl ?_
  refine nt ?_
  refine sq ?_
  refine sr ?_
  refine mO (tI (left - ((a.length : Nat) : Int))) rfl ?_
  refine fO (B.lss (c := (decide ((left - ((a.length : Nat) : Int)) < 0))) (tv (tI (left - ((a.length : Nat) : Int))) rfl) (VEv.int .i64 0) rfl) ?_
  refine nt ?_
  refine VRun.cond (tv (tB (decide ((left - ((a.length : Nat) : Int)) < 0))) rfl) (fun hc0 => ?_) (fun hc0 => ?_)
  · have fhc0 : (left - ((a.length : Nat) : Int)) < 0 := of_decide_eq_true hc0
    refine sr ?_
    refine fO (OF.assign (VEv.int .i64 (-1))) ?_
    refine nt ?_
    refine rt ?_
    refine tr ?_
    refine vi (n' := (-1)) rfl ?_
    exact SzI.early fhc0
  have fhc0 : ¬ ((left - ((a.length : Nat) : Int)) < 0) := of_decide_eq_false hc0
  refine sk ?_
  refine tn ?_
  refine sq ?_
  refine sr ?_
  refine fO (OF.assign (VEv.int .i64 0)) ?_
  refine nt ?_
  refine VRun.block ?_
  refine VRun.loop (A := Nat × Int) (fun s_ => [(0, (rd 4 eEntry a)), (1, (tI s_.2)), (5, (tN s_.1))]) (fun s_ => mkO []) 0 (fun s_ => SzI zEntry a left s_.1 s_.2) (fun s_ => a.length - s_.1) ((0, left - (a.length : Int)) : Nat × Int) ?_ (Wk.mk (fun k => k) ?_ ?_ ?_) ?_
  · exact SzI.start h1 fhc0
  · exact (ball_cons ⟨rfl, rfl⟩ (ball_cons ⟨(congrArg (T.int .i64) (show (left - ((a.length : Nat) : Int)) = (left - (a.length : Int)) from (by first | rfl | omega | (simp; done) | (push_cast; omega)))), rfl⟩ (ball_cons ⟨rfl, rfl⟩ (ball_nil))))
  · exact (ball_nil)
  · show List.Nodup ([] : List Nat)
    decide
  rintro ⟨i, r⟩ hI
  have hI' : SzI zEntry a left i r := hI
  clear hI
  show VRun _ _ _ [(0, (rd 4 eEntry a)), (1, (tI r)), (5, (tN i))] (mkO []) 0 _
  have hI2 := hI'.1
  have hI3 := hI'.2.1
  have hI4 := hI'.2.2.1
  refine sq ?_
  refine sr ?_
  refine mO (tN i) rfl ?_
  refine mO (rd 4 eEntry a) rfl ?_
  refine lO (B.lenR (m := a.length) (tv (rd 4 eEntry a) rfl) Try.underlying41 (List.length_map ..)) ?_
  refine fO (B.lss (c := (decide (i < a.length))) (tv (tN i) rfl) (tv (tN a.length) rfl) (by first | exact hg2 _ (List.mem_of_getElem? hx1) | (exact decN (by omega)))) ?_
  refine nt ?_
  refine VRun.cond (tv (tB (decide (i < a.length))) rfl) (fun hc1 => ?_) (fun hc1 => ?_)
  · have fhc1 : i < a.length := of_decide_eq_true hc1
    refine sk ?_
    refine tn ?_
    refine sq ?_
    refine VRun.block ?_
    refine sr ?_
    refine mO (rd 4 eEntry a) rfl ?_
    refine mO (tN i) rfl ?_
    obtain ⟨x1, hx1⟩ : ∃ x, a[i]? = some x := ⟨_, List.getElem?_eq_getElem (by first | exact hg2 _ (List.mem_of_getElem? hx1) | omega)⟩
    refine fO (OF.indexAddrR (row := (eEntry false x1)) (i := i) (tv (rd 4 eEntry a) rfl) (tv (tN i) rfl) rfl (map_at _ hx1) Try.underlying41 sz167 if167) ?_
    refine lO (OL.loadRn (us := (eEntry false x1)) (tv (T.rp (eEntry false x1)) rfl) st167 sz167 (Nat.le_of_ble_eq_true rfl) rfl) ?_
    refine mO (tI r) rfl ?_
    refine cO (cS (vc (tv (T.agg (eEntry false x1)) rfl) (vc (tv (tI r) rfl) VEvs.nil)) (LendL.cons (lg okeEntry) (lp rfl (LendL.nil))) (W_laws_szEntry (n + 0) x1 r (by first | exact hg2 _ (List.mem_of_getElem? hx1) | assumption | omega) (by first | exact hg2 _ (List.mem_of_getElem? hx1) | assumption | omega) (by first | exact hg2 _ (List.mem_of_getElem? hx1) | assumption | omega)) rfl rfl) ?_
    refine aO (tI (szR (zEntry x1) r)) rfl ?_
    refine nt ?_
    refine sr ?_
    refine mO (tI (szR (zEntry x1) r)) rfl ?_
    refine fO (B.lss (c := (decide (szR (zEntry x1) r < 0))) (tv (tI (szR (zEntry x1) r)) rfl) (VEv.int .i64 0) rfl) ?_
    refine nt ?_
    refine VRun.cond (tv (tB (decide (szR (zEntry x1) r < 0))) rfl) (fun hc2 => ?_) (fun hc2 => ?_)
    · have fhc2 : szR (zEntry x1) r < 0 := of_decide_eq_true hc2
      refine sr ?_
      refine fO (OF.assign (VEv.int .i64 (-1))) ?_
      refine nt ?_
      refine rt ?_
      refine vinB.r ?_
      refine tr ?_
      refine tr ?_
      refine vinB.r ?_
      refine tr ?_
      refine vi (n' := (-1)) rfl ?_
      exact hI'.bad hx1 fhc2
    have fhc2 : ¬ (szR (zEntry x1) r < 0) := of_decide_eq_false hc2
    refine sk ?_
    refine vinB.n ?_
    refine tn ?_
    refine VRun.region ?_
    refine mO (tN i) rfl ?_
    refine fO (B.add (n := (((i + 1) : Nat) : Int)) (tv (tN i) rfl) (VEv.int .i64 1) (by first | exact hg2 _ (List.mem_of_getElem? hx1) | rfl | (rw [wrap64 (by omega)]; omega) | (rw [wrap64 (by omega)]; done))) ?_
    refine aO (tN (i + 1)) rfl ?_
    refine VRunO.nil ?_
    refine tn ?_
    refine ⟨((i + 1, szR (zEntry x1) r) : Nat × Int), ?_, ?_, Wk.mk (fun k => k) ?_ ?_ ?_⟩
    · exact hI'.next hx1 fhc2
    · first | omega | (simp only []; omega) | (show _ < _; omega) | (simp; omega)
    · exact (ball_cons ⟨rfl, rfl⟩ (ball_cons ⟨rfl, rfl⟩ (ball_cons ⟨rfl, rfl⟩ (ball_nil))))
    · exact (ball_nil)
    · show List.Nodup ([] : List Nat)
      decide
  have fhc1 : ¬ (i < a.length) := of_decide_eq_false hc1
  refine VRun.exit ?_
  refine vthn.e ?_
  refine vthn.e ?_
  refine vinB.e ?_
  refine tn ?_
  refine sr ?_
  refine mO (tI r) rfl ?_
  refine aO (tI r) rfl ?_
  refine nt ?_
  refine rt ?_
  refine vi (n' := r) rfl ?_
  exact hI'.done fhc1
theorem W_laws_szHouse (n : Nat) (a : D.House) (left : Int) (h0 : 0 ≤ left) (h1 : left ≤ (mx : Int)) (hg : GHouse a) : Pure (acall Try.prog (n + 8)) 13 [(T.agg (eHouse false a)), (tI left)] (tI (szR (zHouse a) left)) := by
  refine Pure.intro (rs := [ResultVar.tmp 4]) Try.func13 rfl rfl rfl (E0 := [(0, (T.agg (eHouse false a))), (1, (tI left))]) rfl ?_
  have hlim : lim = 1099511627776 := rfl
  have hmx : mx = 1048576 := rfl
  have hmax : maxLen = 9223372036854775807 := rfl
  obtain ⟨hg0, hg1, hg2, hg3, hg4, hg5, hg6, hg7⟩ := hg
  refine sr ?_
  refine kO (B.box (ts := (eHouse false a)) (tv (T.agg (eHouse false a)) rfl) nofun rfl) ?_
  refine fO (OF.assign (VEv.int .i64 0)) ?_
  refine nt ?_
  refine sr ?_
  refine fO (OF.fieldAddrO (tv (T.op 0 0) rfl) fa43_0) ?_
  refine lO (OL.loadO1 (t := (rd 4 eListed a.List)) (tv (T.op 0 0) rfl) rfl rfl st36) ?_
  refine mO (tI left) rfl ?_
  refine cO (cS (vc (tv (rd 4 eListed a.List) rfl) (vc (tv (tI left) rfl) VEvs.nil)) (lp rfl (lp rfl (LendL.nil))) (W_laws_szListedS (n + 5) a.List left (by first | assumption | omega) (by first | assumption | omega) (by first | assumption | omega)) rfl rfl) ?_
  refine aO (tI (szR (zL zListed a.List) left)) rfl ?_
  refine nt ?_
  refine sq ?_
  refine sr ?_
  refine mO (tI (szR (zL zListed a.List) left)) rfl ?_
  refine fO (B.lss (c := (decide (szR (zL zListed a.List) left < 0))) (tv (tI (szR (zL zListed a.List) left)) rfl) (VEv.int .i64 0) rfl) ?_
  refine nt ?_
  refine VRun.cond (tv (tB (decide (szR (zL zListed a.List) left < 0))) rfl) (fun hc0 => ?_) (fun hc0 => ?_)
  · have fhc0 : szR (zL zListed a.List) left < 0 := of_decide_eq_true hc0
    refine sr ?_
    refine fO (OF.assign (VEv.int .i64 (-1))) ?_
    refine nt ?_
    refine rt ?_
    refine tr ?_
    refine vi (n' := (-1)) rfl ?_
    exact szR_neg (by have hlt := szR_lt fhc0; simp only [zHouse]; omega)
  have fhc0 : ¬ (szR (zL zListed a.List) left < 0) := of_decide_eq_false hc0
  have hq0 := szR_pos fhc0
  refine sk ?_
  refine tn ?_
  refine sr ?_
  refine fO (OF.fieldAddrO (tv (T.op 0 0) rfl) fa43_1) ?_
  refine lO (OL.loadO1 (t := (rd 2 eMeaning a.Dict)) (tv (T.op 0 1) rfl) rfl rfl st37) ?_
  refine mO (tI (szR (zL zListed a.List) left)) rfl ?_
  refine cO (cS (vc (tv (rd 2 eMeaning a.Dict) rfl) (vc (tv (tI (szR (zL zListed a.List) left)) rfl) VEvs.nil)) (lp rfl (lp rfl (LendL.nil))) (W_laws_szMeaningS (n + 5) a.Dict (szR (zL zListed a.List) left) (by first | assumption | omega) (by first | assumption | omega) (by first | assumption | omega)) rfl rfl) ?_
  refine aO (tI (szR (zL zMeaning a.Dict) (szR (zL zListed a.List) left))) rfl ?_
  refine nt ?_
  refine sq ?_
  refine sr ?_
  refine mO (tI (szR (zL zMeaning a.Dict) (szR (zL zListed a.List) left))) rfl ?_
  refine fO (B.lss (c := (decide (szR (zL zMeaning a.Dict) (szR (zL zListed a.List) left) < 0))) (tv (tI (szR (zL zMeaning a.Dict) (szR (zL zListed a.List) left))) rfl) (VEv.int .i64 0) rfl) ?_
  refine nt ?_
  refine VRun.cond (tv (tB (decide (szR (zL zMeaning a.Dict) (szR (zL zListed a.List) left) < 0))) rfl) (fun hc1 => ?_) (fun hc1 => ?_)
  · have fhc1 : szR (zL zMeaning a.Dict) (szR (zL zListed a.List) left) < 0 := of_decide_eq_true hc1
    refine sr ?_
    refine fO (OF.assign (VEv.int .i64 (-1))) ?_
    refine nt ?_
    refine rt ?_
    refine tr ?_
    refine vi (n' := (-1)) rfl ?_
    exact szR_neg (by have hlt := szR_lt fhc1; simp only [zHouse]; omega)
  have fhc1 : ¬ (szR (zL zMeaning a.Dict) (szR (zL zListed a.List) left) < 0) := of_decide_eq_false hc1
  have hq1 := szR_pos fhc1
  refine sk ?_
  refine tn ?_
  refine sr ?_
  refine fO (OF.fieldAddrO (tv (T.op 0 0) rfl) fa43_2) ?_
  refine lO (OL.loadOn (us := (eDraft false a.Desk)) (tv (T.op 0 2) rfl) rfl st26 sz26 (Nat.le_of_ble_eq_true rfl) rfl) ?_
  refine mO (tI (szR (zL zMeaning a.Dict) (szR (zL zListed a.List) left))) rfl ?_
  refine cO (cS (vc (tv (T.agg (eDraft false a.Desk)) rfl) (vc (tv (tI (szR (zL zMeaning a.Dict) (szR (zL zListed a.List) left))) rfl) VEvs.nil)) (LendL.cons (lg okeDraft) (lp rfl (LendL.nil))) (W_laws_szDraft (n + 2) a.Desk (szR (zL zMeaning a.Dict) (szR (zL zListed a.List) left)) (by first | assumption | omega) (by first | assumption | omega) (by first | assumption | omega)) rfl rfl) ?_
  refine aO (tI (szR (zDraft a.Desk) (szR (zL zMeaning a.Dict) (szR (zL zListed a.List) left)))) rfl ?_
  refine nt ?_
  refine sq ?_
  refine sr ?_
  refine mO (tI (szR (zDraft a.Desk) (szR (zL zMeaning a.Dict) (szR (zL zListed a.List) left)))) rfl ?_
  refine fO (B.lss (c := (decide (szR (zDraft a.Desk) (szR (zL zMeaning a.Dict) (szR (zL zListed a.List) left)) < 0))) (tv (tI (szR (zDraft a.Desk) (szR (zL zMeaning a.Dict) (szR (zL zListed a.List) left)))) rfl) (VEv.int .i64 0) rfl) ?_
  refine nt ?_
  refine VRun.cond (tv (tB (decide (szR (zDraft a.Desk) (szR (zL zMeaning a.Dict) (szR (zL zListed a.List) left)) < 0))) rfl) (fun hc2 => ?_) (fun hc2 => ?_)
  · have fhc2 : szR (zDraft a.Desk) (szR (zL zMeaning a.Dict) (szR (zL zListed a.List) left)) < 0 := of_decide_eq_true hc2
    refine sr ?_
    refine fO (OF.assign (VEv.int .i64 (-1))) ?_
    refine nt ?_
    refine rt ?_
    refine tr ?_
    refine vi (n' := (-1)) rfl ?_
    exact szR_neg (by have hlt := szR_lt fhc2; simp only [zHouse]; omega)
  have fhc2 : ¬ (szR (zDraft a.Desk) (szR (zL zMeaning a.Dict) (szR (zL zListed a.List) left)) < 0) := of_decide_eq_false hc2
  have hq2 := szR_pos fhc2
  refine sk ?_
  refine tn ?_
  refine sr ?_
  refine fO (OF.fieldAddrO (tv (T.op 0 0) rfl) fa43_3) ?_
  refine lO (OL.loadO1 (t := (rd 10 eIssue a.Issues)) (tv (T.op 0 8) rfl) rfl rfl st38) ?_
  refine mO (tI (szR (zDraft a.Desk) (szR (zL zMeaning a.Dict) (szR (zL zListed a.List) left)))) rfl ?_
  refine cO (cS (vc (tv (rd 10 eIssue a.Issues) rfl) (vc (tv (tI (szR (zDraft a.Desk) (szR (zL zMeaning a.Dict) (szR (zL zListed a.List) left)))) rfl) VEvs.nil)) (lp rfl (lp rfl (LendL.nil))) (W_laws_szIssueS (n + 0) a.Issues (szR (zDraft a.Desk) (szR (zL zMeaning a.Dict) (szR (zL zListed a.List) left))) (by first | assumption | omega) (by first | assumption | omega) (by first | assumption | omega)) rfl rfl) ?_
  refine aO (tI (szR (zL zIssue a.Issues) (szR (zDraft a.Desk) (szR (zL zMeaning a.Dict) (szR (zL zListed a.List) left))))) rfl ?_
  refine nt ?_
  refine sq ?_
  refine sr ?_
  refine mO (tI (szR (zL zIssue a.Issues) (szR (zDraft a.Desk) (szR (zL zMeaning a.Dict) (szR (zL zListed a.List) left))))) rfl ?_
  refine fO (B.lss (c := (decide (szR (zL zIssue a.Issues) (szR (zDraft a.Desk) (szR (zL zMeaning a.Dict) (szR (zL zListed a.List) left))) < 0))) (tv (tI (szR (zL zIssue a.Issues) (szR (zDraft a.Desk) (szR (zL zMeaning a.Dict) (szR (zL zListed a.List) left))))) rfl) (VEv.int .i64 0) rfl) ?_
  refine nt ?_
  refine VRun.cond (tv (tB (decide (szR (zL zIssue a.Issues) (szR (zDraft a.Desk) (szR (zL zMeaning a.Dict) (szR (zL zListed a.List) left))) < 0))) rfl) (fun hc3 => ?_) (fun hc3 => ?_)
  · have fhc3 : szR (zL zIssue a.Issues) (szR (zDraft a.Desk) (szR (zL zMeaning a.Dict) (szR (zL zListed a.List) left))) < 0 := of_decide_eq_true hc3
    refine sr ?_
    refine fO (OF.assign (VEv.int .i64 (-1))) ?_
    refine nt ?_
    refine rt ?_
    refine tr ?_
    refine vi (n' := (-1)) rfl ?_
    exact szR_neg (by have hlt := szR_lt fhc3; simp only [zHouse]; omega)
  have fhc3 : ¬ (szR (zL zIssue a.Issues) (szR (zDraft a.Desk) (szR (zL zMeaning a.Dict) (szR (zL zListed a.List) left))) < 0) := of_decide_eq_false hc3
  have hq3 := szR_pos fhc3
  refine sk ?_
  refine tn ?_
  refine sr ?_
  refine fO (OF.fieldAddrO (tv (T.op 0 0) rfl) fa43_4) ?_
  refine lO (OL.loadO1 (t := (rd 2 eUsed a.Uses)) (tv (T.op 0 9) rfl) rfl rfl st39) ?_
  refine mO (tI (szR (zL zIssue a.Issues) (szR (zDraft a.Desk) (szR (zL zMeaning a.Dict) (szR (zL zListed a.List) left))))) rfl ?_
  refine cO (cS (vc (tv (rd 2 eUsed a.Uses) rfl) (vc (tv (tI (szR (zL zIssue a.Issues) (szR (zDraft a.Desk) (szR (zL zMeaning a.Dict) (szR (zL zListed a.List) left))))) rfl) VEvs.nil)) (lp rfl (lp rfl (LendL.nil))) (W_laws_szUsedS (n + 5) a.Uses (szR (zL zIssue a.Issues) (szR (zDraft a.Desk) (szR (zL zMeaning a.Dict) (szR (zL zListed a.List) left)))) (by first | assumption | omega) (by first | assumption | omega) (by first | assumption | omega)) rfl rfl) ?_
  refine aO (tI (szR (zL zUsed a.Uses) (szR (zL zIssue a.Issues) (szR (zDraft a.Desk) (szR (zL zMeaning a.Dict) (szR (zL zListed a.List) left)))))) rfl ?_
  refine nt ?_
  refine sq ?_
  refine sr ?_
  refine mO (tI (szR (zL zUsed a.Uses) (szR (zL zIssue a.Issues) (szR (zDraft a.Desk) (szR (zL zMeaning a.Dict) (szR (zL zListed a.List) left)))))) rfl ?_
  refine fO (B.lss (c := (decide (szR (zL zUsed a.Uses) (szR (zL zIssue a.Issues) (szR (zDraft a.Desk) (szR (zL zMeaning a.Dict) (szR (zL zListed a.List) left)))) < 0))) (tv (tI (szR (zL zUsed a.Uses) (szR (zL zIssue a.Issues) (szR (zDraft a.Desk) (szR (zL zMeaning a.Dict) (szR (zL zListed a.List) left)))))) rfl) (VEv.int .i64 0) rfl) ?_
  refine nt ?_
  refine VRun.cond (tv (tB (decide (szR (zL zUsed a.Uses) (szR (zL zIssue a.Issues) (szR (zDraft a.Desk) (szR (zL zMeaning a.Dict) (szR (zL zListed a.List) left)))) < 0))) rfl) (fun hc4 => ?_) (fun hc4 => ?_)
  · have fhc4 : szR (zL zUsed a.Uses) (szR (zL zIssue a.Issues) (szR (zDraft a.Desk) (szR (zL zMeaning a.Dict) (szR (zL zListed a.List) left)))) < 0 := of_decide_eq_true hc4
    refine sr ?_
    refine fO (OF.assign (VEv.int .i64 (-1))) ?_
    refine nt ?_
    refine rt ?_
    refine tr ?_
    refine vi (n' := (-1)) rfl ?_
    exact szR_neg (by have hlt := szR_lt fhc4; simp only [zHouse]; omega)
  have fhc4 : ¬ (szR (zL zUsed a.Uses) (szR (zL zIssue a.Issues) (szR (zDraft a.Desk) (szR (zL zMeaning a.Dict) (szR (zL zListed a.List) left)))) < 0) := of_decide_eq_false hc4
  have hq4 := szR_pos fhc4
  refine sk ?_
  refine tn ?_
  refine sr ?_
  refine fO (OF.fieldAddrO (tv (T.op 0 0) rfl) fa43_5) ?_
  refine lO (OL.loadO1 (t := (rd 5 eCorrection a.Corrections)) (tv (T.op 0 10) rfl) rfl rfl st40) ?_
  refine mO (tI (szR (zL zUsed a.Uses) (szR (zL zIssue a.Issues) (szR (zDraft a.Desk) (szR (zL zMeaning a.Dict) (szR (zL zListed a.List) left)))))) rfl ?_
  refine cO (cS (vc (tv (rd 5 eCorrection a.Corrections) rfl) (vc (tv (tI (szR (zL zUsed a.Uses) (szR (zL zIssue a.Issues) (szR (zDraft a.Desk) (szR (zL zMeaning a.Dict) (szR (zL zListed a.List) left)))))) rfl) VEvs.nil)) (lp rfl (lp rfl (LendL.nil))) (W_laws_szCorrectionS (n + 2) a.Corrections (szR (zL zUsed a.Uses) (szR (zL zIssue a.Issues) (szR (zDraft a.Desk) (szR (zL zMeaning a.Dict) (szR (zL zListed a.List) left))))) (by first | assumption | omega) (by first | assumption | omega) (by first | assumption | omega)) rfl rfl) ?_
  refine aO (tI (szR (zL zCorrection a.Corrections) (szR (zL zUsed a.Uses) (szR (zL zIssue a.Issues) (szR (zDraft a.Desk) (szR (zL zMeaning a.Dict) (szR (zL zListed a.List) left))))))) rfl ?_
  refine nt ?_
  refine sq ?_
  refine sr ?_
  refine mO (tI (szR (zL zCorrection a.Corrections) (szR (zL zUsed a.Uses) (szR (zL zIssue a.Issues) (szR (zDraft a.Desk) (szR (zL zMeaning a.Dict) (szR (zL zListed a.List) left))))))) rfl ?_
  refine fO (B.lss (c := (decide (szR (zL zCorrection a.Corrections) (szR (zL zUsed a.Uses) (szR (zL zIssue a.Issues) (szR (zDraft a.Desk) (szR (zL zMeaning a.Dict) (szR (zL zListed a.List) left))))) < 0))) (tv (tI (szR (zL zCorrection a.Corrections) (szR (zL zUsed a.Uses) (szR (zL zIssue a.Issues) (szR (zDraft a.Desk) (szR (zL zMeaning a.Dict) (szR (zL zListed a.List) left))))))) rfl) (VEv.int .i64 0) rfl) ?_
  refine nt ?_
  refine VRun.cond (tv (tB (decide (szR (zL zCorrection a.Corrections) (szR (zL zUsed a.Uses) (szR (zL zIssue a.Issues) (szR (zDraft a.Desk) (szR (zL zMeaning a.Dict) (szR (zL zListed a.List) left))))) < 0))) rfl) (fun hc5 => ?_) (fun hc5 => ?_)
  · have fhc5 : szR (zL zCorrection a.Corrections) (szR (zL zUsed a.Uses) (szR (zL zIssue a.Issues) (szR (zDraft a.Desk) (szR (zL zMeaning a.Dict) (szR (zL zListed a.List) left))))) < 0 := of_decide_eq_true hc5
    refine sr ?_
    refine fO (OF.assign (VEv.int .i64 (-1))) ?_
    refine nt ?_
    refine rt ?_
    refine tr ?_
    refine vi (n' := (-1)) rfl ?_
    exact szR_neg (by have hlt := szR_lt fhc5; simp only [zHouse]; omega)
  have fhc5 : ¬ (szR (zL zCorrection a.Corrections) (szR (zL zUsed a.Uses) (szR (zL zIssue a.Issues) (szR (zDraft a.Desk) (szR (zL zMeaning a.Dict) (szR (zL zListed a.List) left))))) < 0) := of_decide_eq_false hc5
  have hq5 := szR_pos fhc5
  refine sk ?_
  refine tn ?_
  refine sr ?_
  refine fO (OF.fieldAddrO (tv (T.op 0 0) rfl) fa43_6) ?_
  refine lO (OL.loadO1 (t := (rd 4 eEntry a.Entries)) (tv (T.op 0 11) rfl) rfl rfl st41) ?_
  refine mO (tI (szR (zL zCorrection a.Corrections) (szR (zL zUsed a.Uses) (szR (zL zIssue a.Issues) (szR (zDraft a.Desk) (szR (zL zMeaning a.Dict) (szR (zL zListed a.List) left))))))) rfl ?_
  refine cO (cS (vc (tv (rd 4 eEntry a.Entries) rfl) (vc (tv (tI (szR (zL zCorrection a.Corrections) (szR (zL zUsed a.Uses) (szR (zL zIssue a.Issues) (szR (zDraft a.Desk) (szR (zL zMeaning a.Dict) (szR (zL zListed a.List) left))))))) rfl) VEvs.nil)) (lp rfl (lp rfl (LendL.nil))) (W_laws_szEntryS (n + 5) a.Entries (szR (zL zCorrection a.Corrections) (szR (zL zUsed a.Uses) (szR (zL zIssue a.Issues) (szR (zDraft a.Desk) (szR (zL zMeaning a.Dict) (szR (zL zListed a.List) left)))))) (by first | assumption | omega) (by first | assumption | omega) (by first | assumption | omega)) rfl rfl) ?_
  refine aO (tI (szR (zL zEntry a.Entries) (szR (zL zCorrection a.Corrections) (szR (zL zUsed a.Uses) (szR (zL zIssue a.Issues) (szR (zDraft a.Desk) (szR (zL zMeaning a.Dict) (szR (zL zListed a.List) left)))))))) rfl ?_
  refine nt ?_
  refine sq ?_
  refine sr ?_
  refine mO (tI (szR (zL zEntry a.Entries) (szR (zL zCorrection a.Corrections) (szR (zL zUsed a.Uses) (szR (zL zIssue a.Issues) (szR (zDraft a.Desk) (szR (zL zMeaning a.Dict) (szR (zL zListed a.List) left)))))))) rfl ?_
  refine fO (B.lss (c := (decide (szR (zL zEntry a.Entries) (szR (zL zCorrection a.Corrections) (szR (zL zUsed a.Uses) (szR (zL zIssue a.Issues) (szR (zDraft a.Desk) (szR (zL zMeaning a.Dict) (szR (zL zListed a.List) left)))))) < 0))) (tv (tI (szR (zL zEntry a.Entries) (szR (zL zCorrection a.Corrections) (szR (zL zUsed a.Uses) (szR (zL zIssue a.Issues) (szR (zDraft a.Desk) (szR (zL zMeaning a.Dict) (szR (zL zListed a.List) left)))))))) rfl) (VEv.int .i64 0) rfl) ?_
  refine nt ?_
  refine VRun.cond (tv (tB (decide (szR (zL zEntry a.Entries) (szR (zL zCorrection a.Corrections) (szR (zL zUsed a.Uses) (szR (zL zIssue a.Issues) (szR (zDraft a.Desk) (szR (zL zMeaning a.Dict) (szR (zL zListed a.List) left)))))) < 0))) rfl) (fun hc6 => ?_) (fun hc6 => ?_)
  · have fhc6 : szR (zL zEntry a.Entries) (szR (zL zCorrection a.Corrections) (szR (zL zUsed a.Uses) (szR (zL zIssue a.Issues) (szR (zDraft a.Desk) (szR (zL zMeaning a.Dict) (szR (zL zListed a.List) left)))))) < 0 := of_decide_eq_true hc6
    refine sr ?_
    refine fO (OF.assign (VEv.int .i64 (-1))) ?_
    refine nt ?_
    refine rt ?_
    refine tr ?_
    refine vi (n' := (-1)) rfl ?_
    exact szR_neg (by have hlt := szR_lt fhc6; simp only [zHouse]; omega)
  have fhc6 : ¬ (szR (zL zEntry a.Entries) (szR (zL zCorrection a.Corrections) (szR (zL zUsed a.Uses) (szR (zL zIssue a.Issues) (szR (zDraft a.Desk) (szR (zL zMeaning a.Dict) (szR (zL zListed a.List) left)))))) < 0) := of_decide_eq_false hc6
  have hq6 := szR_pos fhc6
  refine sk ?_
  refine tn ?_
  refine sr ?_
  refine mO (tI (szR (zL zEntry a.Entries) (szR (zL zCorrection a.Corrections) (szR (zL zUsed a.Uses) (szR (zL zIssue a.Issues) (szR (zDraft a.Desk) (szR (zL zMeaning a.Dict) (szR (zL zListed a.List) left)))))))) rfl ?_
  refine aO (tI (szR (zL zEntry a.Entries) (szR (zL zCorrection a.Corrections) (szR (zL zUsed a.Uses) (szR (zL zIssue a.Issues) (szR (zDraft a.Desk) (szR (zL zMeaning a.Dict) (szR (zL zListed a.List) left)))))))) rfl ?_
  refine nt ?_
  refine rt ?_
  refine vi (n' := szR (zL zEntry a.Entries) (szR (zL zCorrection a.Corrections) (szR (zL zUsed a.Uses) (szR (zL zIssue a.Issues) (szR (zDraft a.Desk) (szR (zL zMeaning a.Dict) (szR (zL zListed a.List) left))))))) rfl ?_
  rw [← szR_nn (z := zHouse a) (l := left) (by simp only [zHouse]; omega)]
  all_goals first | rfl | (simp only [zHouse]; done) | (simp only [zHouse]; omega)
end Go.Proofs.Ytfdefabncdddkaa.AE
