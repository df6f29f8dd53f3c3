/- Walks of the program's functions over trees. Conditions: as each theorem states. -/
import Derived.Test.YtfdefabncdddkaaKFnExactEqualHousesFto
namespace Go.Proofs.Ytfdefabncdddkaa.AE
open Go Go.RowKit
set_option linter.unusedVariables false
set_option linter.unusedSimpArgs false
set_option maxRecDepth 20000
set_option maxHeartbeats 2000000

theorem W_laws_eqIntS (n : Nat) (a : List Int) (b : List Int) (hla : a.length ≤ mx) (hlb : b.length ≤ mx) : Pure (acall Try.prog (n + 1)) 20 [(rd 1 eInt a), (rd 1 eInt b)] (tB (decide (a = b))) := by
  refine Pure.intro (rs := [ResultVar.tmp 4]) Try.func20 rfl rfl rfl (E0 := [(0, (rd 1 eInt a)), (1, (rd 1 eInt b))]) rfl ?_
  have hlim : lim = 1099511627776 := rfl
  have hmx : mx = 1048576 := rfl
  have hmax : maxLen = 9223372036854775807 := rfl
  refine sr ?_
  refine fO (OF.assign (VEv.bool false)) ?_
  refine nt ?_
  refine sq ?_
  refine sr ?_
  refine mO (rd 1 eInt a) rfl ?_
  refine lO (B.lenR (m := a.length) (tv (rd 1 eInt a) rfl) Try.underlying56 (List.length_map ..)) ?_
  refine mO (rd 1 eInt b) rfl ?_
  refine lO (B.lenR (m := b.length) (tv (rd 1 eInt b) rfl) Try.underlying56 (List.length_map ..)) ?_
  refine fO (B.neq (c := (!(decide (a.length = b.length)))) (tv (tN a.length) rfl) (tv (tN b.length) rfl) (by first | (exact decNn (by omega)))) ?_
  refine nt ?_
  refine VRun.cond (tv (tB (!(decide (a.length = b.length)))) rfl) (fun hc0 => ?_) (fun hc0 => ?_)
  · have fhc0 : ¬ (a.length = b.length) := ndT hc0
    refine sr ?_
    refine fO (OF.assign (VEv.bool false)) ?_
    refine nt ?_
    refine rt ?_
    refine tr ?_
    refine vb (b' := false) rfl ?_
    symm; rw [decide_eq_false_iff_not]; rintro rfl; exact fhc0 rfl
  have fhc0 : a.length = b.length := ndF hc0
  refine sk ?_
  refine tn ?_
  refine sq ?_
  refine sr ?_
  refine fO (OF.assign (VEv.int .i64 0)) ?_
  refine nt ?_
  refine VRun.block ?_
  refine VRun.loop (A := Nat) (fun s_ => [(0, (rd 1 eInt a)), (1, (rd 1 eInt b)), (5, (tN s_))]) (fun s_ => mkO []) 0 (fun s_ => s_ ≤ a.length ∧ ∀ j, j < s_ → a[j]? = b[j]?) (fun s_ => a.length - s_) (0 : Nat) ?_ (Wk.mk (fun k => k) ?_ ?_ ?_) ?_
  · first | trivial | (simp; done) | omega | (constructor <;> simp)
  · exact (ball_cons ⟨rfl, rfl⟩ (ball_cons ⟨rfl, rfl⟩ (ball_cons ⟨rfl, rfl⟩ (ball_nil))))
  · exact (ball_nil)
  · show List.Nodup ([] : List Nat)
    decide
  rintro i hI
  have hI' : i ≤ a.length ∧ ∀ j, j < i → a[j]? = b[j]? := hI
  clear hI
  show VRun _ _ _ [(0, (rd 1 eInt a)), (1, (rd 1 eInt b)), (5, (tN i))] (mkO []) 0 _
  refine sq ?_
  refine sr ?_
  refine mO (tN i) rfl ?_
  refine mO (rd 1 eInt a) rfl ?_
  refine lO (B.lenR (m := a.length) (tv (rd 1 eInt a) rfl) Try.underlying56 (List.length_map ..)) ?_
  refine fO (B.lss (c := (decide (i < a.length))) (tv (tN i) rfl) (tv (tN a.length) rfl) (by first | (exact decN (by omega)))) ?_
  refine nt ?_
  refine VRun.cond (tv (tB (decide (i < a.length))) rfl) (fun hc1 => ?_) (fun hc1 => ?_)
  · have fhc1 : i < a.length := of_decide_eq_true hc1
    refine sk ?_
    refine tn ?_
    refine sq ?_
    refine VRun.block ?_
    refine sq ?_
    refine VRun.draw (B := [[], [], [1, 0], [0, 1, 2], [], [], [5, 4], [4, 5, 6], [6, 5, 4, 7, 2, 1, 0, 3]]) (by kernel_rfl) (by kernel_rfl) ?_
    refine mD (rd 1 eInt a) rfl rfl ?_
    refine mD (tN i) rfl rfl ?_
    obtain ⟨x1, hx1⟩ : ∃ x, a[i]? = some x := ⟨_, List.getElem?_eq_getElem (by first | omega)⟩
    refine fD (OF.indexAddrR (row := (eInt false x1)) (i := i) (tv (rd 1 eInt a) rfl) (tv (tN i) rfl) rfl (map_at _ hx1) Try.underlying56 sz3 if3) rfl rfl ?_
    refine lD (OL.loadR1 (t := (tI x1)) (tv (T.rp [(tI x1)]) rfl) rfl st3) rfl rfl ?_
    refine mD (rd 1 eInt b) rfl rfl ?_
    refine mD (tN i) rfl rfl ?_
    obtain ⟨x2, hx2⟩ : ∃ x, b[i]? = some x := ⟨_, List.getElem?_eq_getElem (by first | omega)⟩
    refine fD (OF.indexAddrR (row := (eInt false x2)) (i := i) (tv (rd 1 eInt b) rfl) (tv (tN i) rfl) rfl (map_at _ hx2) Try.underlying56 sz3 if3) rfl rfl ?_
    refine lD (OL.loadR1 (t := (tI x2)) (tv (T.rp [(tI x2)]) rfl) rfl st3) rfl rfl ?_
    refine fD (B.neq (c := (!(decide (x1 = x2)))) (tv (tI x1) rfl) (tv (tI x2) rfl) rfl) rfl rfl ?_
    refine VRunD.nil ?_
    refine tn ?_
    refine VRun.cond (tv (tB (!(decide (x1 = x2)))) rfl) (fun hc2 => ?_) (fun hc2 => ?_)
    · have fhc2 : ¬ (x1 = x2) := ndT hc2
      refine sr ?_
      refine fO (OF.assign (VEv.bool false)) ?_
      refine nt ?_
      refine rt ?_
      refine vinB.r ?_
      refine tr ?_
      refine tr ?_
      refine vinB.r ?_
      refine tr ?_
      refine vb (b' := false) rfl ?_
      symm; rw [decide_eq_false_iff_not]; exact agree_not hx1 hx2 fhc2
    have fhc2 : x1 = x2 := ndF hc2
    refine sk ?_
    refine vinB.n ?_
    refine tn ?_
    refine VRun.region ?_
    refine mO (tN i) rfl ?_
    refine fO (B.add (n := (((i + 1) : Nat) : Int)) (tv (tN i) rfl) (VEv.int .i64 1) (by first | rfl | (rw [wrap64 (by omega)]; omega) | (rw [wrap64 (by omega)]; done))) ?_
    refine aO (tN (i + 1)) rfl ?_
    refine VRunO.nil ?_
    refine tn ?_
    refine ⟨(i + 1 : Nat), ?_, ?_, Wk.mk (fun k => k) ?_ ?_ ?_⟩
    · exact agree_next hI' hx1 hx2 fhc2
    · first | omega | (simp only []; omega) | (show _ < _; omega) | (simp; omega)
    · exact (ball_cons ⟨rfl, rfl⟩ (ball_cons ⟨rfl, rfl⟩ (ball_cons ⟨rfl, rfl⟩ (ball_nil))))
    · exact (ball_nil)
    · show List.Nodup ([] : List Nat)
      decide
  have fhc1 : ¬ (i < a.length) := of_decide_eq_false hc1
  refine VRun.exit ?_
  refine vthn.e ?_
  refine vthn.e ?_
  refine vinB.e ?_
  refine tn ?_
  refine sr ?_
  refine fO (OF.assign (VEv.bool true)) ?_
  refine nt ?_
  refine rt ?_
  refine vb (b' := true) rfl ?_
  symm; rw [decide_eq_true_eq]; exact agree_all hI' fhc0 fhc1
theorem W_laws_eqGrid (n : Nat) (a : D.Grid) (b : D.Grid)  : Pure (acall Try.prog (n + 1)) 51 [(T.agg (eGrid false a)), (T.agg (eGrid false b))] (tB (decide (a = b))) := by
  refine Pure.intro (rs := [ResultVar.tmp 4]) Try.func51 rfl rfl rfl (E0 := [(0, (T.agg (eGrid false a))), (1, (T.agg (eGrid false b)))]) rfl ?_
  have hlim : lim = 1099511627776 := rfl
  have hmx : mx = 1048576 := rfl
  have hmax : maxLen = 9223372036854775807 := rfl
  refine sr ?_
  refine kO (B.box (ts := (eGrid false a)) (tv (T.agg (eGrid false a)) rfl) nofun rfl) ?_
  refine kO (B.box (ts := (eGrid false b)) (tv (T.agg (eGrid false b)) rfl) nofun rfl) ?_
  refine fO (OF.assign (VEv.bool false)) ?_
  refine nt ?_
  refine sq ?_
  refine sr ?_
  refine fO (OF.fieldAddrO (tv (T.op 0 0) rfl) fa29_0) ?_
  refine lO (OL.loadO1 (t := (tI a.Rows)) (tv (T.op 0 0) rfl) rfl rfl st3) ?_
  refine fO (OF.fieldAddrO (tv (T.op 1 0) rfl) fa29_0) ?_
  refine lO (OL.loadO1 (t := (tI b.Rows)) (tv (T.op 1 0) rfl) rfl rfl st3) ?_
  refine fO (B.neq (c := (!(decide (a.Rows = b.Rows)))) (tv (tI a.Rows) rfl) (tv (tI b.Rows) rfl) rfl) ?_
  refine nt ?_
  refine VRun.cond (tv (tB (!(decide (a.Rows = b.Rows)))) rfl) (fun hc0 => ?_) (fun hc0 => ?_)
  · have fhc0 : ¬ (a.Rows = b.Rows) := ndT hc0
    refine sr ?_
    refine fO (OF.assign (VEv.bool false)) ?_
    refine nt ?_
    refine rt ?_
    refine tr ?_
    refine vb (b' := false) rfl ?_
    obtain ⟨a0, a1, a2⟩ := a
    obtain ⟨b0, b1, b2⟩ := b
    simp_all
  have fhc0 : a.Rows = b.Rows := ndF hc0
  refine sk ?_
  refine tn ?_
  refine sq ?_
  refine sr ?_
  refine fO (OF.fieldAddrO (tv (T.op 0 0) rfl) fa29_1) ?_
  refine lO (OL.loadO1 (t := (tI a.Cols)) (tv (T.op 0 1) rfl) rfl rfl st3) ?_
  refine fO (OF.fieldAddrO (tv (T.op 1 0) rfl) fa29_1) ?_
  refine lO (OL.loadO1 (t := (tI b.Cols)) (tv (T.op 1 1) rfl) rfl rfl st3) ?_
  refine fO (B.neq (c := (!(decide (a.Cols = b.Cols)))) (tv (tI a.Cols) rfl) (tv (tI b.Cols) rfl) rfl) ?_
  refine nt ?_
  refine VRun.cond (tv (tB (!(decide (a.Cols = b.Cols)))) rfl) (fun hc1 => ?_) (fun hc1 => ?_)
  · have fhc1 : ¬ (a.Cols = b.Cols) := ndT hc1
    refine sr ?_
    refine fO (OF.assign (VEv.bool false)) ?_
    refine nt ?_
    refine rt ?_
    refine tr ?_
    refine vb (b' := false) rfl ?_
    obtain ⟨a0, a1, a2⟩ := a
    obtain ⟨b0, b1, b2⟩ := b
    simp_all
  have fhc1 : a.Cols = b.Cols := ndF hc1
  refine sk ?_
  refine tn ?_
  refine sq ?_
  refine sr ?_
  refine fO (OF.fieldAddrO (tv (T.op 0 0) rfl) fa29_2) ?_
  refine lO (OL.loadO1 (t := (tS a.Cells)) (tv (T.op 0 2) rfl) rfl rfl st9) ?_
  refine fO (OF.fieldAddrO (tv (T.op 1 0) rfl) fa29_2) ?_
  refine lO (OL.loadO1 (t := (tS b.Cells)) (tv (T.op 1 2) rfl) rfl rfl st9) ?_
  refine fO (B.sneq (c := (!(decide (a.Cells = b.Cells)))) (tv (tS a.Cells) rfl) (tv (tS b.Cells) rfl) rfl) ?_
  refine nt ?_
  refine VRun.cond (tv (tB (!(decide (a.Cells = b.Cells)))) rfl) (fun hc2 => ?_) (fun hc2 => ?_)
  · have fhc2 : ¬ (a.Cells = b.Cells) := ndT hc2
    refine sr ?_
    refine fO (OF.assign (VEv.bool false)) ?_
    refine nt ?_
    refine rt ?_
    refine tr ?_
    refine vb (b' := false) rfl ?_
    obtain ⟨a0, a1, a2⟩ := a
    obtain ⟨b0, b1, b2⟩ := b
    simp_all
  have fhc2 : a.Cells = b.Cells := ndF hc2
  refine sk ?_
  refine tn ?_
  refine sr ?_
  refine fO (OF.assign (VEv.bool true)) ?_
  refine nt ?_
  refine rt ?_
  refine vb (b' := true) rfl ?_
  obtain ⟨a0, a1, a2⟩ := a
  obtain ⟨b0, b1, b2⟩ := b
  simp_all
theorem W_laws_eqStep (n : Nat) (a : D.Step) (b : D.Step)  : Pure (acall Try.prog (n + 1)) 146 [(T.agg (eStep false a)), (T.agg (eStep false b))] (tB (decide (a = b))) := by
  refine Pure.intro (rs := [ResultVar.tmp 4]) Try.func146 rfl rfl rfl (E0 := [(0, (T.agg (eStep false a))), (1, (T.agg (eStep false b)))]) rfl ?_
  have hlim : lim = 1099511627776 := rfl
  have hmx : mx = 1048576 := rfl
  have hmax : maxLen = 9223372036854775807 := rfl
  refine sr ?_
  refine kO (B.box (ts := (eStep false a)) (tv (T.agg (eStep false a)) rfl) nofun rfl) ?_
  refine kO (B.box (ts := (eStep false b)) (tv (T.agg (eStep false b)) rfl) nofun rfl) ?_
  refine fO (OF.assign (VEv.bool false)) ?_
  refine nt ?_
  refine sq ?_
  refine sr ?_
  refine fO (OF.fieldAddrO (tv (T.op 0 0) rfl) fa151_0) ?_
  refine lO (OL.loadO1 (t := (tI a.Kind)) (tv (T.op 0 0) rfl) rfl rfl st3) ?_
  refine fO (OF.fieldAddrO (tv (T.op 1 0) rfl) fa151_0) ?_
  refine lO (OL.loadO1 (t := (tI b.Kind)) (tv (T.op 1 0) rfl) rfl rfl st3) ?_
  refine fO (B.neq (c := (!(decide (a.Kind = b.Kind)))) (tv (tI a.Kind) rfl) (tv (tI b.Kind) rfl) rfl) ?_
  refine nt ?_
  refine VRun.cond (tv (tB (!(decide (a.Kind = b.Kind)))) rfl) (fun hc0 => ?_) (fun hc0 => ?_)
  · have fhc0 : ¬ (a.Kind = b.Kind) := ndT hc0
    refine sr ?_
    refine fO (OF.assign (VEv.bool false)) ?_
    refine nt ?_
    refine rt ?_
    refine tr ?_
    refine vb (b' := false) rfl ?_
    obtain ⟨a0, a1, a2, a3⟩ := a
    obtain ⟨b0, b1, b2, b3⟩ := b
    simp_all
  have fhc0 : a.Kind = b.Kind := ndF hc0
  refine sk ?_
  refine tn ?_
  refine sq ?_
  refine sr ?_
  refine fO (OF.fieldAddrO (tv (T.op 0 0) rfl) fa151_1) ?_
  refine lO (OL.loadO1 (t := (tS a.Word)) (tv (T.op 0 1) rfl) rfl rfl st9) ?_
  refine fO (OF.fieldAddrO (tv (T.op 1 0) rfl) fa151_1) ?_
  refine lO (OL.loadO1 (t := (tS b.Word)) (tv (T.op 1 1) rfl) rfl rfl st9) ?_
  refine fO (B.sneq (c := (!(decide (a.Word = b.Word)))) (tv (tS a.Word) rfl) (tv (tS b.Word) rfl) rfl) ?_
  refine nt ?_
  refine VRun.cond (tv (tB (!(decide (a.Word = b.Word)))) rfl) (fun hc1 => ?_) (fun hc1 => ?_)
  · have fhc1 : ¬ (a.Word = b.Word) := ndT hc1
    refine sr ?_
    refine fO (OF.assign (VEv.bool false)) ?_
    refine nt ?_
    refine rt ?_
    refine tr ?_
    refine vb (b' := false) rfl ?_
    obtain ⟨a0, a1, a2, a3⟩ := a
    obtain ⟨b0, b1, b2, b3⟩ := b
    simp_all
  have fhc1 : a.Word = b.Word := ndF hc1
  refine sk ?_
  refine tn ?_
  refine sq ?_
  refine sr ?_
  refine fO (OF.fieldAddrO (tv (T.op 0 0) rfl) fa151_2) ?_
  refine lO (OL.loadO1 (t := (tI a.A)) (tv (T.op 0 2) rfl) rfl rfl st3) ?_
  refine fO (OF.fieldAddrO (tv (T.op 1 0) rfl) fa151_2) ?_
  refine lO (OL.loadO1 (t := (tI b.A)) (tv (T.op 1 2) rfl) rfl rfl st3) ?_
  refine fO (B.neq (c := (!(decide (a.A = b.A)))) (tv (tI a.A) rfl) (tv (tI b.A) rfl) rfl) ?_
  refine nt ?_
  refine VRun.cond (tv (tB (!(decide (a.A = b.A)))) rfl) (fun hc2 => ?_) (fun hc2 => ?_)
  · have fhc2 : ¬ (a.A = b.A) := ndT hc2
    refine sr ?_
    refine fO (OF.assign (VEv.bool false)) ?_
    refine nt ?_
    refine rt ?_
    refine tr ?_
    refine vb (b' := false) rfl ?_
    obtain ⟨a0, a1, a2, a3⟩ := a
    obtain ⟨b0, b1, b2, b3⟩ := b
    simp_all
  have fhc2 : a.A = b.A := ndF hc2
  refine sk ?_
  refine tn ?_
  refine sq ?_
  refine sr ?_
  refine fO (OF.fieldAddrO (tv (T.op 0 0) rfl) fa151_3) ?_
  refine lO (OL.loadO1 (t := (tI a.B)) (tv (T.op 0 3) rfl) rfl rfl st3) ?_
  refine fO (OF.fieldAddrO (tv (T.op 1 0) rfl) fa151_3) ?_
  refine lO (OL.loadO1 (t := (tI b.B)) (tv (T.op 1 3) rfl) rfl rfl st3) ?_
  refine fO (B.neq (c := (!(decide (a.B = b.B)))) (tv (tI a.B) rfl) (tv (tI b.B) rfl) rfl) ?_
  refine nt ?_
  refine VRun.cond (tv (tB (!(decide (a.B = b.B)))) rfl) (fun hc3 => ?_) (fun hc3 => ?_)
  · have fhc3 : ¬ (a.B = b.B) := ndT hc3
    refine sr ?_
    refine fO (OF.assign (VEv.bool false)) ?_
    refine nt ?_
    refine rt ?_
    refine tr ?_
    refine vb (b' := false) rfl ?_
    obtain ⟨a0, a1, a2, a3⟩ := a
    obtain ⟨b0, b1, b2, b3⟩ := b
    simp_all
  have fhc3 : a.B = b.B := ndF hc3
  refine sk ?_
  refine tn ?_
  refine sr ?_
  refine fO (OF.assign (VEv.bool true)) ?_
  refine nt ?_
  refine rt ?_
  refine vb (b' := true) rfl ?_
  obtain ⟨a0, a1, a2, a3⟩ := a
  obtain ⟨b0, b1, b2, b3⟩ := b
  simp_all
theorem W_laws_eqStepS (n : Nat) (a : List D.Step) (b : List D.Step) (hla : a.length ≤ mx) (hlb : b.length ≤ mx) : Pure (acall Try.prog (n + 2)) 94 [(rd 4 eStep a), (rd 4 eStep b)] (tB (decide (a = b))) := by
  refine Pure.intro (rs := [ResultVar.tmp 4]) Try.func94 rfl rfl rfl (E0 := [(0, (rd 4 eStep a)), (1, (rd 4 eStep b))]) rfl ?_
  have hlim : lim = 1099511627776 := rfl
  have hmx : mx = 1048576 := rfl
  have hmax : maxLen = 9223372036854775807 := rfl
  refine sr ?_
  refine fO (OF.assign (VEv.bool false)) ?_
  refine nt ?_
  refine sq ?_
  refine sr ?_
  refine mO (rd 4 eStep a) rfl ?_
  refine lO (B.lenR (m := a.length) (tv (rd 4 eStep a) rfl) Try.underlying68 (List.length_map ..)) ?_
  refine mO (rd 4 eStep b) rfl ?_
  refine lO (B.lenR (m := b.length) (tv (rd 4 eStep b) rfl) Try.underlying68 (List.length_map ..)) ?_
  refine fO (B.neq (c := (!(decide (a.length = b.length)))) (tv (tN a.length) rfl) (tv (tN b.length) rfl) (by first | (exact decNn (by omega)))) ?_
  refine nt ?_
  refine VRun.cond (tv (tB (!(decide (a.length = b.length)))) rfl) (fun hc0 => ?_) (fun hc0 => ?_)
  · have fhc0 : ¬ (a.length = b.length) := ndT hc0
    refine sr ?_
    refine fO (OF.assign (VEv.bool false)) ?_
    refine nt ?_
    refine rt ?_
    refine tr ?_
    refine vb (b' := false) rfl ?_
    symm; rw [decide_eq_false_iff_not]; rintro rfl; exact fhc0 rfl
  have fhc0 : a.length = b.length := ndF hc0
  refine sk ?_
  refine tn ?_
  refine sq ?_
  refine sr ?_
  refine fO (OF.assign (VEv.int .i64 0)) ?_
  refine nt ?_
  refine VRun.block ?_
  refine VRun.loop (A := Nat) (fun s_ => [(0, (rd 4 eStep a)), (1, (rd 4 eStep b)), (5, (tN s_))]) (fun s_ => mkO []) 0 (fun s_ => s_ ≤ a.length ∧ ∀ j, j < s_ → a[j]? = b[j]?) (fun s_ => a.length - s_) (0 : Nat) ?_ (Wk.mk (fun k => k) ?_ ?_ ?_) ?_
  · first | trivial | (simp; done) | omega | (constructor <;> simp)
  · exact (ball_cons ⟨rfl, rfl⟩ (ball_cons ⟨rfl, rfl⟩ (ball_cons ⟨rfl, rfl⟩ (ball_nil))))
  · exact (ball_nil)
  · show List.Nodup ([] : List Nat)
    decide
  rintro i hI
  have hI' : i ≤ a.length ∧ ∀ j, j < i → a[j]? = b[j]? := hI
  clear hI
  show VRun _ _ _ [(0, (rd 4 eStep a)), (1, (rd 4 eStep b)), (5, (tN i))] (mkO []) 0 _
  refine sq ?_
  refine sr ?_
  refine mO (tN i) rfl ?_
  refine mO (rd 4 eStep a) rfl ?_
  refine lO (B.lenR (m := a.length) (tv (rd 4 eStep a) rfl) Try.underlying68 (List.length_map ..)) ?_
  refine fO (B.lss (c := (decide (i < a.length))) (tv (tN i) rfl) (tv (tN a.length) rfl) (by first | (exact decN (by omega)))) ?_
  refine nt ?_
  refine VRun.cond (tv (tB (decide (i < a.length))) rfl) (fun hc1 => ?_) (fun hc1 => ?_)
  · have fhc1 : i < a.length := of_decide_eq_true hc1
    refine sk ?_
    refine tn ?_
    refine sq ?_
    refine VRun.block ?_
    refine sq ?_
    refine VRun.draw (B := [[], [], [1, 0], [0, 1, 2], [], [], [5, 4], [4, 5, 6], [6, 5, 4, 7, 2, 1, 0, 3], [3, 0, 1, 2, 7, 4, 5, 6, 8]]) (by kernel_rfl) (by kernel_rfl) ?_
    refine mD (rd 4 eStep a) rfl rfl ?_
    refine mD (tN i) rfl rfl ?_
    obtain ⟨x1, hx1⟩ : ∃ x, a[i]? = some x := ⟨_, List.getElem?_eq_getElem (by first | omega)⟩
    refine fD (OF.indexAddrR (row := (eStep false x1)) (i := i) (tv (rd 4 eStep a) rfl) (tv (tN i) rfl) rfl (map_at _ hx1) Try.underlying68 sz151 if151) rfl rfl ?_
    refine lD (OL.loadRn (us := (eStep false x1)) (tv (T.rp (eStep false x1)) rfl) st151 sz151 (Nat.le_of_ble_eq_true rfl) rfl) rfl rfl ?_
    refine mD (rd 4 eStep b) rfl rfl ?_
    refine mD (tN i) rfl rfl ?_
    obtain ⟨x2, hx2⟩ : ∃ x, b[i]? = some x := ⟨_, List.getElem?_eq_getElem (by first | omega)⟩
    refine fD (OF.indexAddrR (row := (eStep false x2)) (i := i) (tv (rd 4 eStep b) rfl) (tv (tN i) rfl) rfl (map_at _ hx2) Try.underlying68 sz151 if151) rfl rfl ?_
    refine lD (OL.loadRn (us := (eStep false x2)) (tv (T.rp (eStep false x2)) rfl) st151 sz151 (Nat.le_of_ble_eq_true rfl) rfl) rfl rfl ?_
    refine VRunD.quiet (bi := [6, 5, 4, 7, 2, 1, 0, 3]) rfl VWant.always rfl rfl rfl (ball_nil) (cS (vc (tv (T.agg (eStep false x1)) rfl) (vc (tv (T.agg (eStep false x2)) rfl) VEvs.nil)) (LendL.cons (lg okeStep) (LendL.cons (lg okeStep) (LendL.nil))) (W_laws_eqStep (n + 0) x1 x2 ) rfl rfl) ?_
    refine fD (B.not (c := (!(decide (x1 = x2)))) (tv (tB (decide (x1 = x2))) rfl) rfl) rfl rfl ?_
    refine VRunD.nil ?_
    refine tn ?_
    refine VRun.cond (tv (tB (!(decide (x1 = x2)))) rfl) (fun hc2 => ?_) (fun hc2 => ?_)
    · have fhc2 : ¬ (x1 = x2) := ndT hc2
      refine sr ?_
      refine fO (OF.assign (VEv.bool false)) ?_
      refine nt ?_
      refine rt ?_
      refine vinB.r ?_
      refine tr ?_
      refine tr ?_
      refine vinB.r ?_
      refine tr ?_
      refine vb (b' := false) rfl ?_
      symm; rw [decide_eq_false_iff_not]; exact agree_not hx1 hx2 fhc2
    have fhc2 : x1 = x2 := ndF hc2
    refine sk ?_
    refine vinB.n ?_
    refine tn ?_
    refine VRun.region ?_
    refine mO (tN i) rfl ?_
    refine fO (B.add (n := (((i + 1) : Nat) : Int)) (tv (tN i) rfl) (VEv.int .i64 1) (by first | rfl | (rw [wrap64 (by omega)]; omega) | (rw [wrap64 (by omega)]; done))) ?_
    refine aO (tN (i + 1)) rfl ?_
    refine VRunO.nil ?_
    refine tn ?_
    refine ⟨(i + 1 : Nat), ?_, ?_, Wk.mk (fun k => k) ?_ ?_ ?_⟩
    · exact agree_next hI' hx1 hx2 fhc2
    · first | omega | (simp only []; omega) | (show _ < _; omega) | (simp; omega)
    · exact (ball_cons ⟨rfl, rfl⟩ (ball_cons ⟨rfl, rfl⟩ (ball_cons ⟨rfl, rfl⟩ (ball_nil))))
    · exact (ball_nil)
    · show List.Nodup ([] : List Nat)
      decide
  have fhc1 : ¬ (i < a.length) := of_decide_eq_false hc1
  refine VRun.exit ?_
  refine vthn.e ?_
  refine vthn.e ?_
  refine vinB.e ?_
  refine tn ?_
  refine sr ?_
  refine fO (OF.assign (VEv.bool true)) ?_
  refine nt ?_
  refine rt ?_
  refine vb (b' := true) rfl ?_
  symm; rw [decide_eq_true_eq]; exact agree_all hI' fhc0 fhc1
theorem W_laws_eqClue (n : Nat) (a : D.Clue) (b : D.Clue) (ha : zClue a ≤ mx) (hb : zClue b ≤ mx) : Pure (acall Try.prog (n + 3)) 28 [(T.agg (eClue false a)), (T.agg (eClue false b))] (tB (decide (a = b))) := by
  refine Pure.intro (rs := [ResultVar.tmp 4]) Try.func28 rfl rfl rfl (E0 := [(0, (T.agg (eClue false a))), (1, (T.agg (eClue false b)))]) rfl ?_
  have hlim : lim = 1099511627776 := rfl
  have hmx : mx = 1048576 := rfl
  have hmax : maxLen = 9223372036854775807 := rfl
  simp only [zClue] at ha hb
  have hla_Play := zL_len (z := zStep) a.Play
  have hlb_Play := zL_len (z := zStep) b.Play
  refine sr ?_
  refine kO (B.box (ts := (eClue false a)) (tv (T.agg (eClue false a)) rfl) nofun rfl) ?_
  refine kO (B.box (ts := (eClue false b)) (tv (T.agg (eClue false b)) rfl) nofun rfl) ?_
  refine fO (OF.assign (VEv.bool false)) ?_
  refine nt ?_
  refine sq ?_
  refine sr ?_
  refine fO (OF.fieldAddrO (tv (T.op 0 0) rfl) fa70_0) ?_
  refine lO (OL.loadO1 (t := (tI a.Sense)) (tv (T.op 0 0) rfl) rfl rfl st3) ?_
  refine fO (OF.fieldAddrO (tv (T.op 1 0) rfl) fa70_0) ?_
  refine lO (OL.loadO1 (t := (tI b.Sense)) (tv (T.op 1 0) rfl) rfl rfl st3) ?_
  refine fO (B.neq (c := (!(decide (a.Sense = b.Sense)))) (tv (tI a.Sense) rfl) (tv (tI b.Sense) rfl) rfl) ?_
  refine nt ?_
  refine VRun.cond (tv (tB (!(decide (a.Sense = b.Sense)))) rfl) (fun hc0 => ?_) (fun hc0 => ?_)
  · have fhc0 : ¬ (a.Sense = b.Sense) := ndT hc0
    refine sr ?_
    refine fO (OF.assign (VEv.bool false)) ?_
    refine nt ?_
    refine rt ?_
    refine tr ?_
    refine vb (b' := false) rfl ?_
    obtain ⟨a0, a1⟩ := a
    obtain ⟨b0, b1⟩ := b
    simp_all
  have fhc0 : a.Sense = b.Sense := ndF hc0
  refine sk ?_
  refine tn ?_
  refine sq ?_
  refine sr ?_
  refine fO (OF.fieldAddrO (tv (T.op 0 0) rfl) fa70_1) ?_
  refine lO (OL.loadO1 (t := (rd 4 eStep a.Play)) (tv (T.op 0 1) rfl) rfl rfl st68) ?_
  refine fO (OF.fieldAddrO (tv (T.op 1 0) rfl) fa70_1) ?_
  refine lO (OL.loadO1 (t := (rd 4 eStep b.Play)) (tv (T.op 1 1) rfl) rfl rfl st68) ?_
  refine cO (cS (vc (tv (rd 4 eStep a.Play) rfl) (vc (tv (rd 4 eStep b.Play) rfl) VEvs.nil)) (lp rfl (lp rfl (LendL.nil))) (W_laws_eqStepS (n + 0) a.Play b.Play (by first | assumption | omega) (by first | assumption | omega)) rfl rfl) ?_
  refine fO (B.not (c := (!(decide (a.Play = b.Play)))) (tv (tB (decide (a.Play = b.Play))) rfl) rfl) ?_
  refine nt ?_
  refine VRun.cond (tv (tB (!(decide (a.Play = b.Play)))) rfl) (fun hc1 => ?_) (fun hc1 => ?_)
  · have fhc1 : ¬ (a.Play = b.Play) := ndT hc1
    refine sr ?_
    refine fO (OF.assign (VEv.bool false)) ?_
    refine nt ?_
    refine rt ?_
    refine tr ?_
    refine vb (b' := false) rfl ?_
    obtain ⟨a0, a1⟩ := a
    obtain ⟨b0, b1⟩ := b
    simp_all
  have fhc1 : a.Play = b.Play := ndF hc1
  refine sk ?_
  refine tn ?_
  refine sr ?_
  refine fO (OF.assign (VEv.bool true)) ?_
  refine nt ?_
  refine rt ?_
  refine vb (b' := true) rfl ?_
  obtain ⟨a0, a1⟩ := a
  obtain ⟨b0, b1⟩ := b
  simp_all
theorem W_laws_eqClueS (n : Nat) (a : List D.Clue) (b : List D.Clue) (ha : zL zClue a ≤ mx) (hb : zL zClue b ≤ mx) : Pure (acall Try.prog (n + 4)) 52 [(rd 2 eClue a), (rd 2 eClue b)] (tB (decide (a = b))) := by
  refine Pure.intro (rs := [ResultVar.tmp 4]) Try.func52 rfl rfl rfl (E0 := [(0, (rd 2 eClue a)), (1, (rd 2 eClue b))]) rfl ?_
  have hlim : lim = 1099511627776 := rfl
  have hmx : mx = 1048576 := rfl
  have hmax : maxLen = 9223372036854775807 := rfl
  have hla := zL_len (z := zClue) a
  have hlb := zL_len (z := zClue) b
  refine sr ?_
  refine fO (OF.assign (VEv.bool false)) ?_
  refine nt ?_
  refine sq ?_
  refine sr ?_
  refine mO (rd 2 eClue a) rfl ?_
  refine lO (B.lenR (m := a.length) (tv (rd 2 eClue a) rfl) Try.underlying30 (List.length_map ..)) ?_
  refine mO (rd 2 eClue b) rfl ?_
  refine lO (B.lenR (m := b.length) (tv (rd 2 eClue b) rfl) Try.underlying30 (List.length_map ..)) ?_
  refine fO (B.neq (c := (!(decide (a.length = b.length)))) (tv (tN a.length) rfl) (tv (tN b.length) rfl) (by first | exact Nat.le_trans (zL_at hx1) ha | exact Nat.le_trans (zL_at hx2) hb | (exact decNn (by omega)))) ?_
  refine nt ?_
  refine VRun.cond (tv (tB (!(decide (a.length = b.length)))) rfl) (fun hc0 => ?_) (fun hc0 => ?_)
  · have fhc0 : ¬ (a.length = b.length) := ndT hc0
    refine sr ?_
    refine fO (OF.assign (VEv.bool false)) ?_
    refine nt ?_
    refine rt ?_
    refine tr ?_
    refine vb (b' := false) rfl ?_
    symm; rw [decide_eq_false_iff_not]; rintro rfl; exact fhc0 rfl
  have fhc0 : a.length = b.length := ndF hc0
  refine sk ?_
  refine tn ?_
  refine sq ?_
  refine sr ?_
  refine fO (OF.assign (VEv.int .i64 0)) ?_
  refine nt ?_
  refine VRun.block ?_
  refine VRun.loop (A := Nat) (fun s_ => [(0, (rd 2 eClue a)), (1, (rd 2 eClue b)), (5, (tN s_))]) (fun s_ => mkO []) 0 (fun s_ => s_ ≤ a.length ∧ ∀ j, j < s_ → a[j]? = b[j]?) (fun s_ => a.length - s_) (0 : Nat) ?_ (Wk.mk (fun k => k) ?_ ?_ ?_) ?_
  · first | trivial | (simp; done) | omega | (constructor <;> simp)
  · exact (ball_cons ⟨rfl, rfl⟩ (ball_cons ⟨rfl, rfl⟩ (ball_cons ⟨rfl, rfl⟩ (ball_nil))))
  · exact (ball_nil)
  · show List.Nodup ([] : List Nat)
    decide
  rintro i hI
  have hI' : i ≤ a.length ∧ ∀ j, j < i → a[j]? = b[j]? := hI
  clear hI
  show VRun _ _ _ [(0, (rd 2 eClue a)), (1, (rd 2 eClue b)), (5, (tN i))] (mkO []) 0 _
  refine sq ?_
  refine sr ?_
  refine mO (tN i) rfl ?_
  refine mO (rd 2 eClue a) rfl ?_
  refine lO (B.lenR (m := a.length) (tv (rd 2 eClue a) rfl) Try.underlying30 (List.length_map ..)) ?_
  refine fO (B.lss (c := (decide (i < a.length))) (tv (tN i) rfl) (tv (tN a.length) rfl) (by first | exact Nat.le_trans (zL_at hx1) ha | exact Nat.le_trans (zL_at hx2) hb | (exact decN (by omega)))) ?_
  refine nt ?_
  refine VRun.cond (tv (tB (decide (i < a.length))) rfl) (fun hc1 => ?_) (fun hc1 => ?_)
  · have fhc1 : i < a.length := of_decide_eq_true hc1
    refine sk ?_
    refine tn ?_
    refine sq ?_
    refine VRun.block ?_
    refine sq ?_
    refine VRun.draw (B := [[], [], [1, 0], [0, 1, 2], [], [], [5, 4], [4, 5, 6], [6, 5, 4, 7, 2, 1, 0, 3], [3, 0, 1, 2, 7, 4, 5, 6, 8]]) (by kernel_rfl) (by kernel_rfl) ?_
    refine mD (rd 2 eClue a) rfl rfl ?_
    refine mD (tN i) rfl rfl ?_
    obtain ⟨x1, hx1⟩ : ∃ x, a[i]? = some x := ⟨_, List.getElem?_eq_getElem (by first | exact Nat.le_trans (zL_at hx1) ha | exact Nat.le_trans (zL_at hx2) hb | omega)⟩
    refine fD (OF.indexAddrR (row := (eClue false x1)) (i := i) (tv (rd 2 eClue a) rfl) (tv (tN i) rfl) rfl (map_at _ hx1) Try.underlying30 sz70 if70) rfl rfl ?_
    refine lD (OL.loadRn (us := (eClue false x1)) (tv (T.rp (eClue false x1)) rfl) st70 sz70 (Nat.le_of_ble_eq_true rfl) rfl) rfl rfl ?_
    refine mD (rd 2 eClue b) rfl rfl ?_
    refine mD (tN i) rfl rfl ?_
    obtain ⟨x2, hx2⟩ : ∃ x, b[i]? = some x := ⟨_, List.getElem?_eq_getElem (by first | exact Nat.le_trans (zL_at hx1) ha | exact Nat.le_trans (zL_at hx2) hb | omega)⟩
    refine fD (OF.indexAddrR (row := (eClue false x2)) (i := i) (tv (rd 2 eClue b) rfl) (tv (tN i) rfl) rfl (map_at _ hx2) Try.underlying30 sz70 if70) rfl rfl ?_
    refine lD (OL.loadRn (us := (eClue false x2)) (tv (T.rp (eClue false x2)) rfl) st70 sz70 (Nat.le_of_ble_eq_true rfl) rfl) rfl rfl ?_
    refine VRunD.quiet (bi := [6, 5, 4, 7, 2, 1, 0, 3]) rfl VWant.always rfl rfl rfl (ball_nil) (cS (vc (tv (T.agg (eClue false x1)) rfl) (vc (tv (T.agg (eClue false x2)) rfl) VEvs.nil)) (LendL.cons (lg okeClue) (LendL.cons (lg okeClue) (LendL.nil))) (W_laws_eqClue (n + 0) x1 x2 (by first | exact Nat.le_trans (zL_at hx1) ha | exact Nat.le_trans (zL_at hx2) hb | assumption | omega) (by first | exact Nat.le_trans (zL_at hx1) ha | exact Nat.le_trans (zL_at hx2) hb | assumption | omega)) rfl rfl) ?_
    refine fD (B.not (c := (!(decide (x1 = x2)))) (tv (tB (decide (x1 = x2))) rfl) rfl) rfl rfl ?_
    refine VRunD.nil ?_
    refine tn ?_
    refine VRun.cond (tv (tB (!(decide (x1 = x2)))) rfl) (fun hc2 => ?_) (fun hc2 => ?_)
    · have fhc2 : ¬ (x1 = x2) := ndT hc2
      refine sr ?_
      refine fO (OF.assign (VEv.bool false)) ?_
      refine nt ?_
      refine rt ?_
      refine vinB.r ?_
      refine tr ?_
      refine tr ?_
      refine vinB.r ?_
      refine tr ?_
      refine vb (b' := false) rfl ?_
      symm; rw [decide_eq_false_iff_not]; exact agree_not hx1 hx2 fhc2
    have fhc2 : x1 = x2 := ndF hc2
    refine sk ?_
    refine vinB.n ?_
    refine tn ?_
    refine VRun.region ?_
    refine mO (tN i) rfl ?_
    refine fO (B.add (n := (((i + 1) : Nat) : Int)) (tv (tN i) rfl) (VEv.int .i64 1) (by first | exact Nat.le_trans (zL_at hx1) ha | exact Nat.le_trans (zL_at hx2) hb | rfl | (rw [wrap64 (by omega)]; omega) | (rw [wrap64 (by omega)]; done))) ?_
    refine aO (tN (i + 1)) rfl ?_
    refine VRunO.nil ?_
    refine tn ?_
    refine ⟨(i + 1 : Nat), ?_, ?_, Wk.mk (fun k => k) ?_ ?_ ?_⟩
    · exact agree_next hI' hx1 hx2 fhc2
    · first | omega | (simp only []; omega) | (show _ < _; omega) | (simp; omega)
    · exact (ball_cons ⟨rfl, rfl⟩ (ball_cons ⟨rfl, rfl⟩ (ball_cons ⟨rfl, rfl⟩ (ball_nil))))
    · exact (ball_nil)
    · show List.Nodup ([] : List Nat)
      decide
  have fhc1 : ¬ (i < a.length) := of_decide_eq_false hc1
  refine VRun.exit ?_
  refine vthn.e ?_
  refine vthn.e ?_
  refine vinB.e ?_
  refine tn ?_
  refine sr ?_
  refine fO (OF.assign (VEv.bool true)) ?_
  refine nt ?_
  refine rt ?_
  refine vb (b' := true) rfl ?_
  symm; rw [decide_eq_true_eq]; exact agree_all hI' fhc0 fhc1
theorem W_laws_eqDraft (n : Nat) (a : D.Draft) (b : D.Draft) (ha : zDraft a ≤ mx) (hb : zDraft b ≤ mx) : Pure (acall Try.prog (n + 5)) 12 [(T.agg (eDraft false a)), (T.agg (eDraft false b))] (tB (decide (a = b))) := by
  refine Pure.intro (rs := [ResultVar.tmp 4]) Try.func12 rfl rfl rfl (E0 := [(0, (T.agg (eDraft false a))), (1, (T.agg (eDraft false b)))]) rfl ?_
  have hlim : lim = 1099511627776 := rfl
  have hmx : mx = 1048576 := rfl
  have hmax : maxLen = 9223372036854775807 := rfl
  simp only [zDraft] at ha hb
  have hla_Clues := zL_len (z := zClue) a.Clues
  have hlb_Clues := zL_len (z := zClue) b.Clues
  refine sr ?_
  refine kO (B.box (ts := (eDraft false a)) (tv (T.agg (eDraft false a)) rfl) nofun rfl) ?_
  refine kO (B.box (ts := (eDraft false b)) (tv (T.agg (eDraft false b)) rfl) nofun rfl) ?_
  refine fO (OF.assign (VEv.bool false)) ?_
  refine nt ?_
  refine sq ?_
  refine sr ?_
  refine fO (OF.fieldAddrO (tv (T.op 0 0) rfl) fa32_0) ?_
  refine lO (OL.loadOn (us := (eGrid false a.Grid)) (tv (T.op 0 0) rfl) rfl st29 sz29 (Nat.le_of_ble_eq_true rfl) rfl) ?_
  refine fO (OF.fieldAddrO (tv (T.op 1 0) rfl) fa32_0) ?_
  refine lO (OL.loadOn (us := (eGrid false b.Grid)) (tv (T.op 1 0) rfl) rfl st29 sz29 (Nat.le_of_ble_eq_true rfl) rfl) ?_
  refine cO (cS (vc (tv (T.agg (eGrid false a.Grid)) rfl) (vc (tv (T.agg (eGrid false b.Grid)) rfl) VEvs.nil)) (LendL.cons (lg okeGrid) (LendL.cons (lg okeGrid) (LendL.nil))) (W_laws_eqGrid (n + 3) a.Grid b.Grid ) rfl rfl) ?_
  refine fO (B.not (c := (!(decide (a.Grid = b.Grid)))) (tv (tB (decide (a.Grid = b.Grid))) rfl) rfl) ?_
  refine nt ?_
  refine VRun.cond (tv (tB (!(decide (a.Grid = b.Grid)))) rfl) (fun hc0 => ?_) (fun hc0 => ?_)
  · have fhc0 : ¬ (a.Grid = b.Grid) := ndT hc0
    refine sr ?_
    refine fO (OF.assign (VEv.bool false)) ?_
    refine nt ?_
    refine rt ?_
    refine tr ?_
    refine vb (b' := false) rfl ?_
    obtain ⟨a0, a1, a2, a3⟩ := a
    obtain ⟨b0, b1, b2, b3⟩ := b
    simp_all
  have fhc0 : a.Grid = b.Grid := ndF hc0
  refine sk ?_
  refine tn ?_
  refine sq ?_
  refine sr ?_
  refine fO (OF.fieldAddrO (tv (T.op 0 0) rfl) fa32_1) ?_
  refine lO (OL.loadO1 (t := (tS a.Fill)) (tv (T.op 0 3) rfl) rfl rfl st9) ?_
  refine fO (OF.fieldAddrO (tv (T.op 1 0) rfl) fa32_1) ?_
  refine lO (OL.loadO1 (t := (tS b.Fill)) (tv (T.op 1 3) rfl) rfl rfl st9) ?_
  refine fO (B.sneq (c := (!(decide (a.Fill = b.Fill)))) (tv (tS a.Fill) rfl) (tv (tS b.Fill) rfl) rfl) ?_
  refine nt ?_
  refine VRun.cond (tv (tB (!(decide (a.Fill = b.Fill)))) rfl) (fun hc1 => ?_) (fun hc1 => ?_)
  · have fhc1 : ¬ (a.Fill = b.Fill) := ndT hc1
    refine sr ?_
    refine fO (OF.assign (VEv.bool false)) ?_
    refine nt ?_
    refine rt ?_
    refine tr ?_
    refine vb (b' := false) rfl ?_
    obtain ⟨a0, a1, a2, a3⟩ := a
    obtain ⟨b0, b1, b2, b3⟩ := b
    simp_all
  have fhc1 : a.Fill = b.Fill := ndF hc1
  refine sk ?_
  refine tn ?_
  refine sq ?_
  refine sr ?_
  refine fO (OF.fieldAddrO (tv (T.op 0 0) rfl) fa32_2) ?_
  refine lO (OL.loadO1 (t := (rd 2 eClue a.Clues)) (tv (T.op 0 4) rfl) rfl rfl st30) ?_
  refine fO (OF.fieldAddrO (tv (T.op 1 0) rfl) fa32_2) ?_
  refine lO (OL.loadO1 (t := (rd 2 eClue b.Clues)) (tv (T.op 1 4) rfl) rfl rfl st30) ?_
  refine cO (cS (vc (tv (rd 2 eClue a.Clues) rfl) (vc (tv (rd 2 eClue b.Clues) rfl) VEvs.nil)) (lp rfl (lp rfl (LendL.nil))) (W_laws_eqClueS (n + 0) a.Clues b.Clues (by first | assumption | omega) (by first | assumption | omega)) rfl rfl) ?_
  refine fO (B.not (c := (!(decide (a.Clues = b.Clues)))) (tv (tB (decide (a.Clues = b.Clues))) rfl) rfl) ?_
  refine nt ?_
  refine VRun.cond (tv (tB (!(decide (a.Clues = b.Clues)))) rfl) (fun hc2 => ?_) (fun hc2 => ?_)
  · have fhc2 : ¬ (a.Clues = b.Clues) := ndT hc2
    refine sr ?_
    refine fO (OF.assign (VEv.bool false)) ?_
    refine nt ?_
    refine rt ?_
    refine tr ?_
    refine vb (b' := false) rfl ?_
    obtain ⟨a0, a1, a2, a3⟩ := a
    obtain ⟨b0, b1, b2, b3⟩ := b
    simp_all
  have fhc2 : a.Clues = b.Clues := ndF hc2
  refine sk ?_
  refine tn ?_
  refine sq ?_
  refine sr ?_
  refine fO (OF.fieldAddrO (tv (T.op 0 0) rfl) fa32_3) ?_
  refine lO (OL.loadO1 (t := (tI a.Version)) (tv (T.op 0 5) rfl) rfl rfl st3) ?_
  refine fO (OF.fieldAddrO (tv (T.op 1 0) rfl) fa32_3) ?_
  refine lO (OL.loadO1 (t := (tI b.Version)) (tv (T.op 1 5) rfl) rfl rfl st3) ?_
  refine fO (B.neq (c := (!(decide (a.Version = b.Version)))) (tv (tI a.Version) rfl) (tv (tI b.Version) rfl) rfl) ?_
  refine nt ?_
  refine VRun.cond (tv (tB (!(decide (a.Version = b.Version)))) rfl) (fun hc3 => ?_) (fun hc3 => ?_)
  · have fhc3 : ¬ (a.Version = b.Version) := ndT hc3
    refine sr ?_
    refine fO (OF.assign (VEv.bool false)) ?_
    refine nt ?_
    refine rt ?_
    refine tr ?_
    refine vb (b' := false) rfl ?_
    obtain ⟨a0, a1, a2, a3⟩ := a
    obtain ⟨b0, b1, b2, b3⟩ := b
    simp_all
  have fhc3 : a.Version = b.Version := ndF hc3
  refine sk ?_
  refine tn ?_
  refine sr ?_
  refine fO (OF.assign (VEv.bool true)) ?_
  refine nt ?_
  refine rt ?_
  refine vb (b' := true) rfl ?_
  obtain ⟨a0, a1, a2, a3⟩ := a
  obtain ⟨b0, b1, b2, b3⟩ := b
  simp_all
theorem W_laws_eqListed (n : Nat) (a : D.Listed) (b : D.Listed)  : Pure (acall Try.prog (n + 1)) 134 [(T.agg (eListed false a)), (T.agg (eListed false b))] (tB (decide (a = b))) := by
  refine Pure.intro (rs := [ResultVar.tmp 4]) Try.func134 rfl rfl rfl (E0 := [(0, (T.agg (eListed false a))), (1, (T.agg (eListed false b)))]) rfl ?_
  have hlim : lim = 1099511627776 := rfl
  have hmx : mx = 1048576 := rfl
  have hmax : maxLen = 9223372036854775807 := rfl
  refine sr ?_
  refine kO (B.box (ts := (eListed false a)) (tv (T.agg (eListed false a)) rfl) nofun rfl) ?_
  refine kO (B.box (ts := (eListed false b)) (tv (T.agg (eListed false b)) rfl) nofun rfl) ?_
  refine fO (OF.assign (VEv.bool false)) ?_
  refine nt ?_
  refine sq ?_
  refine sr ?_
  refine fO (OF.fieldAddrO (tv (T.op 0 0) rfl) fa111_0) ?_
  refine lO (OL.loadO1 (t := (tS a.Word)) (tv (T.op 0 0) rfl) rfl rfl st9) ?_
  refine fO (OF.fieldAddrO (tv (T.op 1 0) rfl) fa111_0) ?_
  refine lO (OL.loadO1 (t := (tS b.Word)) (tv (T.op 1 0) rfl) rfl rfl st9) ?_
  refine fO (B.sneq (c := (!(decide (a.Word = b.Word)))) (tv (tS a.Word) rfl) (tv (tS b.Word) rfl) rfl) ?_
  refine nt ?_
  refine VRun.cond (tv (tB (!(decide (a.Word = b.Word)))) rfl) (fun hc0 => ?_) (fun hc0 => ?_)
  · have fhc0 : ¬ (a.Word = b.Word) := ndT hc0
    refine sr ?_
    refine fO (OF.assign (VEv.bool false)) ?_
    refine nt ?_
    refine rt ?_
    refine tr ?_
    refine vb (b' := false) rfl ?_
    obtain ⟨a0, a1, a2, a3⟩ := a
    obtain ⟨b0, b1, b2, b3⟩ := b
    simp_all
  have fhc0 : a.Word = b.Word := ndF hc0
  refine sk ?_
  refine tn ?_
  refine sq ?_
  refine sr ?_
  refine fO (OF.fieldAddrO (tv (T.op 0 0) rfl) fa111_1) ?_
  refine lO (OL.loadO1 (t := (tI a.From)) (tv (T.op 0 1) rfl) rfl rfl st3) ?_
  refine fO (OF.fieldAddrO (tv (T.op 1 0) rfl) fa111_1) ?_
  refine lO (OL.loadO1 (t := (tI b.From)) (tv (T.op 1 1) rfl) rfl rfl st3) ?_
  refine fO (B.neq (c := (!(decide (a.From = b.From)))) (tv (tI a.From) rfl) (tv (tI b.From) rfl) rfl) ?_
  refine nt ?_
  refine VRun.cond (tv (tB (!(decide (a.From = b.From)))) rfl) (fun hc1 => ?_) (fun hc1 => ?_)
  · have fhc1 : ¬ (a.From = b.From) := ndT hc1
    refine sr ?_
    refine fO (OF.assign (VEv.bool false)) ?_
    refine nt ?_
    refine rt ?_
    refine tr ?_
    refine vb (b' := false) rfl ?_
    obtain ⟨a0, a1, a2, a3⟩ := a
    obtain ⟨b0, b1, b2, b3⟩ := b
    simp_all
  have fhc1 : a.From = b.From := ndF hc1
  refine sk ?_
  refine tn ?_
  refine sq ?_
  refine sr ?_
  refine fO (OF.fieldAddrO (tv (T.op 0 0) rfl) fa111_2) ?_
  refine lO (OL.loadO1 (t := (tI a.Until)) (tv (T.op 0 2) rfl) rfl rfl st3) ?_
  refine fO (OF.fieldAddrO (tv (T.op 1 0) rfl) fa111_2) ?_
  refine lO (OL.loadO1 (t := (tI b.Until)) (tv (T.op 1 2) rfl) rfl rfl st3) ?_
  refine fO (B.neq (c := (!(decide (a.Until = b.Until)))) (tv (tI a.Until) rfl) (tv (tI b.Until) rfl) rfl) ?_
  refine nt ?_
  refine VRun.cond (tv (tB (!(decide (a.Until = b.Until)))) rfl) (fun hc2 => ?_) (fun hc2 => ?_)
  · have fhc2 : ¬ (a.Until = b.Until) := ndT hc2
    refine sr ?_
    refine fO (OF.assign (VEv.bool false)) ?_
    refine nt ?_
    refine rt ?_
    refine tr ?_
    refine vb (b' := false) rfl ?_
    obtain ⟨a0, a1, a2, a3⟩ := a
    obtain ⟨b0, b1, b2, b3⟩ := b
    simp_all
  have fhc2 : a.Until = b.Until := ndF hc2
  refine sk ?_
  refine tn ?_
  refine sq ?_
  refine sr ?_
  refine fO (OF.fieldAddrO (tv (T.op 0 0) rfl) fa111_3) ?_
  refine lO (OL.loadO1 (t := (tI a.Score)) (tv (T.op 0 3) rfl) rfl rfl st3) ?_
  refine fO (OF.fieldAddrO (tv (T.op 1 0) rfl) fa111_3) ?_
  refine lO (OL.loadO1 (t := (tI b.Score)) (tv (T.op 1 3) rfl) rfl rfl st3) ?_
  refine fO (B.neq (c := (!(decide (a.Score = b.Score)))) (tv (tI a.Score) rfl) (tv (tI b.Score) rfl) rfl) ?_
  refine nt ?_
  refine VRun.cond (tv (tB (!(decide (a.Score = b.Score)))) rfl) (fun hc3 => ?_) (fun hc3 => ?_)
  · have fhc3 : ¬ (a.Score = b.Score) := ndT hc3
    refine sr ?_
    refine fO (OF.assign (VEv.bool false)) ?_
    refine nt ?_
    refine rt ?_
    refine tr ?_
    refine vb (b' := false) rfl ?_
    obtain ⟨a0, a1, a2, a3⟩ := a
    obtain ⟨b0, b1, b2, b3⟩ := b
    simp_all
  have fhc3 : a.Score = b.Score := ndF hc3
  refine sk ?_
  refine tn ?_
  refine sr ?_
  refine fO (OF.assign (VEv.bool true)) ?_
  refine nt ?_
  refine rt ?_
  refine vb (b' := true) rfl ?_
  obtain ⟨a0, a1, a2, a3⟩ := a
  obtain ⟨b0, b1, b2, b3⟩ := b
  simp_all
theorem W_laws_eqListedS (n : Nat) (a : List D.Listed) (b : List D.Listed) (hla : a.length ≤ mx) (hlb : b.length ≤ mx) : Pure (acall Try.prog (n + 2)) 78 [(rd 4 eListed a), (rd 4 eListed b)] (tB (decide (a = b))) := by
  refine Pure.intro (rs := [ResultVar.tmp 4]) Try.func78 rfl rfl rfl (E0 := [(0, (rd 4 eListed a)), (1, (rd 4 eListed b))]) rfl ?_
  have hlim : lim = 1099511627776 := rfl
  have hmx : mx = 1048576 := rfl
  have hmax : maxLen = 9223372036854775807 := rfl
  refine sr ?_
  refine fO (OF.assign (VEv.bool false)) ?_
  refine nt ?_
  refine sq ?_
  refine sr ?_
  refine mO (rd 4 eListed a) rfl ?_
  refine lO (B.lenR (m := a.length) (tv (rd 4 eListed a) rfl) Try.underlying46 (List.length_map ..)) ?_
  refine mO (rd 4 eListed b) rfl ?_
  refine lO (B.lenR (m := b.length) (tv (rd 4 eListed b) rfl) Try.underlying46 (List.length_map ..)) ?_
  refine fO (B.neq (c := (!(decide (a.length = b.length)))) (tv (tN a.length) rfl) (tv (tN b.length) rfl) (by first | (exact decNn (by omega)))) ?_
  refine nt ?_
  refine VRun.cond (tv (tB (!(decide (a.length = b.length)))) rfl) (fun hc0 => ?_) (fun hc0 => ?_)
  · have fhc0 : ¬ (a.length = b.length) := ndT hc0
    refine sr ?_
    refine fO (OF.assign (VEv.bool false)) ?_
    refine nt ?_
    refine rt ?_
    refine tr ?_
    refine vb (b' := false) rfl ?_
    symm; rw [decide_eq_false_iff_not]; rintro rfl; exact fhc0 rfl
  have fhc0 : a.length = b.length := ndF hc0
  refine sk ?_
  refine tn ?_
  refine sq ?_
  refine sr ?_
  refine fO (OF.assign (VEv.int .i64 0)) ?_
  refine nt ?_
  refine VRun.block ?_
  refine VRun.loop (A := Nat) (fun s_ => [(0, (rd 4 eListed a)), (1, (rd 4 eListed b)), (5, (tN s_))]) (fun s_ => mkO []) 0 (fun s_ => s_ ≤ a.length ∧ ∀ j, j < s_ → a[j]? = b[j]?) (fun s_ => a.length - s_) (0 : Nat) ?_ (Wk.mk (fun k => k) ?_ ?_ ?_) ?_
  · first | trivial | (simp; done) | omega | (constructor <;> simp)
  · exact (ball_cons ⟨rfl, rfl⟩ (ball_cons ⟨rfl, rfl⟩ (ball_cons ⟨rfl, rfl⟩ (ball_nil))))
  · exact (ball_nil)
  · show List.Nodup ([] : List Nat)
    decide
  rintro i hI
  have hI' : i ≤ a.length ∧ ∀ j, j < i → a[j]? = b[j]? := hI
  clear hI
  show VRun _ _ _ [(0, (rd 4 eListed a)), (1, (rd 4 eListed b)), (5, (tN i))] (mkO []) 0 _
  refine sq ?_
  refine sr ?_
  refine mO (tN i) rfl ?_
  refine mO (rd 4 eListed a) rfl ?_
  refine lO (B.lenR (m := a.length) (tv (rd 4 eListed a) rfl) Try.underlying46 (List.length_map ..)) ?_
  refine fO (B.lss (c := (decide (i < a.length))) (tv (tN i) rfl) (tv (tN a.length) rfl) (by first | (exact decN (by omega)))) ?_
  refine nt ?_
  refine VRun.cond (tv (tB (decide (i < a.length))) rfl) (fun hc1 => ?_) (fun hc1 => ?_)
  · have fhc1 : i < a.length := of_decide_eq_true hc1
    refine sk ?_
    refine tn ?_
    refine sq ?_
    refine VRun.block ?_
    refine sq ?_
    refine VRun.draw (B := [[], [], [1, 0], [0, 1, 2], [], [], [5, 4], [4, 5, 6], [6, 5, 4, 7, 2, 1, 0, 3], [3, 0, 1, 2, 7, 4, 5, 6, 8]]) (by kernel_rfl) (by kernel_rfl) ?_
    refine mD (rd 4 eListed a) rfl rfl ?_
    refine mD (tN i) rfl rfl ?_
    obtain ⟨x1, hx1⟩ : ∃ x, a[i]? = some x := ⟨_, List.getElem?_eq_getElem (by first | omega)⟩
    refine fD (OF.indexAddrR (row := (eListed false x1)) (i := i) (tv (rd 4 eListed a) rfl) (tv (tN i) rfl) rfl (map_at _ hx1) Try.underlying46 sz111 if111) rfl rfl ?_
    refine lD (OL.loadRn (us := (eListed false x1)) (tv (T.rp (eListed false x1)) rfl) st111 sz111 (Nat.le_of_ble_eq_true rfl) rfl) rfl rfl ?_
    refine mD (rd 4 eListed b) rfl rfl ?_
    refine mD (tN i) rfl rfl ?_
    obtain ⟨x2, hx2⟩ : ∃ x, b[i]? = some x := ⟨_, List.getElem?_eq_getElem (by first | omega)⟩
    refine fD (OF.indexAddrR (row := (eListed false x2)) (i := i) (tv (rd 4 eListed b) rfl) (tv (tN i) rfl) rfl (map_at _ hx2) Try.underlying46 sz111 if111) rfl rfl ?_
    refine lD (OL.loadRn (us := (eListed false x2)) (tv (T.rp (eListed false x2)) rfl) st111 sz111 (Nat.le_of_ble_eq_true rfl) rfl) rfl rfl ?_
    refine VRunD.quiet (bi := [6, 5, 4, 7, 2, 1, 0, 3]) rfl VWant.always rfl rfl rfl (ball_nil) (cS (vc (tv (T.agg (eListed false x1)) rfl) (vc (tv (T.agg (eListed false x2)) rfl) VEvs.nil)) (LendL.cons (lg okeListed) (LendL.cons (lg okeListed) (LendL.nil))) (W_laws_eqListed (n + 0) x1 x2 ) rfl rfl) ?_
    refine fD (B.not (c := (!(decide (x1 = x2)))) (tv (tB (decide (x1 = x2))) rfl) rfl) rfl rfl ?_
    refine VRunD.nil ?_
    refine tn ?_
    refine VRun.cond (tv (tB (!(decide (x1 = x2)))) rfl) (fun hc2 => ?_) (fun hc2 => ?_)
    · have fhc2 : ¬ (x1 = x2) := ndT hc2
      refine sr ?_
      refine fO (OF.assign (VEv.bool false)) ?_
      refine nt ?_
      refine rt ?_
      refine vinB.r ?_
      refine tr ?_
      refine tr ?_
      refine vinB.r ?_
      refine tr ?_
      refine vb (b' := false) rfl ?_
      symm; rw [decide_eq_false_iff_not]; exact agree_not hx1 hx2 fhc2
    have fhc2 : x1 = x2 := ndF hc2
    refine sk ?_
    refine vinB.n ?_
    refine tn ?_
    refine VRun.region ?_
    refine mO (tN i) rfl ?_
    refine fO (B.add (n := (((i + 1) : Nat) : Int)) (tv (tN i) rfl) (VEv.int .i64 1) (by first | rfl | (rw [wrap64 (by omega)]; omega) | (rw [wrap64 (by omega)]; done))) ?_
    refine aO (tN (i + 1)) rfl ?_
    refine VRunO.nil ?_
    refine tn ?_
    refine ⟨(i + 1 : Nat), ?_, ?_, Wk.mk (fun k => k) ?_ ?_ ?_⟩
    · exact agree_next hI' hx1 hx2 fhc2
    · first | omega | (simp only []; omega) | (show _ < _; omega) | (simp; omega)
    · exact (ball_cons ⟨rfl, rfl⟩ (ball_cons ⟨rfl, rfl⟩ (ball_cons ⟨rfl, rfl⟩ (ball_nil))))
    · exact (ball_nil)
    · show List.Nodup ([] : List Nat)
      decide
  have fhc1 : ¬ (i < a.length) := of_decide_eq_false hc1
  refine VRun.exit ?_
  refine vthn.e ?_
  refine vthn.e ?_
  refine vinB.e ?_
  refine tn ?_
  refine sr ?_
  refine fO (OF.assign (VEv.bool true)) ?_
  refine nt ?_
  refine rt ?_
  refine vb (b' := true) rfl ?_
  symm; rw [decide_eq_true_eq]; exact agree_all hI' fhc0 fhc1
theorem W_laws_eqMeaning (n : Nat) (a : D.Meaning) (b : D.Meaning)  : Pure (acall Try.prog (n + 1)) 135 [(T.agg (eMeaning false a)), (T.agg (eMeaning false b))] (tB (decide (a = b))) := by
  refine Pure.intro (rs := [ResultVar.tmp 4]) Try.func135 rfl rfl rfl (E0 := [(0, (T.agg (eMeaning false a))), (1, (T.agg (eMeaning false b)))]) rfl ?_
  have hlim : lim = 1099511627776 := rfl
  have hmx : mx = 1048576 := rfl
  have hmax : maxLen = 9223372036854775807 := rfl
  refine sr ?_
  refine kO (B.box (ts := (eMeaning false a)) (tv (T.agg (eMeaning false a)) rfl) nofun rfl) ?_
  refine kO (B.box (ts := (eMeaning false b)) (tv (T.agg (eMeaning false b)) rfl) nofun rfl) ?_
  refine fO (OF.assign (VEv.bool false)) ?_
  refine nt ?_
  refine sq ?_
  refine sr ?_
  refine fO (OF.fieldAddrO (tv (T.op 0 0) rfl) fa114_0) ?_
  refine lO (OL.loadO1 (t := (tS a.Word)) (tv (T.op 0 0) rfl) rfl rfl st9) ?_
  refine fO (OF.fieldAddrO (tv (T.op 1 0) rfl) fa114_0) ?_
  refine lO (OL.loadO1 (t := (tS b.Word)) (tv (T.op 1 0) rfl) rfl rfl st9) ?_
  refine fO (B.sneq (c := (!(decide (a.Word = b.Word)))) (tv (tS a.Word) rfl) (tv (tS b.Word) rfl) rfl) ?_
  refine nt ?_
  refine VRun.cond (tv (tB (!(decide (a.Word = b.Word)))) rfl) (fun hc0 => ?_) (fun hc0 => ?_)
  · have fhc0 : ¬ (a.Word = b.Word) := ndT hc0
    refine sr ?_
    refine fO (OF.assign (VEv.bool false)) ?_
    refine nt ?_
    refine rt ?_
    refine tr ?_
    refine vb (b' := false) rfl ?_
    obtain ⟨a0, a1⟩ := a
    obtain ⟨b0, b1⟩ := b
    simp_all
  have fhc0 : a.Word = b.Word := ndF hc0
  refine sk ?_
  refine tn ?_
  refine sq ?_
  refine sr ?_
  refine fO (OF.fieldAddrO (tv (T.op 0 0) rfl) fa114_1) ?_
  refine lO (OL.loadO1 (t := (tI a.Sense)) (tv (T.op 0 1) rfl) rfl rfl st3) ?_
  refine fO (OF.fieldAddrO (tv (T.op 1 0) rfl) fa114_1) ?_
  refine lO (OL.loadO1 (t := (tI b.Sense)) (tv (T.op 1 1) rfl) rfl rfl st3) ?_
  refine fO (B.neq (c := (!(decide (a.Sense = b.Sense)))) (tv (tI a.Sense) rfl) (tv (tI b.Sense) rfl) rfl) ?_
  refine nt ?_
  refine VRun.cond (tv (tB (!(decide (a.Sense = b.Sense)))) rfl) (fun hc1 => ?_) (fun hc1 => ?_)
  · have fhc1 : ¬ (a.Sense = b.Sense) := ndT hc1
    refine sr ?_
    refine fO (OF.assign (VEv.bool false)) ?_
    refine nt ?_
    refine rt ?_
    refine tr ?_
    refine vb (b' := false) rfl ?_
    obtain ⟨a0, a1⟩ := a
    obtain ⟨b0, b1⟩ := b
    simp_all
  have fhc1 : a.Sense = b.Sense := ndF hc1
  refine sk ?_
  refine tn ?_
  refine sr ?_
  refine fO (OF.assign (VEv.bool true)) ?_
  refine nt ?_
  refine rt ?_
  refine vb (b' := true) rfl ?_
  obtain ⟨a0, a1⟩ := a
  obtain ⟨b0, b1⟩ := b
  simp_all
theorem W_laws_eqMeaningS (n : Nat) (a : List D.Meaning) (b : List D.Meaning) (hla : a.length ≤ mx) (hlb : b.length ≤ mx) : Pure (acall Try.prog (n + 2)) 79 [(rd 2 eMeaning a), (rd 2 eMeaning b)] (tB (decide (a = b))) := by
  refine Pure.intro (rs := [ResultVar.tmp 4]) Try.func79 rfl rfl rfl (E0 := [(0, (rd 2 eMeaning a)), (1, (rd 2 eMeaning b))]) rfl ?_
  have hlim : lim = 1099511627776 := rfl
  have hmx : mx = 1048576 := rfl
  have hmax : maxLen = 9223372036854775807 := rfl
  refine sr ?_
  refine fO (OF.assign (VEv.bool false)) ?_
  refine nt ?_
  refine sq ?_
  refine sr ?_
  refine mO (rd 2 eMeaning a) rfl ?_
  refine lO (B.lenR (m := a.length) (tv (rd 2 eMeaning a) rfl) Try.underlying47 (List.length_map ..)) ?_
  refine mO (rd 2 eMeaning b) rfl ?_
  refine lO (B.lenR (m := b.length) (tv (rd 2 eMeaning b) rfl) Try.underlying47 (List.length_map ..)) ?_
  refine fO (B.neq (c := (!(decide (a.length = b.length)))) (tv (tN a.length) rfl) (tv (tN b.length) rfl) (by first | (exact decNn (by omega)))) ?_
  refine nt ?_
  refine VRun.cond (tv (tB (!(decide (a.length = b.length)))) rfl) (fun hc0 => ?_) (fun hc0 => ?_)
  · have fhc0 : ¬ (a.length = b.length) := ndT hc0
    refine sr ?_
    refine fO (OF.assign (VEv.bool false)) ?_
    refine nt ?_
    refine rt ?_
    refine tr ?_
    refine vb (b' := false) rfl ?_
    symm; rw [decide_eq_false_iff_not]; rintro rfl; exact fhc0 rfl
  have fhc0 : a.length = b.length := ndF hc0
  refine sk ?_
  refine tn ?_
  refine sq ?_
  refine sr ?_
  refine fO (OF.assign (VEv.int .i64 0)) ?_
  refine nt ?_
  refine VRun.block ?_
  refine VRun.loop (A := Nat) (fun s_ => [(0, (rd 2 eMeaning a)), (1, (rd 2 eMeaning b)), (5, (tN s_))]) (fun s_ => mkO []) 0 (fun s_ => s_ ≤ a.length ∧ ∀ j, j < s_ → a[j]? = b[j]?) (fun s_ => a.length - s_) (0 : Nat) ?_ (Wk.mk (fun k => k) ?_ ?_ ?_) ?_
  · first | trivial | (simp; done) | omega | (constructor <;> simp)
  · exact (ball_cons ⟨rfl, rfl⟩ (ball_cons ⟨rfl, rfl⟩ (ball_cons ⟨rfl, rfl⟩ (ball_nil))))
  · exact (ball_nil)
  · show List.Nodup ([] : List Nat)
    decide
  rintro i hI
  have hI' : i ≤ a.length ∧ ∀ j, j < i → a[j]? = b[j]? := hI
  clear hI
  show VRun _ _ _ [(0, (rd 2 eMeaning a)), (1, (rd 2 eMeaning b)), (5, (tN i))] (mkO []) 0 _
  refine sq ?_
  refine sr ?_
  refine mO (tN i) rfl ?_
  refine mO (rd 2 eMeaning a) rfl ?_
  refine lO (B.lenR (m := a.length) (tv (rd 2 eMeaning a) rfl) Try.underlying47 (List.length_map ..)) ?_
  refine fO (B.lss (c := (decide (i < a.length))) (tv (tN i) rfl) (tv (tN a.length) rfl) (by first | (exact decN (by omega)))) ?_
  refine nt ?_
  refine VRun.cond (tv (tB (decide (i < a.length))) rfl) (fun hc1 => ?_) (fun hc1 => ?_)
  · have fhc1 : i < a.length := of_decide_eq_true hc1
    refine sk ?_
    refine tn ?_
    refine sq ?_
    refine VRun.block ?_
    refine sq ?_
    refine VRun.draw (B := [[], [], [1, 0], [0, 1, 2], [], [], [5, 4], [4, 5, 6], [6, 5, 4, 7, 2, 1, 0, 3], [3, 0, 1, 2, 7, 4, 5, 6, 8]]) (by kernel_rfl) (by kernel_rfl) ?_
    refine mD (rd 2 eMeaning a) rfl rfl ?_
    refine mD (tN i) rfl rfl ?_
    obtain ⟨x1, hx1⟩ : ∃ x, a[i]? = some x := ⟨_, List.getElem?_eq_getElem (by first | omega)⟩
    refine fD (OF.indexAddrR (row := (eMeaning false x1)) (i := i) (tv (rd 2 eMeaning a) rfl) (tv (tN i) rfl) rfl (map_at _ hx1) Try.underlying47 sz114 if114) rfl rfl ?_
    refine lD (OL.loadRn (us := (eMeaning false x1)) (tv (T.rp (eMeaning false x1)) rfl) st114 sz114 (Nat.le_of_ble_eq_true rfl) rfl) rfl rfl ?_
    refine mD (rd 2 eMeaning b) rfl rfl ?_
    refine mD (tN i) rfl rfl ?_
    obtain ⟨x2, hx2⟩ : ∃ x, b[i]? = some x := ⟨_, List.getElem?_eq_getElem (by first | omega)⟩
    refine fD (OF.indexAddrR (row := (eMeaning false x2)) (i := i) (tv (rd 2 eMeaning b) rfl) (tv (tN i) rfl) rfl (map_at _ hx2) Try.underlying47 sz114 if114) rfl rfl ?_
    refine lD (OL.loadRn (us := (eMeaning false x2)) (tv (T.rp (eMeaning false x2)) rfl) st114 sz114 (Nat.le_of_ble_eq_true rfl) rfl) rfl rfl ?_
    refine VRunD.quiet (bi := [6, 5, 4, 7, 2, 1, 0, 3]) rfl VWant.always rfl rfl rfl (ball_nil) (cS (vc (tv (T.agg (eMeaning false x1)) rfl) (vc (tv (T.agg (eMeaning false x2)) rfl) VEvs.nil)) (LendL.cons (lg okeMeaning) (LendL.cons (lg okeMeaning) (LendL.nil))) (W_laws_eqMeaning (n + 0) x1 x2 ) rfl rfl) ?_
    refine fD (B.not (c := (!(decide (x1 = x2)))) (tv (tB (decide (x1 = x2))) rfl) rfl) rfl rfl ?_
    refine VRunD.nil ?_
    refine tn ?_
    refine VRun.cond (tv (tB (!(decide (x1 = x2)))) rfl) (fun hc2 => ?_) (fun hc2 => ?_)
    · have fhc2 : ¬ (x1 = x2) := ndT hc2
      refine sr ?_
      refine fO (OF.assign (VEv.bool false)) ?_
      refine nt ?_
      refine rt ?_
      refine vinB.r ?_
      refine tr ?_
      refine tr ?_
      refine vinB.r ?_
      refine tr ?_
      refine vb (b' := false) rfl ?_
      symm; rw [decide_eq_false_iff_not]; exact agree_not hx1 hx2 fhc2
    have fhc2 : x1 = x2 := ndF hc2
    refine sk ?_
    refine vinB.n ?_
    refine tn ?_
    refine VRun.region ?_
    refine mO (tN i) rfl ?_
    refine fO (B.add (n := (((i + 1) : Nat) : Int)) (tv (tN i) rfl) (VEv.int .i64 1) (by first | rfl | (rw [wrap64 (by omega)]; omega) | (rw [wrap64 (by omega)]; done))) ?_
    refine aO (tN (i + 1)) rfl ?_
    refine VRunO.nil ?_
    refine tn ?_
    refine ⟨(i + 1 : Nat), ?_, ?_, Wk.mk (fun k => k) ?_ ?_ ?_⟩
    · exact agree_next hI' hx1 hx2 fhc2
    · first | omega | (simp only []; omega) | (show _ < _; omega) | (simp; omega)
    · exact (ball_cons ⟨rfl, rfl⟩ (ball_cons ⟨rfl, rfl⟩ (ball_cons ⟨rfl, rfl⟩ (ball_nil))))
    · exact (ball_nil)
    · show List.Nodup ([] : List Nat)
      decide
  have fhc1 : ¬ (i < a.length) := of_decide_eq_false hc1
  refine VRun.exit ?_
  refine vthn.e ?_
  refine vthn.e ?_
  refine vinB.e ?_
  refine tn ?_
  refine sr ?_
  refine fO (OF.assign (VEv.bool true)) ?_
  refine nt ?_
  refine rt ?_
  refine vb (b' := true) rfl ?_
  symm; rw [decide_eq_true_eq]; exact agree_all hI' fhc0 fhc1
theorem W_laws_eqPuzzle (n : Nat) (a : D.Puzzle) (b : D.Puzzle) (ha : zPuzzle a ≤ mx) (hb : zPuzzle b ≤ mx) : Pure (acall Try.prog (n + 5)) 165 [(T.agg (ePuzzle false a)), (T.agg (ePuzzle false b))] (tB (decide (a = b))) := by
  refine Pure.intro (rs := [ResultVar.tmp 4]) Try.func165 rfl rfl rfl (E0 := [(0, (T.agg (ePuzzle false a))), (1, (T.agg (ePuzzle false b)))]) rfl ?_
  have hlim : lim = 1099511627776 := rfl
  have hmx : mx = 1048576 := rfl
  have hmax : maxLen = 9223372036854775807 := rfl
  simp only [zPuzzle] at ha hb
  have hla_Clues := zL_len (z := zClue) a.Clues
  have hla_Seals := zL_len (z := zI) a.Seals
  have hlb_Clues := zL_len (z := zClue) b.Clues
  have hlb_Seals := zL_len (z := zI) b.Seals
  refine sr ?_
  refine kO (B.box (ts := (ePuzzle false a)) (tv (T.agg (ePuzzle false a)) rfl) nofun rfl) ?_
  refine kO (B.box (ts := (ePuzzle false b)) (tv (T.agg (ePuzzle false b)) rfl) nofun rfl) ?_
  refine fO (OF.assign (VEv.bool false)) ?_
  refine nt ?_
  refine sq ?_
  refine sr ?_
  refine fO (OF.fieldAddrO (tv (T.op 0 0) rfl) fa98_0) ?_
  refine lO (OL.loadOn (us := (eGrid false a.Grid)) (tv (T.op 0 0) rfl) rfl st29 sz29 (Nat.le_of_ble_eq_true rfl) rfl) ?_
  refine fO (OF.fieldAddrO (tv (T.op 1 0) rfl) fa98_0) ?_
  refine lO (OL.loadOn (us := (eGrid false b.Grid)) (tv (T.op 1 0) rfl) rfl st29 sz29 (Nat.le_of_ble_eq_true rfl) rfl) ?_
  refine cO (cS (vc (tv (T.agg (eGrid false a.Grid)) rfl) (vc (tv (T.agg (eGrid false b.Grid)) rfl) VEvs.nil)) (LendL.cons (lg okeGrid) (LendL.cons (lg okeGrid) (LendL.nil))) (W_laws_eqGrid (n + 3) a.Grid b.Grid ) rfl rfl) ?_
  refine fO (B.not (c := (!(decide (a.Grid = b.Grid)))) (tv (tB (decide (a.Grid = b.Grid))) rfl) rfl) ?_
  refine nt ?_
  refine VRun.cond (tv (tB (!(decide (a.Grid = b.Grid)))) rfl) (fun hc0 => ?_) (fun hc0 => ?_)
  · have fhc0 : ¬ (a.Grid = b.Grid) := ndT hc0
    refine sr ?_
    refine fO (OF.assign (VEv.bool false)) ?_
    refine nt ?_
    refine rt ?_
    refine tr ?_
    refine vb (b' := false) rfl ?_
    obtain ⟨a0, a1, a2, a3⟩ := a
    obtain ⟨b0, b1, b2, b3⟩ := b
    simp_all
  have fhc0 : a.Grid = b.Grid := ndF hc0
  refine sk ?_
  refine tn ?_
  refine sq ?_
  refine sr ?_
  refine fO (OF.fieldAddrO (tv (T.op 0 0) rfl) fa98_1) ?_
  refine lO (OL.loadO1 (t := (rd 2 eClue a.Clues)) (tv (T.op 0 3) rfl) rfl rfl st30) ?_
  refine fO (OF.fieldAddrO (tv (T.op 1 0) rfl) fa98_1) ?_
  refine lO (OL.loadO1 (t := (rd 2 eClue b.Clues)) (tv (T.op 1 3) rfl) rfl rfl st30) ?_
  refine cO (cS (vc (tv (rd 2 eClue a.Clues) rfl) (vc (tv (rd 2 eClue b.Clues) rfl) VEvs.nil)) (lp rfl (lp rfl (LendL.nil))) (W_laws_eqClueS (n + 0) a.Clues b.Clues (by first | assumption | omega) (by first | assumption | omega)) rfl rfl) ?_
  refine fO (B.not (c := (!(decide (a.Clues = b.Clues)))) (tv (tB (decide (a.Clues = b.Clues))) rfl) rfl) ?_
  refine nt ?_
  refine VRun.cond (tv (tB (!(decide (a.Clues = b.Clues)))) rfl) (fun hc1 => ?_) (fun hc1 => ?_)
  · have fhc1 : ¬ (a.Clues = b.Clues) := ndT hc1
    refine sr ?_
    refine fO (OF.assign (VEv.bool false)) ?_
    refine nt ?_
    refine rt ?_
    refine tr ?_
    refine vb (b' := false) rfl ?_
    obtain ⟨a0, a1, a2, a3⟩ := a
    obtain ⟨b0, b1, b2, b3⟩ := b
    simp_all
  have fhc1 : a.Clues = b.Clues := ndF hc1
  refine sk ?_
  refine tn ?_
  refine sq ?_
  refine sr ?_
  refine fO (OF.fieldAddrO (tv (T.op 0 0) rfl) fa98_2) ?_
  refine lO (OL.loadO1 (t := (rd 1 eInt a.Seals)) (tv (T.op 0 4) rfl) rfl rfl st56) ?_
  refine fO (OF.fieldAddrO (tv (T.op 1 0) rfl) fa98_2) ?_
  refine lO (OL.loadO1 (t := (rd 1 eInt b.Seals)) (tv (T.op 1 4) rfl) rfl rfl st56) ?_
  refine cO (cS (vc (tv (rd 1 eInt a.Seals) rfl) (vc (tv (rd 1 eInt b.Seals) rfl) VEvs.nil)) (lp rfl (lp rfl (LendL.nil))) (W_laws_eqIntS (n + 3) a.Seals b.Seals (by first | assumption | omega) (by first | assumption | omega)) rfl rfl) ?_
  refine fO (B.not (c := (!(decide (a.Seals = b.Seals)))) (tv (tB (decide (a.Seals = b.Seals))) rfl) rfl) ?_
  refine nt ?_
  refine VRun.cond (tv (tB (!(decide (a.Seals = b.Seals)))) rfl) (fun hc2 => ?_) (fun hc2 => ?_)
  · have fhc2 : ¬ (a.Seals = b.Seals) := ndT hc2
    refine sr ?_
    refine fO (OF.assign (VEv.bool false)) ?_
    refine nt ?_
    refine rt ?_
    refine tr ?_
    refine vb (b' := false) rfl ?_
    obtain ⟨a0, a1, a2, a3⟩ := a
    obtain ⟨b0, b1, b2, b3⟩ := b
    simp_all
  have fhc2 : a.Seals = b.Seals := ndF hc2
  refine sk ?_
  refine tn ?_
  refine sq ?_
  refine sr ?_
  refine fO (OF.fieldAddrO (tv (T.op 0 0) rfl) fa98_3) ?_
  refine lO (OL.loadO1 (t := (tI a.Salt)) (tv (T.op 0 5) rfl) rfl rfl st3) ?_
  refine fO (OF.fieldAddrO (tv (T.op 1 0) rfl) fa98_3) ?_
  refine lO (OL.loadO1 (t := (tI b.Salt)) (tv (T.op 1 5) rfl) rfl rfl st3) ?_
  refine fO (B.neq (c := (!(decide (a.Salt = b.Salt)))) (tv (tI a.Salt) rfl) (tv (tI b.Salt) rfl) rfl) ?_
  refine nt ?_
  refine VRun.cond (tv (tB (!(decide (a.Salt = b.Salt)))) rfl) (fun hc3 => ?_) (fun hc3 => ?_)
  · have fhc3 : ¬ (a.Salt = b.Salt) := ndT hc3
    refine sr ?_
    refine fO (OF.assign (VEv.bool false)) ?_
    refine nt ?_
    refine rt ?_
    refine tr ?_
    refine vb (b' := false) rfl ?_
    obtain ⟨a0, a1, a2, a3⟩ := a
    obtain ⟨b0, b1, b2, b3⟩ := b
    simp_all
  have fhc3 : a.Salt = b.Salt := ndF hc3
  refine sk ?_
  refine tn ?_
  refine sr ?_
  refine fO (OF.assign (VEv.bool true)) ?_
  refine nt ?_
  refine rt ?_
  refine vb (b' := true) rfl ?_
  obtain ⟨a0, a1, a2, a3⟩ := a
  obtain ⟨b0, b1, b2, b3⟩ := b
  simp_all
theorem W_laws_eqIssue (n : Nat) (a : D.Issue) (b : D.Issue) (ha : zIssue a ≤ mx) (hb : zIssue b ≤ mx) : Pure (acall Try.prog (n + 6)) 136 [(T.agg (eIssue false a)), (T.agg (eIssue false b))] (tB (decide (a = b))) := by
  refine Pure.intro (rs := [ResultVar.tmp 4]) Try.func136 rfl rfl rfl (E0 := [(0, (T.agg (eIssue false a))), (1, (T.agg (eIssue false b)))]) rfl ?_
  have hlim : lim = 1099511627776 := rfl
  have hmx : mx = 1048576 := rfl
  have hmax : maxLen = 9223372036854775807 := rfl
  simp only [zIssue] at ha hb
  refine sr ?_
  refine kO (B.box (ts := (eIssue false a)) (tv (T.agg (eIssue false a)) rfl) nofun rfl) ?_
  refine kO (B.box (ts := (eIssue false b)) (tv (T.agg (eIssue false b)) rfl) nofun rfl) ?_
  refine fO (OF.assign (VEv.bool false)) ?_
  refine nt ?_
  refine sq ?_
  refine sr ?_
  refine fO (OF.fieldAddrO (tv (T.op 0 0) rfl) fa100_0) ?_
  refine lO (OL.loadO1 (t := (tI a.Number)) (tv (T.op 0 0) rfl) rfl rfl st3) ?_
  refine fO (OF.fieldAddrO (tv (T.op 1 0) rfl) fa100_0) ?_
  refine lO (OL.loadO1 (t := (tI b.Number)) (tv (T.op 1 0) rfl) rfl rfl st3) ?_
  refine fO (B.neq (c := (!(decide (a.Number = b.Number)))) (tv (tI a.Number) rfl) (tv (tI b.Number) rfl) rfl) ?_
  refine nt ?_
  refine VRun.cond (tv (tB (!(decide (a.Number = b.Number)))) rfl) (fun hc0 => ?_) (fun hc0 => ?_)
  · have fhc0 : ¬ (a.Number = b.Number) := ndT hc0
    refine sr ?_
    refine fO (OF.assign (VEv.bool false)) ?_
    refine nt ?_
    refine rt ?_
    refine tr ?_
    refine vb (b' := false) rfl ?_
    obtain ⟨a0, a1, a2, a3, a4⟩ := a
    obtain ⟨b0, b1, b2, b3, b4⟩ := b
    simp_all
  have fhc0 : a.Number = b.Number := ndF hc0
  refine sk ?_
  refine tn ?_
  refine sq ?_
  refine sr ?_
  refine fO (OF.fieldAddrO (tv (T.op 0 0) rfl) fa100_1) ?_
  refine lO (OL.loadOn (us := (ePuzzle false a.Puzzle)) (tv (T.op 0 1) rfl) rfl st98 sz98 (Nat.le_of_ble_eq_true rfl) rfl) ?_
  refine fO (OF.fieldAddrO (tv (T.op 1 0) rfl) fa100_1) ?_
  refine lO (OL.loadOn (us := (ePuzzle false b.Puzzle)) (tv (T.op 1 1) rfl) rfl st98 sz98 (Nat.le_of_ble_eq_true rfl) rfl) ?_
  refine cO (cS (vc (tv (T.agg (ePuzzle false a.Puzzle)) rfl) (vc (tv (T.agg (ePuzzle false b.Puzzle)) rfl) VEvs.nil)) (LendL.cons (lg okePuzzle) (LendL.cons (lg okePuzzle) (LendL.nil))) (W_laws_eqPuzzle (n + 0) a.Puzzle b.Puzzle (by first | assumption | omega) (by first | assumption | omega)) rfl rfl) ?_
  refine fO (B.not (c := (!(decide (a.Puzzle = b.Puzzle)))) (tv (tB (decide (a.Puzzle = b.Puzzle))) rfl) rfl) ?_
  refine nt ?_
  refine VRun.cond (tv (tB (!(decide (a.Puzzle = b.Puzzle)))) rfl) (fun hc1 => ?_) (fun hc1 => ?_)
  · have fhc1 : ¬ (a.Puzzle = b.Puzzle) := ndT hc1
    refine sr ?_
    refine fO (OF.assign (VEv.bool false)) ?_
    refine nt ?_
    refine rt ?_
    refine tr ?_
    refine vb (b' := false) rfl ?_
    obtain ⟨a0, a1, a2, a3, a4⟩ := a
    obtain ⟨b0, b1, b2, b3, b4⟩ := b
    simp_all
  have fhc1 : a.Puzzle = b.Puzzle := ndF hc1
  refine sk ?_
  refine tn ?_
  refine sq ?_
  refine sr ?_
  refine fO (OF.fieldAddrO (tv (T.op 0 0) rfl) fa100_2) ?_
  refine lO (OL.loadO1 (t := (tS a.Fill)) (tv (T.op 0 7) rfl) rfl rfl st9) ?_
  refine fO (OF.fieldAddrO (tv (T.op 1 0) rfl) fa100_2) ?_
  refine lO (OL.loadO1 (t := (tS b.Fill)) (tv (T.op 1 7) rfl) rfl rfl st9) ?_
  refine fO (B.sneq (c := (!(decide (a.Fill = b.Fill)))) (tv (tS a.Fill) rfl) (tv (tS b.Fill) rfl) rfl) ?_
  refine nt ?_
  refine VRun.cond (tv (tB (!(decide (a.Fill = b.Fill)))) rfl) (fun hc2 => ?_) (fun hc2 => ?_)
  · have fhc2 : ¬ (a.Fill = b.Fill) := ndT hc2
    refine sr ?_
    refine fO (OF.assign (VEv.bool false)) ?_
    refine nt ?_
    refine rt ?_
    refine tr ?_
    refine vb (b' := false) rfl ?_
    obtain ⟨a0, a1, a2, a3, a4⟩ := a
    obtain ⟨b0, b1, b2, b3, b4⟩ := b
    simp_all
  have fhc2 : a.Fill = b.Fill := ndF hc2
  refine sk ?_
  refine tn ?_
  refine sq ?_
  refine sr ?_
  refine fO (OF.fieldAddrO (tv (T.op 0 0) rfl) fa100_3) ?_
  refine lO (OL.loadO1 (t := (tI a.Open)) (tv (T.op 0 8) rfl) rfl rfl st3) ?_
  refine fO (OF.fieldAddrO (tv (T.op 1 0) rfl) fa100_3) ?_
  refine lO (OL.loadO1 (t := (tI b.Open)) (tv (T.op 1 8) rfl) rfl rfl st3) ?_
  refine fO (B.neq (c := (!(decide (a.Open = b.Open)))) (tv (tI a.Open) rfl) (tv (tI b.Open) rfl) rfl) ?_
  refine nt ?_
  refine VRun.cond (tv (tB (!(decide (a.Open = b.Open)))) rfl) (fun hc3 => ?_) (fun hc3 => ?_)
  · have fhc3 : ¬ (a.Open = b.Open) := ndT hc3
    refine sr ?_
    refine fO (OF.assign (VEv.bool false)) ?_
    refine nt ?_
    refine rt ?_
    refine tr ?_
    refine vb (b' := false) rfl ?_
    obtain ⟨a0, a1, a2, a3, a4⟩ := a
    obtain ⟨b0, b1, b2, b3, b4⟩ := b
    simp_all
  have fhc3 : a.Open = b.Open := ndF hc3
  refine sk ?_
  refine tn ?_
  refine sq ?_
  refine sr ?_
  refine fO (OF.fieldAddrO (tv (T.op 0 0) rfl) fa100_4) ?_
  refine lO (OL.loadO1 (t := (tI a.Close)) (tv (T.op 0 9) rfl) rfl rfl st3) ?_
  refine fO (OF.fieldAddrO (tv (T.op 1 0) rfl) fa100_4) ?_
  refine lO (OL.loadO1 (t := (tI b.Close)) (tv (T.op 1 9) rfl) rfl rfl st3) ?_
  refine fO (B.neq (c := (!(decide (a.Close = b.Close)))) (tv (tI a.Close) rfl) (tv (tI b.Close) rfl) rfl) ?_
  refine nt ?_
  refine VRun.cond (tv (tB (!(decide (a.Close = b.Close)))) rfl) (fun hc4 => ?_) (fun hc4 => ?_)
  · have fhc4 : ¬ (a.Close = b.Close) := ndT hc4
    refine sr ?_
    refine fO (OF.assign (VEv.bool false)) ?_
    refine nt ?_
    refine rt ?_
    refine tr ?_
    refine vb (b' := false) rfl ?_
    obtain ⟨a0, a1, a2, a3, a4⟩ := a
    obtain ⟨b0, b1, b2, b3, b4⟩ := b
    simp_all
  have fhc4 : a.Close = b.Close := ndF hc4
  refine sk ?_
  refine tn ?_
  refine sr ?_
  refine fO (OF.assign (VEv.bool true)) ?_
  refine nt ?_
  refine rt ?_
  refine vb (b' := true) rfl ?_
  obtain ⟨a0, a1, a2, a3, a4⟩ := a
  obtain ⟨b0, b1, b2, b3, b4⟩ := b
  simp_all
theorem W_laws_eqIssueS (n : Nat) (a : List D.Issue) (b : List D.Issue) (ha : zL zIssue a ≤ mx) (hb : zL zIssue b ≤ mx) : Pure (acall Try.prog (n + 7)) 80 [(rd 10 eIssue a), (rd 10 eIssue b)] (tB (decide (a = b))) := by
  refine Pure.intro (rs := [ResultVar.tmp 4]) Try.func80 rfl rfl rfl (E0 := [(0, (rd 10 eIssue a)), (1, (rd 10 eIssue b))]) rfl ?_
  have hlim : lim = 1099511627776 := rfl
  have hmx : mx = 1048576 := rfl
  have hmax : maxLen = 9223372036854775807 := rfl
  have hla := zL_len (z := zIssue) a
  have hlb := zL_len (z := zIssue) b
  refine sr ?_
  refine fO (OF.assign (VEv.bool false)) ?_
  refine nt ?_
  refine sq ?_
  refine sr ?_
  refine mO (rd 10 eIssue a) rfl ?_
  refine lO (B.lenR (m := a.length) (tv (rd 10 eIssue a) rfl) Try.underlying48 (List.length_map ..)) ?_
  refine mO (rd 10 eIssue b) rfl ?_
  refine lO (B.lenR (m := b.length) (tv (rd 10 eIssue b) rfl) Try.underlying48 (List.length_map ..)) ?_
  refine fO (B.neq (c := (!(decide (a.length = b.length)))) (tv (tN a.length) rfl) (tv (tN b.length) rfl) (by first | exact Nat.le_trans (zL_at hx1) ha | exact Nat.le_trans (zL_at hx2) hb | (exact decNn (by omega)))) ?_
  refine nt ?_
  refine VRun.cond (tv (tB (!(decide (a.length = b.length)))) rfl) (fun hc0 => ?_) (fun hc0 => ?_)
  · have fhc0 : ¬ (a.length = b.length) := ndT hc0
    refine sr ?_
    refine fO (OF.assign (VEv.bool false)) ?_
    refine nt ?_
    refine rt ?_
    refine tr ?_
    refine vb (b' := false) rfl ?_
    symm; rw [decide_eq_false_iff_not]; rintro rfl; exact fhc0 rfl
  have fhc0 : a.length = b.length := ndF hc0
  refine sk ?_
  refine tn ?_
  refine sq ?_
  refine sr ?_
  refine fO (OF.assign (VEv.int .i64 0)) ?_
  refine nt ?_
  refine VRun.block ?_
  refine VRun.loop (A := Nat) (fun s_ => [(0, (rd 10 eIssue a)), (1, (rd 10 eIssue b)), (5, (tN s_))]) (fun s_ => mkO []) 0 (fun s_ => s_ ≤ a.length ∧ ∀ j, j < s_ → a[j]? = b[j]?) (fun s_ => a.length - s_) (0 : Nat) ?_ (Wk.mk (fun k => k) ?_ ?_ ?_) ?_
  · first | trivial | (simp; done) | omega | (constructor <;> simp)
  · exact (ball_cons ⟨rfl, rfl⟩ (ball_cons ⟨rfl, rfl⟩ (ball_cons ⟨rfl, rfl⟩ (ball_nil))))
  · exact (ball_nil)
  · show List.Nodup ([] : List Nat)
    decide
  rintro i hI
  have hI' : i ≤ a.length ∧ ∀ j, j < i → a[j]? = b[j]? := hI
  clear hI
  show VRun _ _ _ [(0, (rd 10 eIssue a)), (1, (rd 10 eIssue b)), (5, (tN i))] (mkO []) 0 _
  refine sq ?_
  refine sr ?_
  refine mO (tN i) rfl ?_
  refine mO (rd 10 eIssue a) rfl ?_
  refine lO (B.lenR (m := a.length) (tv (rd 10 eIssue a) rfl) Try.underlying48 (List.length_map ..)) ?_
  refine fO (B.lss (c := (decide (i < a.length))) (tv (tN i) rfl) (tv (tN a.length) rfl) (by first | exact Nat.le_trans (zL_at hx1) ha | exact Nat.le_trans (zL_at hx2) hb | (exact decN (by omega)))) ?_
  refine nt ?_
  refine VRun.cond (tv (tB (decide (i < a.length))) rfl) (fun hc1 => ?_) (fun hc1 => ?_)
  · have fhc1 : i < a.length := of_decide_eq_true hc1
    refine sk ?_
    refine tn ?_
    refine sq ?_
    refine VRun.block ?_
    refine sq ?_
    refine VRun.draw (B := [[], [], [1, 0], [0, 1, 2], [], [], [5, 4], [4, 5, 6], [6, 5, 4, 7, 2, 1, 0, 3], [3, 0, 1, 2, 7, 4, 5, 6, 8]]) (by kernel_rfl) (by kernel_rfl) ?_
    refine mD (rd 10 eIssue a) rfl rfl ?_
    refine mD (tN i) rfl rfl ?_
    obtain ⟨x1, hx1⟩ : ∃ x, a[i]? = some x := ⟨_, List.getElem?_eq_getElem (by first | exact Nat.le_trans (zL_at hx1) ha | exact Nat.le_trans (zL_at hx2) hb | omega)⟩
    refine fD (OF.indexAddrR (row := (eIssue false x1)) (i := i) (tv (rd 10 eIssue a) rfl) (tv (tN i) rfl) rfl (map_at _ hx1) Try.underlying48 sz100 if100) rfl rfl ?_
    refine lD (OL.loadRn (us := (eIssue false x1)) (tv (T.rp (eIssue false x1)) rfl) st100 sz100 (Nat.le_of_ble_eq_true rfl) rfl) rfl rfl ?_
    refine mD (rd 10 eIssue b) rfl rfl ?_
    refine mD (tN i) rfl rfl ?_
    obtain ⟨x2, hx2⟩ : ∃ x, b[i]? = some x := ⟨_, List.getElem?_eq_getElem (by first | exact Nat.le_trans (zL_at hx1) ha | exact Nat.le_trans (zL_at hx2) hb | omega)⟩
    refine fD (OF.indexAddrR (row := (eIssue false x2)) (i := i) (tv (rd 10 eIssue b) rfl) (tv (tN i) rfl) rfl (map_at _ hx2) Try.underlying48 sz100 if100) rfl rfl ?_
    refine lD (OL.loadRn (us := (eIssue false x2)) (tv (T.rp (eIssue false x2)) rfl) st100 sz100 (Nat.le_of_ble_eq_true rfl) rfl) rfl rfl ?_
    refine VRunD.quiet (bi := [6, 5, 4, 7, 2, 1, 0, 3]) rfl VWant.always rfl rfl rfl (ball_nil) (cS (vc (tv (T.agg (eIssue false x1)) rfl) (vc (tv (T.agg (eIssue false x2)) rfl) VEvs.nil)) (LendL.cons (lg okeIssue) (LendL.cons (lg okeIssue) (LendL.nil))) (W_laws_eqIssue (n + 0) x1 x2 (by first | exact Nat.le_trans (zL_at hx1) ha | exact Nat.le_trans (zL_at hx2) hb | assumption | omega) (by first | exact Nat.le_trans (zL_at hx1) ha | exact Nat.le_trans (zL_at hx2) hb | assumption | omega)) rfl rfl) ?_
    refine fD (B.not (c := (!(decide (x1 = x2)))) (tv (tB (decide (x1 = x2))) rfl) rfl) rfl rfl ?_
    refine VRunD.nil ?_
    refine tn ?_
    refine VRun.cond (tv (tB (!(decide (x1 = x2)))) rfl) (fun hc2 => ?_) (fun hc2 => ?_)
    · have fhc2 : ¬ (x1 = x2) := ndT hc2
      refine sr ?_
      refine fO (OF.assign (VEv.bool false)) ?_
      refine nt ?_
      refine rt ?_
      refine vinB.r ?_
      refine tr ?_
      refine tr ?_
      refine vinB.r ?_
      refine tr ?_
      refine vb (b' := false) rfl ?_
      symm; rw [decide_eq_false_iff_not]; exact agree_not hx1 hx2 fhc2
    have fhc2 : x1 = x2 := ndF hc2
    refine sk ?_
    refine vinB.n ?_
    refine tn ?_
    refine VRun.region ?_
    refine mO (tN i) rfl ?_
    refine fO (B.add (n := (((i + 1) : Nat) : Int)) (tv (tN i) rfl) (VEv.int .i64 1) (by first | exact Nat.le_trans (zL_at hx1) ha | exact Nat.le_trans (zL_at hx2) hb | rfl | (rw [wrap64 (by omega)]; omega) | (rw [wrap64 (by omega)]; done))) ?_
    refine aO (tN (i + 1)) rfl ?_
    refine VRunO.nil ?_
    refine tn ?_
    refine ⟨(i + 1 : Nat), ?_, ?_, Wk.mk (fun k => k) ?_ ?_ ?_⟩
    · exact agree_next hI' hx1 hx2 fhc2
    · first | omega | (simp only []; omega) | (show _ < _; omega) | (simp; omega)
    · exact (ball_cons ⟨rfl, rfl⟩ (ball_cons ⟨rfl, rfl⟩ (ball_cons ⟨rfl, rfl⟩ (ball_nil))))
    · exact (ball_nil)
    · show List.Nodup ([] : List Nat)
      decide
  have fhc1 : ¬ (i < a.length) := of_decide_eq_false hc1
  refine VRun.exit ?_
  refine vthn.e ?_
  refine vthn.e ?_
  refine vinB.e ?_
  refine tn ?_
  refine sr ?_
  refine fO (OF.assign (VEv.bool true)) ?_
  refine nt ?_
  refine rt ?_
  refine vb (b' := true) rfl ?_
  symm; rw [decide_eq_true_eq]; exact agree_all hI' fhc0 fhc1
theorem W_laws_eqUsed (n : Nat) (a : D.Used) (b : D.Used)  : Pure (acall Try.prog (n + 1)) 137 [(T.agg (eUsed false a)), (T.agg (eUsed false b))] (tB (decide (a = b))) := by
  refine Pure.intro (rs := [ResultVar.tmp 4]) Try.func137 rfl rfl rfl (E0 := [(0, (T.agg (eUsed false a))), (1, (T.agg (eUsed false b)))]) rfl ?_
  have hlim : lim = 1099511627776 := rfl
  have hmx : mx = 1048576 := rfl
  have hmax : maxLen = 9223372036854775807 := rfl
  refine sr ?_
  refine kO (B.box (ts := (eUsed false a)) (tv (T.agg (eUsed false a)) rfl) nofun rfl) ?_
  refine kO (B.box (ts := (eUsed false b)) (tv (T.agg (eUsed false b)) rfl) nofun rfl) ?_
  refine fO (OF.assign (VEv.bool false)) ?_
  refine nt ?_
  refine sq ?_
  refine sr ?_
  refine fO (OF.fieldAddrO (tv (T.op 0 0) rfl) fa118_0) ?_
  refine lO (OL.loadO1 (t := (tS a.Word)) (tv (T.op 0 0) rfl) rfl rfl st9) ?_
  refine fO (OF.fieldAddrO (tv (T.op 1 0) rfl) fa118_0) ?_
  refine lO (OL.loadO1 (t := (tS b.Word)) (tv (T.op 1 0) rfl) rfl rfl st9) ?_
  refine fO (B.sneq (c := (!(decide (a.Word = b.Word)))) (tv (tS a.Word) rfl) (tv (tS b.Word) rfl) rfl) ?_
  refine nt ?_
  refine VRun.cond (tv (tB (!(decide (a.Word = b.Word)))) rfl) (fun hc0 => ?_) (fun hc0 => ?_)
  · have fhc0 : ¬ (a.Word = b.Word) := ndT hc0
    refine sr ?_
    refine fO (OF.assign (VEv.bool false)) ?_
    refine nt ?_
    refine rt ?_
    refine tr ?_
    refine vb (b' := false) rfl ?_
    obtain ⟨a0, a1⟩ := a
    obtain ⟨b0, b1⟩ := b
    simp_all
  have fhc0 : a.Word = b.Word := ndF hc0
  refine sk ?_
  refine tn ?_
  refine sq ?_
  refine sr ?_
  refine fO (OF.fieldAddrO (tv (T.op 0 0) rfl) fa118_1) ?_
  refine lO (OL.loadO1 (t := (tI a.Issue)) (tv (T.op 0 1) rfl) rfl rfl st3) ?_
  refine fO (OF.fieldAddrO (tv (T.op 1 0) rfl) fa118_1) ?_
  refine lO (OL.loadO1 (t := (tI b.Issue)) (tv (T.op 1 1) rfl) rfl rfl st3) ?_
  refine fO (B.neq (c := (!(decide (a.Issue = b.Issue)))) (tv (tI a.Issue) rfl) (tv (tI b.Issue) rfl) rfl) ?_
  refine nt ?_
  refine VRun.cond (tv (tB (!(decide (a.Issue = b.Issue)))) rfl) (fun hc1 => ?_) (fun hc1 => ?_)
  · have fhc1 : ¬ (a.Issue = b.Issue) := ndT hc1
    refine sr ?_
    refine fO (OF.assign (VEv.bool false)) ?_
    refine nt ?_
    refine rt ?_
    refine tr ?_
    refine vb (b' := false) rfl ?_
    obtain ⟨a0, a1⟩ := a
    obtain ⟨b0, b1⟩ := b
    simp_all
  have fhc1 : a.Issue = b.Issue := ndF hc1
  refine sk ?_
  refine tn ?_
  refine sr ?_
  refine fO (OF.assign (VEv.bool true)) ?_
  refine nt ?_
  refine rt ?_
  refine vb (b' := true) rfl ?_
  obtain ⟨a0, a1⟩ := a
  obtain ⟨b0, b1⟩ := b
  simp_all
theorem W_laws_eqUsedS (n : Nat) (a : List D.Used) (b : List D.Used) (hla : a.length ≤ mx) (hlb : b.length ≤ mx) : Pure (acall Try.prog (n + 2)) 81 [(rd 2 eUsed a), (rd 2 eUsed b)] (tB (decide (a = b))) := by
  refine Pure.intro (rs := [ResultVar.tmp 4]) Try.func81 rfl rfl rfl (E0 := [(0, (rd 2 eUsed a)), (1, (rd 2 eUsed b))]) rfl ?_
  have hlim : lim = 1099511627776 := rfl
  have hmx : mx = 1048576 := rfl
  have hmax : maxLen = 9223372036854775807 := rfl
  refine sr ?_
  refine fO (OF.assign (VEv.bool false)) ?_
  refine nt ?_
  refine sq ?_
  refine sr ?_
  refine mO (rd 2 eUsed a) rfl ?_
  refine lO (B.lenR (m := a.length) (tv (rd 2 eUsed a) rfl) Try.underlying49 (List.length_map ..)) ?_
  refine mO (rd 2 eUsed b) rfl ?_
  refine lO (B.lenR (m := b.length) (tv (rd 2 eUsed b) rfl) Try.underlying49 (List.length_map ..)) ?_
  refine fO (B.neq (c := (!(decide (a.length = b.length)))) (tv (tN a.length) rfl) (tv (tN b.length) rfl) (by first | (exact decNn (by omega)))) ?_
  refine nt ?_
  refine VRun.cond (tv (tB (!(decide (a.length = b.length)))) rfl) (fun hc0 => ?_) (fun hc0 => ?_)
  · have fhc0 : ¬ (a.length = b.length) := ndT hc0
    refine sr ?_
    refine fO (OF.assign (VEv.bool false)) ?_
    refine nt ?_
    refine rt ?_
    refine tr ?_
    refine vb (b' := false) rfl ?_
    symm; rw [decide_eq_false_iff_not]; rintro rfl; exact fhc0 rfl
  have fhc0 : a.length = b.length := ndF hc0
  refine sk ?_
  refine tn ?_
  refine sq ?_
  refine sr ?_
  refine fO (OF.assign (VEv.int .i64 0)) ?_
  refine nt ?_
  refine VRun.block ?_
  refine VRun.loop (A := Nat) (fun s_ => [(0, (rd 2 eUsed a)), (1, (rd 2 eUsed b)), (5, (tN s_))]) (fun s_ => mkO []) 0 (fun s_ => s_ ≤ a.length ∧ ∀ j, j < s_ → a[j]? = b[j]?) (fun s_ => a.length - s_) (0 : Nat) ?_ (Wk.mk (fun k => k) ?_ ?_ ?_) ?_
  · first | trivial | (simp; done) | omega | (constructor <;> simp)
  · exact (ball_cons ⟨rfl, rfl⟩ (ball_cons ⟨rfl, rfl⟩ (ball_cons ⟨rfl, rfl⟩ (ball_nil))))
  · exact (ball_nil)
  · show List.Nodup ([] : List Nat)
    decide
  rintro i hI
  have hI' : i ≤ a.length ∧ ∀ j, j < i → a[j]? = b[j]? := hI
  clear hI
  show VRun _ _ _ [(0, (rd 2 eUsed a)), (1, (rd 2 eUsed b)), (5, (tN i))] (mkO []) 0 _
  refine sq ?_
  refine sr ?_
  refine mO (tN i) rfl ?_
  refine mO (rd 2 eUsed a) rfl ?_
  refine lO (B.lenR (m := a.length) (tv (rd 2 eUsed a) rfl) Try.underlying49 (List.length_map ..)) ?_
  refine fO (B.lss (c := (decide (i < a.length))) (tv (tN i) rfl) (tv (tN a.length) rfl) (by first | (exact decN (by omega)))) ?_
  refine nt ?_
  refine VRun.cond (tv (tB (decide (i < a.length))) rfl) (fun hc1 => ?_) (fun hc1 => ?_)
  · have fhc1 : i < a.length := of_decide_eq_true hc1
    refine sk ?_
    refine tn ?_
    refine sq ?_
    refine VRun.block ?_
    refine sq ?_
    refine VRun.draw (B := [[], [], [1, 0], [0, 1, 2], [], [], [5, 4], [4, 5, 6], [6, 5, 4, 7, 2, 1, 0, 3], [3, 0, 1, 2, 7, 4, 5, 6, 8]]) (by kernel_rfl) (by kernel_rfl) ?_
    refine mD (rd 2 eUsed a) rfl rfl ?_
    refine mD (tN i) rfl rfl ?_
    obtain ⟨x1, hx1⟩ : ∃ x, a[i]? = some x := ⟨_, List.getElem?_eq_getElem (by first | omega)⟩
    refine fD (OF.indexAddrR (row := (eUsed false x1)) (i := i) (tv (rd 2 eUsed a) rfl) (tv (tN i) rfl) rfl (map_at _ hx1) Try.underlying49 sz118 if118) rfl rfl ?_
    refine lD (OL.loadRn (us := (eUsed false x1)) (tv (T.rp (eUsed false x1)) rfl) st118 sz118 (Nat.le_of_ble_eq_true rfl) rfl) rfl rfl ?_
    refine mD (rd 2 eUsed b) rfl rfl ?_
    refine mD (tN i) rfl rfl ?_
    obtain ⟨x2, hx2⟩ : ∃ x, b[i]? = some x := ⟨_, List.getElem?_eq_getElem (by first | omega)⟩
    refine fD (OF.indexAddrR (row := (eUsed false x2)) (i := i) (tv (rd 2 eUsed b) rfl) (tv (tN i) rfl) rfl (map_at _ hx2) Try.underlying49 sz118 if118) rfl rfl ?_
    refine lD (OL.loadRn (us := (eUsed false x2)) (tv (T.rp (eUsed false x2)) rfl) st118 sz118 (Nat.le_of_ble_eq_true rfl) rfl) rfl rfl ?_
    refine VRunD.quiet (bi := [6, 5, 4, 7, 2, 1, 0, 3]) rfl VWant.always rfl rfl rfl (ball_nil) (cS (vc (tv (T.agg (eUsed false x1)) rfl) (vc (tv (T.agg (eUsed false x2)) rfl) VEvs.nil)) (LendL.cons (lg okeUsed) (LendL.cons (lg okeUsed) (LendL.nil))) (W_laws_eqUsed (n + 0) x1 x2 ) rfl rfl) ?_
    refine fD (B.not (c := (!(decide (x1 = x2)))) (tv (tB (decide (x1 = x2))) rfl) rfl) rfl rfl ?_
    refine VRunD.nil ?_
    refine tn ?_
    refine VRun.cond (tv (tB (!(decide (x1 = x2)))) rfl) (fun hc2 => ?_) (fun hc2 => ?_)
    · have fhc2 : ¬ (x1 = x2) := ndT hc2
      refine sr ?_
      refine fO (OF.assign (VEv.bool false)) ?_
      refine nt ?_
      refine rt ?_
      refine vinB.r ?_
      refine tr ?_
      refine tr ?_
      refine vinB.r ?_
      refine tr ?_
      refine vb (b' := false) rfl ?_
      symm; rw [decide_eq_false_iff_not]; exact agree_not hx1 hx2 fhc2
    have fhc2 : x1 = x2 := ndF hc2
    refine sk ?_
    refine vinB.n ?_
    refine tn ?_
    refine VRun.region ?_
    refine mO (tN i) rfl ?_
    refine fO (B.add (n := (((i + 1) : Nat) : Int)) (tv (tN i) rfl) (VEv.int .i64 1) (by first | rfl | (rw [wrap64 (by omega)]; omega) | (rw [wrap64 (by omega)]; done))) ?_
    refine aO (tN (i + 1)) rfl ?_
    refine VRunO.nil ?_
    refine tn ?_
    refine ⟨(i + 1 : Nat), ?_, ?_, Wk.mk (fun k => k) ?_ ?_ ?_⟩
    · exact agree_next hI' hx1 hx2 fhc2
    · first | omega | (simp only []; omega) | (show _ < _; omega) | (simp; omega)
    · exact (ball_cons ⟨rfl, rfl⟩ (ball_cons ⟨rfl, rfl⟩ (ball_cons ⟨rfl, rfl⟩ (ball_nil))))
    · exact (ball_nil)
    · show List.Nodup ([] : List Nat)
      decide
  have fhc1 : ¬ (i < a.length) := of_decide_eq_false hc1
  refine VRun.exit ?_
  refine vthn.e ?_
  refine vthn.e ?_
  refine vinB.e ?_
  refine tn ?_
  refine sr ?_
  refine fO (OF.assign (VEv.bool true)) ?_
  refine nt ?_
  refine rt ?_
  refine vb (b' := true) rfl ?_
  symm; rw [decide_eq_true_eq]; exact agree_all hI' fhc0 fhc1
theorem W_laws_eqCorrection (n : Nat) (a : D.Correction) (b : D.Correction) (ha : zCorrection a ≤ mx) (hb : zCorrection b ≤ mx) : Pure (acall Try.prog (n + 4)) 138 [(T.agg (eCorrection false a)), (T.agg (eCorrection false b))] (tB (decide (a = b))) := by
  refine Pure.intro (rs := [ResultVar.tmp 4]) Try.func138 rfl rfl rfl (E0 := [(0, (T.agg (eCorrection false a))), (1, (T.agg (eCorrection false b)))]) rfl ?_
  have hlim : lim = 1099511627776 := rfl
  have hmx : mx = 1048576 := rfl
  have hmax : maxLen = 9223372036854775807 := rfl
  simp only [zCorrection] at ha hb
  refine sr ?_
  refine kO (B.box (ts := (eCorrection false a)) (tv (T.agg (eCorrection false a)) rfl) nofun rfl) ?_
  refine kO (B.box (ts := (eCorrection false b)) (tv (T.agg (eCorrection false b)) rfl) nofun rfl) ?_
  refine fO (OF.assign (VEv.bool false)) ?_
  refine nt ?_
  refine sq ?_
  refine sr ?_
  refine fO (OF.fieldAddrO (tv (T.op 0 0) rfl) fa102_0) ?_
  refine lO (OL.loadO1 (t := (tI a.Issue)) (tv (T.op 0 0) rfl) rfl rfl st3) ?_
  refine fO (OF.fieldAddrO (tv (T.op 1 0) rfl) fa102_0) ?_
  refine lO (OL.loadO1 (t := (tI b.Issue)) (tv (T.op 1 0) rfl) rfl rfl st3) ?_
  refine fO (B.neq (c := (!(decide (a.Issue = b.Issue)))) (tv (tI a.Issue) rfl) (tv (tI b.Issue) rfl) rfl) ?_
  refine nt ?_
  refine VRun.cond (tv (tB (!(decide (a.Issue = b.Issue)))) rfl) (fun hc0 => ?_) (fun hc0 => ?_)
  · have fhc0 : ¬ (a.Issue = b.Issue) := ndT hc0
    refine sr ?_
    refine fO (OF.assign (VEv.bool false)) ?_
    refine nt ?_
    refine rt ?_
    refine tr ?_
    refine vb (b' := false) rfl ?_
    obtain ⟨a0, a1, a2, a3⟩ := a
    obtain ⟨b0, b1, b2, b3⟩ := b
    simp_all
  have fhc0 : a.Issue = b.Issue := ndF hc0
  refine sk ?_
  refine tn ?_
  refine sq ?_
  refine sr ?_
  refine fO (OF.fieldAddrO (tv (T.op 0 0) rfl) fa102_1) ?_
  refine lO (OL.loadO1 (t := (tI a.Slot)) (tv (T.op 0 1) rfl) rfl rfl st3) ?_
  refine fO (OF.fieldAddrO (tv (T.op 1 0) rfl) fa102_1) ?_
  refine lO (OL.loadO1 (t := (tI b.Slot)) (tv (T.op 1 1) rfl) rfl rfl st3) ?_
  refine fO (B.neq (c := (!(decide (a.Slot = b.Slot)))) (tv (tI a.Slot) rfl) (tv (tI b.Slot) rfl) rfl) ?_
  refine nt ?_
  refine VRun.cond (tv (tB (!(decide (a.Slot = b.Slot)))) rfl) (fun hc1 => ?_) (fun hc1 => ?_)
  · have fhc1 : ¬ (a.Slot = b.Slot) := ndT hc1
    refine sr ?_
    refine fO (OF.assign (VEv.bool false)) ?_
    refine nt ?_
    refine rt ?_
    refine tr ?_
    refine vb (b' := false) rfl ?_
    obtain ⟨a0, a1, a2, a3⟩ := a
    obtain ⟨b0, b1, b2, b3⟩ := b
    simp_all
  have fhc1 : a.Slot = b.Slot := ndF hc1
  refine sk ?_
  refine tn ?_
  refine sq ?_
  refine sr ?_
  refine fO (OF.fieldAddrO (tv (T.op 0 0) rfl) fa102_2) ?_
  refine lO (OL.loadOn (us := (eClue false a.Clue)) (tv (T.op 0 2) rfl) rfl st70 sz70 (Nat.le_of_ble_eq_true rfl) rfl) ?_
  refine fO (OF.fieldAddrO (tv (T.op 1 0) rfl) fa102_2) ?_
  refine lO (OL.loadOn (us := (eClue false b.Clue)) (tv (T.op 1 2) rfl) rfl st70 sz70 (Nat.le_of_ble_eq_true rfl) rfl) ?_
  refine cO (cS (vc (tv (T.agg (eClue false a.Clue)) rfl) (vc (tv (T.agg (eClue false b.Clue)) rfl) VEvs.nil)) (LendL.cons (lg okeClue) (LendL.cons (lg okeClue) (LendL.nil))) (W_laws_eqClue (n + 0) a.Clue b.Clue (by first | assumption | omega) (by first | assumption | omega)) rfl rfl) ?_
  refine fO (B.not (c := (!(decide (a.Clue = b.Clue)))) (tv (tB (decide (a.Clue = b.Clue))) rfl) rfl) ?_
  refine nt ?_
  refine VRun.cond (tv (tB (!(decide (a.Clue = b.Clue)))) rfl) (fun hc2 => ?_) (fun hc2 => ?_)
  · have fhc2 : ¬ (a.Clue = b.Clue) := ndT hc2
    refine sr ?_
    refine fO (OF.assign (VEv.bool false)) ?_
    refine nt ?_
    refine rt ?_
    refine tr ?_
    refine vb (b' := false) rfl ?_
    obtain ⟨a0, a1, a2, a3⟩ := a
    obtain ⟨b0, b1, b2, b3⟩ := b
    simp_all
  have fhc2 : a.Clue = b.Clue := ndF hc2
  refine sk ?_
  refine tn ?_
  refine sq ?_
  refine sr ?_
  refine fO (OF.fieldAddrO (tv (T.op 0 0) rfl) fa102_3) ?_
  refine lO (OL.loadO1 (t := (tI a.Tick)) (tv (T.op 0 4) rfl) rfl rfl st3) ?_
  refine fO (OF.fieldAddrO (tv (T.op 1 0) rfl) fa102_3) ?_
  refine lO (OL.loadO1 (t := (tI b.Tick)) (tv (T.op 1 4) rfl) rfl rfl st3) ?_
  refine fO (B.neq (c := (!(decide (a.Tick = b.Tick)))) (tv (tI a.Tick) rfl) (tv (tI b.Tick) rfl) rfl) ?_
  refine nt ?_
  refine VRun.cond (tv (tB (!(decide (a.Tick = b.Tick)))) rfl) (fun hc3 => ?_) (fun hc3 => ?_)
  · have fhc3 : ¬ (a.Tick = b.Tick) := ndT hc3
    refine sr ?_
    refine fO (OF.assign (VEv.bool false)) ?_
    refine nt ?_
    refine rt ?_
    refine tr ?_
    refine vb (b' := false) rfl ?_
    obtain ⟨a0, a1, a2, a3⟩ := a
    obtain ⟨b0, b1, b2, b3⟩ := b
    simp_all
  have fhc3 : a.Tick = b.Tick := ndF hc3
  refine sk ?_
  refine tn ?_
  refine sr ?_
  refine fO (OF.assign (VEv.bool true)) ?_
  refine nt ?_
  refine rt ?_
  refine vb (b' := true) rfl ?_
  obtain ⟨a0, a1, a2, a3⟩ := a
  obtain ⟨b0, b1, b2, b3⟩ := b
  simp_all
theorem W_laws_eqCorrectionS (n : Nat) (a : List D.Correction) (b : List D.Correction) (ha : zL zCorrection a ≤ mx) (hb : zL zCorrection b ≤ mx) : Pure (acall Try.prog (n + 5)) 82 [(rd 5 eCorrection a), (rd 5 eCorrection b)] (tB (decide (a = b))) := by
  refine Pure.intro (rs := [ResultVar.tmp 4]) Try.func82 rfl rfl rfl (E0 := [(0, (rd 5 eCorrection a)), (1, (rd 5 eCorrection b))]) rfl ?_
  have hlim : lim = 1099511627776 := rfl
  have hmx : mx = 1048576 := rfl
  have hmax : maxLen = 9223372036854775807 := rfl
  have hla := zL_len (z := zCorrection) a
  have hlb := zL_len (z := zCorrection) b
  refine sr ?_
  refine fO (OF.assign (VEv.bool false)) ?_
  refine nt ?_
  refine sq ?_
  refine sr ?_
  refine mO (rd 5 eCorrection a) rfl ?_
  refine lO (B.lenR (m := a.length) (tv (rd 5 eCorrection a) rfl) Try.underlying50 (List.length_map ..)) ?_
  refine mO (rd 5 eCorrection b) rfl ?_
  refine lO (B.lenR (m := b.length) (tv (rd 5 eCorrection b) rfl) Try.underlying50 (List.length_map ..)) ?_
  refine fO (B.neq (c := (!(decide (a.length = b.length)))) (tv (tN a.length) rfl) (tv (tN b.length) rfl) (by first | exact Nat.le_trans (zL_at hx1) ha | exact Nat.le_trans (zL_at hx2) hb | (exact decNn (by omega)))) ?_
  refine nt ?_
  refine VRun.cond (tv (tB (!(decide (a.length = b.length)))) rfl) (fun hc0 => ?_) (fun hc0 => ?_)
  · have fhc0 : ¬ (a.length = b.length) := ndT hc0
    refine sr ?_
    refine fO (OF.assign (VEv.bool false)) ?_
    refine nt ?_
    refine rt ?_
    refine tr ?_
    refine vb (b' := false) rfl ?_
    symm; rw [decide_eq_false_iff_not]; rintro rfl; exact fhc0 rfl
  have fhc0 : a.length = b.length := ndF hc0
  refine sk ?_
  refine tn ?_
  refine sq ?_
  refine sr ?_
  refine fO (OF.assign (VEv.int .i64 0)) ?_
  refine nt ?_
  refine VRun.block ?_
  refine VRun.loop (A := Nat) (fun s_ => [(0, (rd 5 eCorrection a)), (1, (rd 5 eCorrection b)), (5, (tN s_))]) (fun s_ => mkO []) 0 (fun s_ => s_ ≤ a.length ∧ ∀ j, j < s_ → a[j]? = b[j]?) (fun s_ => a.length - s_) (0 : Nat) ?_ (Wk.mk (fun k => k) ?_ ?_ ?_) ?_
  · first | trivial | (simp; done) | omega | (constructor <;> simp)
  · exact (ball_cons ⟨rfl, rfl⟩ (ball_cons ⟨rfl, rfl⟩ (ball_cons ⟨rfl, rfl⟩ (ball_nil))))
  · exact (ball_nil)
  · show List.Nodup ([] : List Nat)
    decide
  rintro i hI
  have hI' : i ≤ a.length ∧ ∀ j, j < i → a[j]? = b[j]? := hI
  clear hI
  show VRun _ _ _ [(0, (rd 5 eCorrection a)), (1, (rd 5 eCorrection b)), (5, (tN i))] (mkO []) 0 _
  refine sq ?_
  refine sr ?_
  refine mO (tN i) rfl ?_
  refine mO (rd 5 eCorrection a) rfl ?_
  refine lO (B.lenR (m := a.length) (tv (rd 5 eCorrection a) rfl) Try.underlying50 (List.length_map ..)) ?_
  refine fO (B.lss (c := (decide (i < a.length))) (tv (tN i) rfl) (tv (tN a.length) rfl) (by first | exact Nat.le_trans (zL_at hx1) ha | exact Nat.le_trans (zL_at hx2) hb | (exact decN (by omega)))) ?_
  refine nt ?_
  refine VRun.cond (tv (tB (decide (i < a.length))) rfl) (fun hc1 => ?_) (fun hc1 => ?_)
  · have fhc1 : i < a.length := of_decide_eq_true hc1
    refine sk ?_
    refine tn ?_
    refine sq ?_
    refine VRun.block ?_
    refine sq ?_
    refine VRun.draw (B := [[], [], [1, 0], [0, 1, 2], [], [], [5, 4], [4, 5, 6], [6, 5, 4, 7, 2, 1, 0, 3], [3, 0, 1, 2, 7, 4, 5, 6, 8]]) (by kernel_rfl) (by kernel_rfl) ?_
    refine mD (rd 5 eCorrection a) rfl rfl ?_
    refine mD (tN i) rfl rfl ?_
    obtain ⟨x1, hx1⟩ : ∃ x, a[i]? = some x := ⟨_, List.getElem?_eq_getElem (by first | exact Nat.le_trans (zL_at hx1) ha | exact Nat.le_trans (zL_at hx2) hb | omega)⟩
    refine fD (OF.indexAddrR (row := (eCorrection false x1)) (i := i) (tv (rd 5 eCorrection a) rfl) (tv (tN i) rfl) rfl (map_at _ hx1) Try.underlying50 sz102 if102) rfl rfl ?_
    refine lD (OL.loadRn (us := (eCorrection false x1)) (tv (T.rp (eCorrection false x1)) rfl) st102 sz102 (Nat.le_of_ble_eq_true rfl) rfl) rfl rfl ?_
    refine mD (rd 5 eCorrection b) rfl rfl ?_
    refine mD (tN i) rfl rfl ?_
    obtain ⟨x2, hx2⟩ : ∃ x, b[i]? = some x := ⟨_, List.getElem?_eq_getElem (by first | exact Nat.le_trans (zL_at hx1) ha | exact Nat.le_trans (zL_at hx2) hb | omega)⟩
    refine fD (OF.indexAddrR (row := (eCorrection false x2)) (i := i) (tv (rd 5 eCorrection b) rfl) (tv (tN i) rfl) rfl (map_at _ hx2) Try.underlying50 sz102 if102) rfl rfl ?_
    refine lD (OL.loadRn (us := (eCorrection false x2)) (tv (T.rp (eCorrection false x2)) rfl) st102 sz102 (Nat.le_of_ble_eq_true rfl) rfl) rfl rfl ?_
    refine VRunD.quiet (bi := [6, 5, 4, 7, 2, 1, 0, 3]) rfl VWant.always rfl rfl rfl (ball_nil) (cS (vc (tv (T.agg (eCorrection false x1)) rfl) (vc (tv (T.agg (eCorrection false x2)) rfl) VEvs.nil)) (LendL.cons (lg okeCorrection) (LendL.cons (lg okeCorrection) (LendL.nil))) (W_laws_eqCorrection (n + 0) x1 x2 (by first | exact Nat.le_trans (zL_at hx1) ha | exact Nat.le_trans (zL_at hx2) hb | assumption | omega) (by first | exact Nat.le_trans (zL_at hx1) ha | exact Nat.le_trans (zL_at hx2) hb | assumption | omega)) rfl rfl) ?_
    refine fD (B.not (c := (!(decide (x1 = x2)))) (tv (tB (decide (x1 = x2))) rfl) rfl) rfl rfl ?_
    refine VRunD.nil ?_
    refine tn ?_
    refine VRun.cond (tv (tB (!(decide (x1 = x2)))) rfl) (fun hc2 => ?_) (fun hc2 => ?_)
    · have fhc2 : ¬ (x1 = x2) := ndT hc2
      refine sr ?_
      refine fO (OF.assign (VEv.bool false)) ?_
      refine nt ?_
      refine rt ?_
      refine vinB.r ?_
      refine tr ?_
      refine tr ?_
      refine vinB.r ?_
      refine tr ?_
      refine vb (b' := false) rfl ?_
      symm; rw [decide_eq_false_iff_not]; exact agree_not hx1 hx2 fhc2
    have fhc2 : x1 = x2 := ndF hc2
    refine sk ?_
    refine vinB.n ?_
    refine tn ?_
    refine VRun.region ?_
    refine mO (tN i) rfl ?_
    refine fO (B.add (n := (((i + 1) : Nat) : Int)) (tv (tN i) rfl) (VEv.int .i64 1) (by first | exact Nat.le_trans (zL_at hx1) ha | exact Nat.le_trans (zL_at hx2) hb | rfl | (rw [wrap64 (by omega)]; omega) | (rw [wrap64 (by omega)]; done))) ?_
    refine aO (tN (i + 1)) rfl ?_
    refine VRunO.nil ?_
    refine tn ?_
    refine ⟨(i + 1 : Nat), ?_, ?_, Wk.mk (fun k => k) ?_ ?_ ?_⟩
    · exact agree_next hI' hx1 hx2 fhc2
    · first | omega | (simp only []; omega) | (show _ < _; omega) | (simp; omega)
    · exact (ball_cons ⟨rfl, rfl⟩ (ball_cons ⟨rfl, rfl⟩ (ball_cons ⟨rfl, rfl⟩ (ball_nil))))
    · exact (ball_nil)
    · show List.Nodup ([] : List Nat)
      decide
  have fhc1 : ¬ (i < a.length) := of_decide_eq_false hc1
  refine VRun.exit ?_
  refine vthn.e ?_
  refine vthn.e ?_
  refine vinB.e ?_
  refine tn ?_
  refine sr ?_
  refine fO (OF.assign (VEv.bool true)) ?_
  refine nt ?_
  refine rt ?_
  refine vb (b' := true) rfl ?_
  symm; rw [decide_eq_true_eq]; exact agree_all hI' fhc0 fhc1
theorem W_laws_eqEntry (n : Nat) (a : D.Entry) (b : D.Entry)  : Pure (acall Try.prog (n + 1)) 139 [(T.agg (eEntry false a)), (T.agg (eEntry false b))] (tB (decide (a = b))) := by
  refine Pure.intro (rs := [ResultVar.tmp 4]) Try.func139 rfl rfl rfl (E0 := [(0, (T.agg (eEntry false a))), (1, (T.agg (eEntry false b)))]) rfl ?_
  have hlim : lim = 1099511627776 := rfl
  have hmx : mx = 1048576 := rfl
  have hmax : maxLen = 9223372036854775807 := rfl
  refine sr ?_
  refine kO (B.box (ts := (eEntry false a)) (tv (T.agg (eEntry false a)) rfl) nofun rfl) ?_
  refine kO (B.box (ts := (eEntry false b)) (tv (T.agg (eEntry false b)) rfl) nofun rfl) ?_
  refine fO (OF.assign (VEv.bool false)) ?_
  refine nt ?_
  refine sq ?_
  refine sr ?_
  refine fO (OF.fieldAddrO (tv (T.op 0 0) rfl) fa123_0) ?_
  refine lO (OL.loadO1 (t := (tI a.Player)) (tv (T.op 0 0) rfl) rfl rfl st3) ?_
  refine fO (OF.fieldAddrO (tv (T.op 1 0) rfl) fa123_0) ?_
  refine lO (OL.loadO1 (t := (tI b.Player)) (tv (T.op 1 0) rfl) rfl rfl st3) ?_
  refine fO (B.neq (c := (!(decide (a.Player = b.Player)))) (tv (tI a.Player) rfl) (tv (tI b.Player) rfl) rfl) ?_
  refine nt ?_
  refine VRun.cond (tv (tB (!(decide (a.Player = b.Player)))) rfl) (fun hc0 => ?_) (fun hc0 => ?_)
  · have fhc0 : ¬ (a.Player = b.Player) := ndT hc0
    refine sr ?_
    refine fO (OF.assign (VEv.bool false)) ?_
    refine nt ?_
    refine rt ?_
    refine tr ?_
    refine vb (b' := false) rfl ?_
    obtain ⟨a0, a1, a2, a3⟩ := a
    obtain ⟨b0, b1, b2, b3⟩ := b
    simp_all
  have fhc0 : a.Player = b.Player := ndF hc0
  refine sk ?_
  refine tn ?_
  refine sq ?_
  refine sr ?_
  refine fO (OF.fieldAddrO (tv (T.op 0 0) rfl) fa123_1) ?_
  refine lO (OL.loadO1 (t := (tI a.Issue)) (tv (T.op 0 1) rfl) rfl rfl st3) ?_
  refine fO (OF.fieldAddrO (tv (T.op 1 0) rfl) fa123_1) ?_
  refine lO (OL.loadO1 (t := (tI b.Issue)) (tv (T.op 1 1) rfl) rfl rfl st3) ?_
  refine fO (B.neq (c := (!(decide (a.Issue = b.Issue)))) (tv (tI a.Issue) rfl) (tv (tI b.Issue) rfl) rfl) ?_
  refine nt ?_
  refine VRun.cond (tv (tB (!(decide (a.Issue = b.Issue)))) rfl) (fun hc1 => ?_) (fun hc1 => ?_)
  · have fhc1 : ¬ (a.Issue = b.Issue) := ndT hc1
    refine sr ?_
    refine fO (OF.assign (VEv.bool false)) ?_
    refine nt ?_
    refine rt ?_
    refine tr ?_
    refine vb (b' := false) rfl ?_
    obtain ⟨a0, a1, a2, a3⟩ := a
    obtain ⟨b0, b1, b2, b3⟩ := b
    simp_all
  have fhc1 : a.Issue = b.Issue := ndF hc1
  refine sk ?_
  refine tn ?_
  refine sq ?_
  refine sr ?_
  refine fO (OF.fieldAddrO (tv (T.op 0 0) rfl) fa123_2) ?_
  refine lO (OL.loadO1 (t := (tI a.Tick)) (tv (T.op 0 2) rfl) rfl rfl st3) ?_
  refine fO (OF.fieldAddrO (tv (T.op 1 0) rfl) fa123_2) ?_
  refine lO (OL.loadO1 (t := (tI b.Tick)) (tv (T.op 1 2) rfl) rfl rfl st3) ?_
  refine fO (B.neq (c := (!(decide (a.Tick = b.Tick)))) (tv (tI a.Tick) rfl) (tv (tI b.Tick) rfl) rfl) ?_
  refine nt ?_
  refine VRun.cond (tv (tB (!(decide (a.Tick = b.Tick)))) rfl) (fun hc2 => ?_) (fun hc2 => ?_)
  · have fhc2 : ¬ (a.Tick = b.Tick) := ndT hc2
    refine sr ?_
    refine fO (OF.assign (VEv.bool false)) ?_
    refine nt ?_
    refine rt ?_
    refine tr ?_
    refine vb (b' := false) rfl ?_
    obtain ⟨a0, a1, a2, a3⟩ := a
    obtain ⟨b0, b1, b2, b3⟩ := b
    simp_all
  have fhc2 : a.Tick = b.Tick := ndF hc2
  refine sk ?_
  refine tn ?_
  refine sq ?_
  refine sr ?_
  refine fO (OF.fieldAddrO (tv (T.op 0 0) rfl) fa123_3) ?_
  refine lO (OL.loadO1 (t := (tS a.Fill)) (tv (T.op 0 3) rfl) rfl rfl st9) ?_
  refine fO (OF.fieldAddrO (tv (T.op 1 0) rfl) fa123_3) ?_
  refine lO (OL.loadO1 (t := (tS b.Fill)) (tv (T.op 1 3) rfl) rfl rfl st9) ?_
  refine fO (B.sneq (c := (!(decide (a.Fill = b.Fill)))) (tv (tS a.Fill) rfl) (tv (tS b.Fill) rfl) rfl) ?_
  refine nt ?_
  refine VRun.cond (tv (tB (!(decide (a.Fill = b.Fill)))) rfl) (fun hc3 => ?_) (fun hc3 => ?_)
  · have fhc3 : ¬ (a.Fill = b.Fill) := ndT hc3
    refine sr ?_
    refine fO (OF.assign (VEv.bool false)) ?_
    refine nt ?_
    refine rt ?_
    refine tr ?_
    refine vb (b' := false) rfl ?_
    obtain ⟨a0, a1, a2, a3⟩ := a
    obtain ⟨b0, b1, b2, b3⟩ := b
    simp_all
  have fhc3 : a.Fill = b.Fill := ndF hc3
  refine sk ?_
  refine tn ?_
  refine sr ?_
  refine fO (OF.assign (VEv.bool true)) ?_
  refine nt ?_
  refine rt ?_
  refine vb (b' := true) rfl ?_
  obtain ⟨a0, a1, a2, a3⟩ := a
  obtain ⟨b0, b1, b2, b3⟩ := b
  simp_all
theorem W_laws_eqEntryS (n : Nat) (a : List D.Entry) (b : List D.Entry) (hla : a.length ≤ mx) (hlb : b.length ≤ mx) : Pure (acall Try.prog (n + 2)) 83 [(rd 4 eEntry a), (rd 4 eEntry b)] (tB (decide (a = b))) := by
  refine Pure.intro (rs := [ResultVar.tmp 4]) Try.func83 rfl rfl rfl (E0 := [(0, (rd 4 eEntry a)), (1, (rd 4 eEntry b))]) rfl ?_
  have hlim : lim = 1099511627776 := rfl
  have hmx : mx = 1048576 := rfl
  have hmax : maxLen = 9223372036854775807 := rfl
  refine sr ?_
  refine fO (OF.assign (VEv.bool false)) ?_
  refine nt ?_
  refine sq ?_
  refine sr ?_
  refine mO (rd 4 eEntry a) rfl ?_
  refine lO (B.lenR (m := a.length) (tv (rd 4 eEntry a) rfl) Try.underlying51 (List.length_map ..)) ?_
  refine mO (rd 4 eEntry b) rfl ?_
  refine lO (B.lenR (m := b.length) (tv (rd 4 eEntry b) rfl) Try.underlying51 (List.length_map ..)) ?_
  refine fO (B.neq (c := (!(decide (a.length = b.length)))) (tv (tN a.length) rfl) (tv (tN b.length) rfl) (by first | (exact decNn (by omega)))) ?_
  refine nt ?_
  refine VRun.cond (tv (tB (!(decide (a.length = b.length)))) rfl) (fun hc0 => ?_) (fun hc0 => ?_)
  · have fhc0 : ¬ (a.length = b.length) := ndT hc0
    refine sr ?_
    refine fO (OF.assign (VEv.bool false)) ?_
    refine nt ?_
    refine rt ?_
    refine tr ?_
    refine vb (b' := false) rfl ?_
    symm; rw [decide_eq_false_iff_not]; rintro rfl; exact fhc0 rfl
  have fhc0 : a.length = b.length := ndF hc0
  refine sk ?_
  refine tn ?_
  refine sq ?_
  refine sr ?_
  refine fO (OF.assign (VEv.int .i64 0)) ?_
  refine nt ?_
  refine VRun.block ?_
  refine VRun.loop (A := Nat) (fun s_ => [(0, (rd 4 eEntry a)), (1, (rd 4 eEntry b)), (5, (tN s_))]) (fun s_ => mkO []) 0 (fun s_ => s_ ≤ a.length ∧ ∀ j, j < s_ → a[j]? = b[j]?) (fun s_ => a.length - s_) (0 : Nat) ?_ (Wk.mk (fun k => k) ?_ ?_ ?_) ?_
  · first | trivial | (simp; done) | omega | (constructor <;> simp)
  · exact (ball_cons ⟨rfl, rfl⟩ (ball_cons ⟨rfl, rfl⟩ (ball_cons ⟨rfl, rfl⟩ (ball_nil))))
  · exact (ball_nil)
  · show List.Nodup ([] : List Nat)
    decide
  rintro i hI
  have hI' : i ≤ a.length ∧ ∀ j, j < i → a[j]? = b[j]? := hI
  clear hI
  show VRun _ _ _ [(0, (rd 4 eEntry a)), (1, (rd 4 eEntry b)), (5, (tN i))] (mkO []) 0 _
  refine sq ?_
  refine sr ?_
  refine mO (tN i) rfl ?_
  refine mO (rd 4 eEntry a) rfl ?_
  refine lO (B.lenR (m := a.length) (tv (rd 4 eEntry a) rfl) Try.underlying51 (List.length_map ..)) ?_
  refine fO (B.lss (c := (decide (i < a.length))) (tv (tN i) rfl) (tv (tN a.length) rfl) (by first | (exact decN (by omega)))) ?_
  refine nt ?_
  refine VRun.cond (tv (tB (decide (i < a.length))) rfl) (fun hc1 => ?_) (fun hc1 => ?_)
  · have fhc1 : i < a.length := of_decide_eq_true hc1
    refine sk ?_
    refine tn ?_
    refine sq ?_
    refine VRun.block ?_
    refine sq ?_
    refine VRun.draw (B := [[], [], [1, 0], [0, 1, 2], [], [], [5, 4], [4, 5, 6], [6, 5, 4, 7, 2, 1, 0, 3], [3, 0, 1, 2, 7, 4, 5, 6, 8]]) (by kernel_rfl) (by kernel_rfl) ?_
    refine mD (rd 4 eEntry a) rfl rfl ?_
    refine mD (tN i) rfl rfl ?_
    obtain ⟨x1, hx1⟩ : ∃ x, a[i]? = some x := ⟨_, List.getElem?_eq_getElem (by first | omega)⟩
    refine fD (OF.indexAddrR (row := (eEntry false x1)) (i := i) (tv (rd 4 eEntry a) rfl) (tv (tN i) rfl) rfl (map_at _ hx1) Try.underlying51 sz123 if123) rfl rfl ?_
    refine lD (OL.loadRn (us := (eEntry false x1)) (tv (T.rp (eEntry false x1)) rfl) st123 sz123 (Nat.le_of_ble_eq_true rfl) rfl) rfl rfl ?_
    refine mD (rd 4 eEntry b) rfl rfl ?_
    refine mD (tN i) rfl rfl ?_
    obtain ⟨x2, hx2⟩ : ∃ x, b[i]? = some x := ⟨_, List.getElem?_eq_getElem (by first | omega)⟩
    refine fD (OF.indexAddrR (row := (eEntry false x2)) (i := i) (tv (rd 4 eEntry b) rfl) (tv (tN i) rfl) rfl (map_at _ hx2) Try.underlying51 sz123 if123) rfl rfl ?_
    refine lD (OL.loadRn (us := (eEntry false x2)) (tv (T.rp (eEntry false x2)) rfl) st123 sz123 (Nat.le_of_ble_eq_true rfl) rfl) rfl rfl ?_
    refine VRunD.quiet (bi := [6, 5, 4, 7, 2, 1, 0, 3]) rfl VWant.always rfl rfl rfl (ball_nil) (cS (vc (tv (T.agg (eEntry false x1)) rfl) (vc (tv (T.agg (eEntry false x2)) rfl) VEvs.nil)) (LendL.cons (lg okeEntry) (LendL.cons (lg okeEntry) (LendL.nil))) (W_laws_eqEntry (n + 0) x1 x2 ) rfl rfl) ?_
    refine fD (B.not (c := (!(decide (x1 = x2)))) (tv (tB (decide (x1 = x2))) rfl) rfl) rfl rfl ?_
    refine VRunD.nil ?_
    refine tn ?_
    refine VRun.cond (tv (tB (!(decide (x1 = x2)))) rfl) (fun hc2 => ?_) (fun hc2 => ?_)
    · have fhc2 : ¬ (x1 = x2) := ndT hc2
      refine sr ?_
      refine fO (OF.assign (VEv.bool false)) ?_
      refine nt ?_
      refine rt ?_
      refine vinB.r ?_
      refine tr ?_
      refine tr ?_
      refine vinB.r ?_
      refine tr ?_
      refine vb (b' := false) rfl ?_
      symm; rw [decide_eq_false_iff_not]; exact agree_not hx1 hx2 fhc2
    have fhc2 : x1 = x2 := ndF hc2
    refine sk ?_
    refine vinB.n ?_
    refine tn ?_
    refine VRun.region ?_
    refine mO (tN i) rfl ?_
    refine fO (B.add (n := (((i + 1) : Nat) : Int)) (tv (tN i) rfl) (VEv.int .i64 1) (by first | rfl | (rw [wrap64 (by omega)]; omega) | (rw [wrap64 (by omega)]; done))) ?_
    refine aO (tN (i + 1)) rfl ?_
    refine VRunO.nil ?_
    refine tn ?_
    refine ⟨(i + 1 : Nat), ?_, ?_, Wk.mk (fun k => k) ?_ ?_ ?_⟩
    · exact agree_next hI' hx1 hx2 fhc2
    · first | omega | (simp only []; omega) | (show _ < _; omega) | (simp; omega)
    · exact (ball_cons ⟨rfl, rfl⟩ (ball_cons ⟨rfl, rfl⟩ (ball_cons ⟨rfl, rfl⟩ (ball_nil))))
    · exact (ball_nil)
    · show List.Nodup ([] : List Nat)
      decide
  have fhc1 : ¬ (i < a.length) := of_decide_eq_false hc1
  refine VRun.exit ?_
  refine vthn.e ?_
  refine vthn.e ?_
  refine vinB.e ?_
  refine tn ?_
  refine sr ?_
  refine fO (OF.assign (VEv.bool true)) ?_
  refine nt ?_
  refine rt ?_
  refine vb (b' := true) rfl ?_
  symm; rw [decide_eq_true_eq]; exact agree_all hI' fhc0 fhc1
theorem W_laws_eqHouse (n : Nat) (a : D.House) (b : D.House) (ha : zHouse a ≤ mx) (hb : zHouse b ≤ mx) : Pure (acall Try.prog (n + 8)) 17 [(T.agg (eHouse false a)), (T.agg (eHouse false b))] (tB (decide (a = b))) := by
  refine Pure.intro (rs := [ResultVar.tmp 4]) Try.func17 rfl rfl rfl (E0 := [(0, (T.agg (eHouse false a))), (1, (T.agg (eHouse false b)))]) rfl ?_
  have hlim : lim = 1099511627776 := rfl
  have hmx : mx = 1048576 := rfl
  have hmax : maxLen = 9223372036854775807 := rfl
  simp only [zHouse] at ha hb
  have hla_List := zL_len (z := zListed) a.List
  have hla_Dict := zL_len (z := zMeaning) a.Dict
  have hla_Issues := zL_len (z := zIssue) a.Issues
  have hla_Uses := zL_len (z := zUsed) a.Uses
  have hla_Corrections := zL_len (z := zCorrection) a.Corrections
  have hla_Entries := zL_len (z := zEntry) a.Entries
  have hlb_List := zL_len (z := zListed) b.List
  have hlb_Dict := zL_len (z := zMeaning) b.Dict
  have hlb_Issues := zL_len (z := zIssue) b.Issues
  have hlb_Uses := zL_len (z := zUsed) b.Uses
  have hlb_Corrections := zL_len (z := zCorrection) b.Corrections
  have hlb_Entries := zL_len (z := zEntry) b.Entries
  refine sr ?_
  refine kO (B.box (ts := (eHouse false a)) (tv (T.agg (eHouse false a)) rfl) nofun rfl) ?_
  refine kO (B.box (ts := (eHouse false b)) (tv (T.agg (eHouse false b)) rfl) nofun rfl) ?_
  refine fO (OF.assign (VEv.bool false)) ?_
  refine nt ?_
  refine sq ?_
  refine sr ?_
  refine fO (OF.fieldAddrO (tv (T.op 0 0) rfl) fa53_0) ?_
  refine lO (OL.loadO1 (t := (rd 4 eListed a.List)) (tv (T.op 0 0) rfl) rfl rfl st46) ?_
  refine fO (OF.fieldAddrO (tv (T.op 1 0) rfl) fa53_0) ?_
  refine lO (OL.loadO1 (t := (rd 4 eListed b.List)) (tv (T.op 1 0) rfl) rfl rfl st46) ?_
  refine cO (cS (vc (tv (rd 4 eListed a.List) rfl) (vc (tv (rd 4 eListed b.List) rfl) VEvs.nil)) (lp rfl (lp rfl (LendL.nil))) (W_laws_eqListedS (n + 5) a.List b.List (by first | assumption | omega) (by first | assumption | omega)) rfl rfl) ?_
  refine fO (B.not (c := (!(decide (a.List = b.List)))) (tv (tB (decide (a.List = b.List))) rfl) rfl) ?_
  refine nt ?_
  refine VRun.cond (tv (tB (!(decide (a.List = b.List)))) rfl) (fun hc0 => ?_) (fun hc0 => ?_)
  · have fhc0 : ¬ (a.List = b.List) := ndT hc0
    refine sr ?_
    refine fO (OF.assign (VEv.bool false)) ?_
    refine nt ?_
    refine rt ?_
    refine tr ?_
    refine vb (b' := false) rfl ?_
    obtain ⟨a0, a1, a2, a3, a4, a5, a6, a7⟩ := a
    obtain ⟨b0, b1, b2, b3, b4, b5, b6, b7⟩ := b
    simp_all
  have fhc0 : a.List = b.List := ndF hc0
  refine sk ?_
  refine tn ?_
  refine sq ?_
  refine sr ?_
  refine fO (OF.fieldAddrO (tv (T.op 0 0) rfl) fa53_1) ?_
  refine lO (OL.loadO1 (t := (rd 2 eMeaning a.Dict)) (tv (T.op 0 1) rfl) rfl rfl st47) ?_
  refine fO (OF.fieldAddrO (tv (T.op 1 0) rfl) fa53_1) ?_
  refine lO (OL.loadO1 (t := (rd 2 eMeaning b.Dict)) (tv (T.op 1 1) rfl) rfl rfl st47) ?_
  refine cO (cS (vc (tv (rd 2 eMeaning a.Dict) rfl) (vc (tv (rd 2 eMeaning b.Dict) rfl) VEvs.nil)) (lp rfl (lp rfl (LendL.nil))) (W_laws_eqMeaningS (n + 5) a.Dict b.Dict (by first | assumption | omega) (by first | assumption | omega)) rfl rfl) ?_
  refine fO (B.not (c := (!(decide (a.Dict = b.Dict)))) (tv (tB (decide (a.Dict = b.Dict))) rfl) rfl) ?_
  refine nt ?_
  refine VRun.cond (tv (tB (!(decide (a.Dict = b.Dict)))) rfl) (fun hc1 => ?_) (fun hc1 => ?_)
  · have fhc1 : ¬ (a.Dict = b.Dict) := ndT hc1
    refine sr ?_
    refine fO (OF.assign (VEv.bool false)) ?_
    refine nt ?_
    refine rt ?_
    refine tr ?_
    refine vb (b' := false) rfl ?_
    obtain ⟨a0, a1, a2, a3, a4, a5, a6, a7⟩ := a
    obtain ⟨b0, b1, b2, b3, b4, b5, b6, b7⟩ := b
    simp_all
  have fhc1 : a.Dict = b.Dict := ndF hc1
  refine sk ?_
  refine tn ?_
  refine sq ?_
  refine sr ?_
  refine fO (OF.fieldAddrO (tv (T.op 0 0) rfl) fa53_2) ?_
  refine lO (OL.loadOn (us := (eDraft false a.Desk)) (tv (T.op 0 2) rfl) rfl st32 sz32 (Nat.le_of_ble_eq_true rfl) rfl) ?_
  refine fO (OF.fieldAddrO (tv (T.op 1 0) rfl) fa53_2) ?_
  refine lO (OL.loadOn (us := (eDraft false b.Desk)) (tv (T.op 1 2) rfl) rfl st32 sz32 (Nat.le_of_ble_eq_true rfl) rfl) ?_
  refine cO (cS (vc (tv (T.agg (eDraft false a.Desk)) rfl) (vc (tv (T.agg (eDraft false b.Desk)) rfl) VEvs.nil)) (LendL.cons (lg okeDraft) (LendL.cons (lg okeDraft) (LendL.nil))) (W_laws_eqDraft (n + 2) a.Desk b.Desk (by first | assumption | omega) (by first | assumption | omega)) rfl rfl) ?_
  refine fO (B.not (c := (!(decide (a.Desk = b.Desk)))) (tv (tB (decide (a.Desk = b.Desk))) rfl) rfl) ?_
  refine nt ?_
  refine VRun.cond (tv (tB (!(decide (a.Desk = b.Desk)))) rfl) (fun hc2 => ?_) (fun hc2 => ?_)
  · have fhc2 : ¬ (a.Desk = b.Desk) := ndT hc2
    refine sr ?_
    refine fO (OF.assign (VEv.bool false)) ?_
    refine nt ?_
    refine rt ?_
    refine tr ?_
    refine vb (b' := false) rfl ?_
    obtain ⟨a0, a1, a2, a3, a4, a5, a6, a7⟩ := a
    obtain ⟨b0, b1, b2, b3, b4, b5, b6, b7⟩ := b
    simp_all
  have fhc2 : a.Desk = b.Desk := ndF hc2
  refine sk ?_
  refine tn ?_
  refine sq ?_
  refine sr ?_
  refine fO (OF.fieldAddrO (tv (T.op 0 0) rfl) fa53_3) ?_
  refine lO (OL.loadO1 (t := (rd 10 eIssue a.Issues)) (tv (T.op 0 8) rfl) rfl rfl st48) ?_
  refine fO (OF.fieldAddrO (tv (T.op 1 0) rfl) fa53_3) ?_
  refine lO (OL.loadO1 (t := (rd 10 eIssue b.Issues)) (tv (T.op 1 8) rfl) rfl rfl st48) ?_
  refine cO (cS (vc (tv (rd 10 eIssue a.Issues) rfl) (vc (tv (rd 10 eIssue b.Issues) rfl) VEvs.nil)) (lp rfl (lp rfl (LendL.nil))) (W_laws_eqIssueS (n + 0) a.Issues b.Issues (by first | assumption | omega) (by first | assumption | omega)) rfl rfl) ?_
  refine fO (B.not (c := (!(decide (a.Issues = b.Issues)))) (tv (tB (decide (a.Issues = b.Issues))) rfl) rfl) ?_
  refine nt ?_
  refine VRun.cond (tv (tB (!(decide (a.Issues = b.Issues)))) rfl) (fun hc3 => ?_) (fun hc3 => ?_)
  · have fhc3 : ¬ (a.Issues = b.Issues) := ndT hc3
    refine sr ?_
    refine fO (OF.assign (VEv.bool false)) ?_
    refine nt ?_
    refine rt ?_
    refine tr ?_
    refine vb (b' := false) rfl ?_
    obtain ⟨a0, a1, a2, a3, a4, a5, a6, a7⟩ := a
    obtain ⟨b0, b1, b2, b3, b4, b5, b6, b7⟩ := b
    simp_all
  have fhc3 : a.Issues = b.Issues := ndF hc3
  refine sk ?_
  refine tn ?_
  refine sq ?_
  refine sr ?_
  refine fO (OF.fieldAddrO (tv (T.op 0 0) rfl) fa53_4) ?_
  refine lO (OL.loadO1 (t := (rd 2 eUsed a.Uses)) (tv (T.op 0 9) rfl) rfl rfl st49) ?_
  refine fO (OF.fieldAddrO (tv (T.op 1 0) rfl) fa53_4) ?_
  refine lO (OL.loadO1 (t := (rd 2 eUsed b.Uses)) (tv (T.op 1 9) rfl) rfl rfl st49) ?_
  refine cO (cS (vc (tv (rd 2 eUsed a.Uses) rfl) (vc (tv (rd 2 eUsed b.Uses) rfl) VEvs.nil)) (lp rfl (lp rfl (LendL.nil))) (W_laws_eqUsedS (n + 5) a.Uses b.Uses (by first | assumption | omega) (by first | assumption | omega)) rfl rfl) ?_
  refine fO (B.not (c := (!(decide (a.Uses = b.Uses)))) (tv (tB (decide (a.Uses = b.Uses))) rfl) rfl) ?_
  refine nt ?_
  refine VRun.cond (tv (tB (!(decide (a.Uses = b.Uses)))) rfl) (fun hc4 => ?_) (fun hc4 => ?_)
  · have fhc4 : ¬ (a.Uses = b.Uses) := ndT hc4
    refine sr ?_
    refine fO (OF.assign (VEv.bool false)) ?_
    refine nt ?_
    refine rt ?_
    refine tr ?_
    refine vb (b' := false) rfl ?_
    obtain ⟨a0, a1, a2, a3, a4, a5, a6, a7⟩ := a
    obtain ⟨b0, b1, b2, b3, b4, b5, b6, b7⟩ := b
    simp_all
  have fhc4 : a.Uses = b.Uses := ndF hc4
  refine sk ?_
  refine tn ?_
  refine sq ?_
  refine sr ?_
  refine fO (OF.fieldAddrO (tv (T.op 0 0) rfl) fa53_5) ?_
  refine lO (OL.loadO1 (t := (rd 5 eCorrection a.Corrections)) (tv (T.op 0 10) rfl) rfl rfl st50) ?_
  refine fO (OF.fieldAddrO (tv (T.op 1 0) rfl) fa53_5) ?_
  refine lO (OL.loadO1 (t := (rd 5 eCorrection b.Corrections)) (tv (T.op 1 10) rfl) rfl rfl st50) ?_
  refine cO (cS (vc (tv (rd 5 eCorrection a.Corrections) rfl) (vc (tv (rd 5 eCorrection b.Corrections) rfl) VEvs.nil)) (lp rfl (lp rfl (LendL.nil))) (W_laws_eqCorrectionS (n + 2) a.Corrections b.Corrections (by first | assumption | omega) (by first | assumption | omega)) rfl rfl) ?_
  refine fO (B.not (c := (!(decide (a.Corrections = b.Corrections)))) (tv (tB (decide (a.Corrections = b.Corrections))) rfl) rfl) ?_
  refine nt ?_
  refine VRun.cond (tv (tB (!(decide (a.Corrections = b.Corrections)))) rfl) (fun hc5 => ?_) (fun hc5 => ?_)
  · have fhc5 : ¬ (a.Corrections = b.Corrections) := ndT hc5
    refine sr ?_
    refine fO (OF.assign (VEv.bool false)) ?_
    refine nt ?_
    refine rt ?_
    refine tr ?_
    refine vb (b' := false) rfl ?_
    obtain ⟨a0, a1, a2, a3, a4, a5, a6, a7⟩ := a
    obtain ⟨b0, b1, b2, b3, b4, b5, b6, b7⟩ := b
    simp_all
  have fhc5 : a.Corrections = b.Corrections := ndF hc5
  refine sk ?_
  refine tn ?_
  refine sq ?_
  refine sr ?_
  refine fO (OF.fieldAddrO (tv (T.op 0 0) rfl) fa53_6) ?_
  refine lO (OL.loadO1 (t := (rd 4 eEntry a.Entries)) (tv (T.op 0 11) rfl) rfl rfl st51) ?_
  refine fO (OF.fieldAddrO (tv (T.op 1 0) rfl) fa53_6) ?_
  refine lO (OL.loadO1 (t := (rd 4 eEntry b.Entries)) (tv (T.op 1 11) rfl) rfl rfl st51) ?_
  refine cO (cS (vc (tv (rd 4 eEntry a.Entries) rfl) (vc (tv (rd 4 eEntry b.Entries) rfl) VEvs.nil)) (lp rfl (lp rfl (LendL.nil))) (W_laws_eqEntryS (n + 5) a.Entries b.Entries (by first | assumption | omega) (by first | assumption | omega)) rfl rfl) ?_
  refine fO (B.not (c := (!(decide (a.Entries = b.Entries)))) (tv (tB (decide (a.Entries = b.Entries))) rfl) rfl) ?_
  refine nt ?_
  refine VRun.cond (tv (tB (!(decide (a.Entries = b.Entries)))) rfl) (fun hc6 => ?_) (fun hc6 => ?_)
  · have fhc6 : ¬ (a.Entries = b.Entries) := ndT hc6
    refine sr ?_
    refine fO (OF.assign (VEv.bool false)) ?_
    refine nt ?_
    refine rt ?_
    refine tr ?_
    refine vb (b' := false) rfl ?_
    obtain ⟨a0, a1, a2, a3, a4, a5, a6, a7⟩ := a
    obtain ⟨b0, b1, b2, b3, b4, b5, b6, b7⟩ := b
    simp_all
  have fhc6 : a.Entries = b.Entries := ndF hc6
  refine sk ?_
  refine tn ?_
  refine sq ?_
  refine sr ?_
  refine fO (OF.fieldAddrO (tv (T.op 0 0) rfl) fa53_7) ?_
  refine lO (OL.loadO1 (t := (tI a.Now)) (tv (T.op 0 12) rfl) rfl rfl st3) ?_
  refine fO (OF.fieldAddrO (tv (T.op 1 0) rfl) fa53_7) ?_
  refine lO (OL.loadO1 (t := (tI b.Now)) (tv (T.op 1 12) rfl) rfl rfl st3) ?_
  refine fO (B.neq (c := (!(decide (a.Now = b.Now)))) (tv (tI a.Now) rfl) (tv (tI b.Now) rfl) rfl) ?_
  refine nt ?_
  refine VRun.cond (tv (tB (!(decide (a.Now = b.Now)))) rfl) (fun hc7 => ?_) (fun hc7 => ?_)
  · have fhc7 : ¬ (a.Now = b.Now) := ndT hc7
    refine sr ?_
    refine fO (OF.assign (VEv.bool false)) ?_
    refine nt ?_
    refine rt ?_
    refine tr ?_
    refine vb (b' := false) rfl ?_
    obtain ⟨a0, a1, a2, a3, a4, a5, a6, a7⟩ := a
    obtain ⟨b0, b1, b2, b3, b4, b5, b6, b7⟩ := b
    simp_all
  have fhc7 : a.Now = b.Now := ndF hc7
  refine sk ?_
  refine tn ?_
  refine sr ?_
  refine fO (OF.assign (VEv.bool true)) ?_
  refine nt ?_
  refine rt ?_
  refine vb (b' := true) rfl ?_
  obtain ⟨a0, a1, a2, a3, a4, a5, a6, a7⟩ := a
  obtain ⟨b0, b1, b2, b3, b4, b5, b6, b7⟩ := b
  simp_all
end Go.Proofs.Ytfdefabncdddkaa.AE
