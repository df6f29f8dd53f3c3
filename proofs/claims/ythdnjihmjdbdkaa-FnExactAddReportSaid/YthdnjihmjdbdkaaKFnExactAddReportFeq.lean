/- Walks of the program's functions over trees. Conditions: as each theorem states. -/
import Derived.Test.YthdnjihmjdbdkaaKFnExactAddReportFto
namespace Go.Proofs.Ythdnjihmjdbdkaa.AE
open Go Go.RowKit
set_option linter.unusedVariables false
set_option linter.unusedSimpArgs false
set_option maxRecDepth 20000
set_option maxHeartbeats 2000000

theorem W_laws_eqReport (n : Nat) (a : D.Report) (b : D.Report)  : Pure (acall Try.prog (n + 1)) 88 [(T.agg (eReport false a)), (T.agg (eReport false b))] (tB (decide (a = b))) := by
  refine Pure.intro (rs := [ResultVar.tmp 4]) Try.func88 rfl rfl rfl (E0 := [(0, (T.agg (eReport false a))), (1, (T.agg (eReport false b)))]) rfl ?_
  have hlim : lim = 1099511627776 := rfl
  have hmx : mx = 1048576 := rfl
  have hmax : maxLen = 9223372036854775807 := rfl
  refine sr ?_
  refine kO (B.box (ts := (eReport false a)) (tv (T.agg (eReport false a)) rfl) nofun rfl) ?_
  refine kO (B.box (ts := (eReport false b)) (tv (T.agg (eReport false b)) rfl) nofun rfl) ?_
  refine fO (OF.assign (VEv.bool false)) ?_
  refine nt ?_
  refine sq ?_
  refine sr ?_
  refine fO (OF.fieldAddrO (tv (T.op 0 0) rfl) fa48_0) ?_
  refine lO (OL.loadO1 (t := (tI a.Tester)) (tv (T.op 0 0) rfl) rfl rfl st3) ?_
  refine fO (OF.fieldAddrO (tv (T.op 1 0) rfl) fa48_0) ?_
  refine lO (OL.loadO1 (t := (tI b.Tester)) (tv (T.op 1 0) rfl) rfl rfl st3) ?_
  refine fO (B.neq (c := (!(decide (a.Tester = b.Tester)))) (tv (tI a.Tester) rfl) (tv (tI b.Tester) rfl) rfl) ?_
  refine nt ?_
  refine VRun.cond (tv (tB (!(decide (a.Tester = b.Tester)))) rfl) (fun hc0 => ?_) (fun hc0 => ?_)
  · have fhc0 : ¬ (a.Tester = b.Tester) := ndT hc0
    refine sr ?_
    refine fO (OF.assign (VEv.bool false)) ?_
    refine nt ?_
    refine rt ?_
    refine tr ?_
    refine vb (b' := false) rfl ?_
    obtain ⟨a0, a1, a2, a3⟩ := a
    obtain ⟨b0, b1, b2, b3⟩ := b
    simp_all
  have fhc0 : a.Tester = b.Tester := ndF hc0
  refine sk ?_
  refine tn ?_
  refine sq ?_
  refine sr ?_
  refine fO (OF.fieldAddrO (tv (T.op 0 0) rfl) fa48_1) ?_
  refine lO (OL.loadO1 (t := (tI a.Slot)) (tv (T.op 0 1) rfl) rfl rfl st3) ?_
  refine fO (OF.fieldAddrO (tv (T.op 1 0) rfl) fa48_1) ?_
  refine lO (OL.loadO1 (t := (tI b.Slot)) (tv (T.op 1 1) rfl) rfl rfl st3) ?_
  refine fO (B.neq (c := (!(decide (a.Slot = b.Slot)))) (tv (tI a.Slot) rfl) (tv (tI b.Slot) rfl) rfl) ?_
  refine nt ?_
  refine VRun.cond (tv (tB (!(decide (a.Slot = b.Slot)))) rfl) (fun hc1 => ?_) (fun hc1 => ?_)
  · have fhc1 : ¬ (a.Slot = b.Slot) := ndT hc1
    refine sr ?_
    refine fO (OF.assign (VEv.bool false)) ?_
    refine nt ?_
    refine rt ?_
    refine tr ?_
    refine vb (b' := false) rfl ?_
    obtain ⟨a0, a1, a2, a3⟩ := a
    obtain ⟨b0, b1, b2, b3⟩ := b
    simp_all
  have fhc1 : a.Slot = b.Slot := ndF hc1
  refine sk ?_
  refine tn ?_
  refine sq ?_
  refine sr ?_
  refine fO (OF.fieldAddrO (tv (T.op 0 0) rfl) fa48_2) ?_
  refine lO (OL.loadO1 (t := (tI a.Kind)) (tv (T.op 0 2) rfl) rfl rfl st3) ?_
  refine fO (OF.fieldAddrO (tv (T.op 1 0) rfl) fa48_2) ?_
  refine lO (OL.loadO1 (t := (tI b.Kind)) (tv (T.op 1 2) rfl) rfl rfl st3) ?_
  refine fO (B.neq (c := (!(decide (a.Kind = b.Kind)))) (tv (tI a.Kind) rfl) (tv (tI b.Kind) rfl) rfl) ?_
  refine nt ?_
  refine VRun.cond (tv (tB (!(decide (a.Kind = b.Kind)))) rfl) (fun hc2 => ?_) (fun hc2 => ?_)
  · have fhc2 : ¬ (a.Kind = b.Kind) := ndT hc2
    refine sr ?_
    refine fO (OF.assign (VEv.bool false)) ?_
    refine nt ?_
    refine rt ?_
    refine tr ?_
    refine vb (b' := false) rfl ?_
    obtain ⟨a0, a1, a2, a3⟩ := a
    obtain ⟨b0, b1, b2, b3⟩ := b
    simp_all
  have fhc2 : a.Kind = b.Kind := ndF hc2
  refine sk ?_
  refine tn ?_
  refine sq ?_
  refine sr ?_
  refine fO (OF.fieldAddrO (tv (T.op 0 0) rfl) fa48_3) ?_
  refine lO (OL.loadO1 (t := (tS a.Word)) (tv (T.op 0 3) rfl) rfl rfl st9) ?_
  refine fO (OF.fieldAddrO (tv (T.op 1 0) rfl) fa48_3) ?_
  refine lO (OL.loadO1 (t := (tS b.Word)) (tv (T.op 1 3) rfl) rfl rfl st9) ?_
  refine fO (B.sneq (c := (!(decide (a.Word = b.Word)))) (tv (tS a.Word) rfl) (tv (tS b.Word) rfl) rfl) ?_
  refine nt ?_
  refine VRun.cond (tv (tB (!(decide (a.Word = b.Word)))) rfl) (fun hc3 => ?_) (fun hc3 => ?_)
  · have fhc3 : ¬ (a.Word = b.Word) := ndT hc3
    refine sr ?_
    refine fO (OF.assign (VEv.bool false)) ?_
    refine nt ?_
    refine rt ?_
    refine tr ?_
    refine vb (b' := false) rfl ?_
    obtain ⟨a0, a1, a2, a3⟩ := a
    obtain ⟨b0, b1, b2, b3⟩ := b
    simp_all
  have fhc3 : a.Word = b.Word := ndF hc3
  refine sk ?_
  refine tn ?_
  refine sr ?_
  refine fO (OF.assign (VEv.bool true)) ?_
  refine nt ?_
  refine rt ?_
  refine vb (b' := true) rfl ?_
  obtain ⟨a0, a1, a2, a3⟩ := a
  obtain ⟨b0, b1, b2, b3⟩ := b
  simp_all
theorem W_laws_eqReportS (n : Nat) (a : List D.Report) (b : List D.Report) (hla : a.length ≤ mx) (hlb : b.length ≤ mx) : Pure (acall Try.prog (n + 2)) 24 [(rd 4 eReport a), (rd 4 eReport b)] (tB (decide (a = b))) := by
  refine Pure.intro (rs := [ResultVar.tmp 4]) Try.func24 rfl rfl rfl (E0 := [(0, (rd 4 eReport a)), (1, (rd 4 eReport b))]) rfl ?_
  have hlim : lim = 1099511627776 := rfl
  have hmx : mx = 1048576 := rfl
  have hmax : maxLen = 9223372036854775807 := rfl
  refine sr ?_
  refine fO (OF.assign (VEv.bool false)) ?_
  refine nt ?_
  refine sq ?_
  refine sr ?_
  refine mO (rd 4 eReport a) rfl ?_
  refine lO (B.lenR (m := a.length) (tv (rd 4 eReport a) rfl) Try.underlying32 (List.length_map ..)) ?_
  refine mO (rd 4 eReport b) rfl ?_
  refine lO (B.lenR (m := b.length) (tv (rd 4 eReport b) rfl) Try.underlying32 (List.length_map ..)) ?_
  refine fO (B.neq (c := (!(decide (a.length = b.length)))) (tv (tN a.length) rfl) (tv (tN b.length) rfl) (by first | (exact decNn (by omega)))) ?_
  refine nt ?_
  refine VRun.cond (tv (tB (!(decide (a.length = b.length)))) rfl) (fun hc0 => ?_) (fun hc0 => ?_)
  · have fhc0 : ¬ (a.length = b.length) := ndT hc0
    refine sr ?_
    refine fO (OF.assign (VEv.bool false)) ?_
    refine nt ?_
    refine rt ?_
    refine tr ?_
    refine vb (b' := false) rfl ?_
    symm; rw [decide_eq_false_iff_not]; rintro rfl; exact fhc0 rfl
  have fhc0 : a.length = b.length := ndF hc0
  refine sk ?_
  refine tn ?_
  refine sq ?_
  refine sr ?_
  refine fO (OF.assign (VEv.int .i64 0)) ?_
  refine nt ?_
  refine VRun.block ?_
  refine VRun.loop (A := Nat) (fun s_ => [(0, (rd 4 eReport a)), (1, (rd 4 eReport b)), (5, (tN s_))]) (fun s_ => mkO []) 0 (fun s_ => s_ ≤ a.length ∧ ∀ j, j < s_ → a[j]? = b[j]?) (fun s_ => a.length - s_) (0 : Nat) ?_ (Wk.mk (fun k => k) ?_ ?_ ?_) ?_
  · first | trivial | (simp; done) | omega | (constructor <;> simp)
  · exact (ball_cons ⟨rfl, rfl⟩ (ball_cons ⟨rfl, rfl⟩ (ball_cons ⟨rfl, rfl⟩ (ball_nil))))
  · exact (ball_nil)
  · show List.Nodup ([] : List Nat)
    decide
  rintro i hI
  have hI' : i ≤ a.length ∧ ∀ j, j < i → a[j]? = b[j]? := hI
  clear hI
  show VRun _ _ _ [(0, (rd 4 eReport a)), (1, (rd 4 eReport b)), (5, (tN i))] (mkO []) 0 _
  refine sq ?_
  refine sr ?_
  refine mO (tN i) rfl ?_
  refine mO (rd 4 eReport a) rfl ?_
  refine lO (B.lenR (m := a.length) (tv (rd 4 eReport a) rfl) Try.underlying32 (List.length_map ..)) ?_
  refine fO (B.lss (c := (decide (i < a.length))) (tv (tN i) rfl) (tv (tN a.length) rfl) (by first | (exact decN (by omega)))) ?_
  refine nt ?_
  refine VRun.cond (tv (tB (decide (i < a.length))) rfl) (fun hc1 => ?_) (fun hc1 => ?_)
  · have fhc1 : i < a.length := of_decide_eq_true hc1
    refine sk ?_
    refine tn ?_
    refine sq ?_
    refine VRun.block ?_
    refine sq ?_
    refine VRun.draw (B := [[], [], [1, 0], [0, 1, 2], [], [], [5, 4], [4, 5, 6], [6, 5, 4, 7, 2, 1, 0, 3], [3, 0, 1, 2, 7, 4, 5, 6, 8]]) (by kernel_rfl) (by kernel_rfl) ?_
    refine mD (rd 4 eReport a) rfl rfl ?_
    refine mD (tN i) rfl rfl ?_
    obtain ⟨x1, hx1⟩ : ∃ x, a[i]? = some x := ⟨_, List.getElem?_eq_getElem (by first | omega)⟩
    refine fD (OF.indexAddrR (row := (eReport false x1)) (i := i) (tv (rd 4 eReport a) rfl) (tv (tN i) rfl) rfl (map_at _ hx1) Try.underlying32 sz48 if48) rfl rfl ?_
    refine lD (OL.loadRn (us := (eReport false x1)) (tv (T.rp (eReport false x1)) rfl) st48 sz48 (Nat.le_of_ble_eq_true rfl) rfl) rfl rfl ?_
    refine mD (rd 4 eReport b) rfl rfl ?_
    refine mD (tN i) rfl rfl ?_
    obtain ⟨x2, hx2⟩ : ∃ x, b[i]? = some x := ⟨_, List.getElem?_eq_getElem (by first | omega)⟩
    refine fD (OF.indexAddrR (row := (eReport false x2)) (i := i) (tv (rd 4 eReport b) rfl) (tv (tN i) rfl) rfl (map_at _ hx2) Try.underlying32 sz48 if48) rfl rfl ?_
    refine lD (OL.loadRn (us := (eReport false x2)) (tv (T.rp (eReport false x2)) rfl) st48 sz48 (Nat.le_of_ble_eq_true rfl) rfl) rfl rfl ?_
    refine VRunD.quiet (bi := [6, 5, 4, 7, 2, 1, 0, 3]) rfl VWant.always rfl rfl rfl (ball_nil) (cS (vc (tv (T.agg (eReport false x1)) rfl) (vc (tv (T.agg (eReport false x2)) rfl) VEvs.nil)) (LendL.cons (lg okeReport) (LendL.cons (lg okeReport) (LendL.nil))) (W_laws_eqReport (n + 0) x1 x2 ) rfl rfl) ?_
    refine fD (B.not (c := (!(decide (x1 = x2)))) (tv (tB (decide (x1 = x2))) rfl) rfl) rfl rfl ?_
    refine VRunD.nil ?_
    refine tn ?_
    refine VRun.cond (tv (tB (!(decide (x1 = x2)))) rfl) (fun hc2 => ?_) (fun hc2 => ?_)
    · have fhc2 : ¬ (x1 = x2) := ndT hc2
      refine sr ?_
      refine fO (OF.assign (VEv.bool false)) ?_
      refine nt ?_
      refine rt ?_
      refine vinB.r ?_
      refine tr ?_
      refine tr ?_
      refine vinB.r ?_
      refine tr ?_
      refine vb (b' := false) rfl ?_
      symm; rw [decide_eq_false_iff_not]; exact agree_not hx1 hx2 fhc2
    have fhc2 : x1 = x2 := ndF hc2
    refine sk ?_
    refine vinB.n ?_
    refine tn ?_
    refine VRun.region ?_
    refine mO (tN i) rfl ?_
    refine fO (B.add (n := (((i + 1) : Nat) : Int)) (tv (tN i) rfl) (VEv.int .i64 1) (by first | rfl | (rw [wrap64 (by omega)]; omega) | (rw [wrap64 (by omega)]; done))) ?_
    refine aO (tN (i + 1)) rfl ?_
    refine VRunO.nil ?_
    refine tn ?_
    refine ⟨(i + 1 : Nat), ?_, ?_, Wk.mk (fun k => k) ?_ ?_ ?_⟩
    · exact agree_next hI' hx1 hx2 fhc2
    · first | omega | (simp only []; omega) | (show _ < _; omega) | (simp; omega)
    · exact (ball_cons ⟨rfl, rfl⟩ (ball_cons ⟨rfl, rfl⟩ (ball_cons ⟨rfl, rfl⟩ (ball_nil))))
    · exact (ball_nil)
    · show List.Nodup ([] : List Nat)
      decide
  have fhc1 : ¬ (i < a.length) := of_decide_eq_false hc1
  refine VRun.exit ?_
  refine vthn.e ?_
  refine vthn.e ?_
  refine vinB.e ?_
  refine tn ?_
  refine sr ?_
  refine fO (OF.assign (VEv.bool true)) ?_
  refine nt ?_
  refine rt ?_
  refine vb (b' := true) rfl ?_
  symm; rw [decide_eq_true_eq]; exact agree_all hI' fhc0 fhc1
end Go.Proofs.Ythdnjihmjdbdkaa.AE
