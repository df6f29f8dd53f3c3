/- Walks of the program's functions over trees. Conditions: as each theorem states. -/
import Derived.Test.YtfdefabncdddkaaKFnExactEqualHousesFeq
namespace Go.Proofs.Ytfdefabncdddkaa.AE
open Go Go.RowKit
set_option linter.unusedVariables false
set_option linter.unusedSimpArgs false
set_option maxRecDepth 20000
set_option maxHeartbeats 2000000

theorem W_slices_Equal_int_int_ (n : Nat) (a : List Int) (b : List Int) (hla : a.length ≤ mx) (hlb : b.length ≤ mx) : Pure (acall Try.prog (n + 1)) 164 [(rd 1 eInt a), (rd 1 eInt b)] (tB (decide (a = b))) := by
  refine Pure.intro (rs := [ResultVar.tmp 4]) Try.func164 rfl rfl rfl (E0 := [(0, (rd 1 eInt a)), (1, (rd 1 eInt b))]) rfl ?_
  have hlim : lim = 1099511627776 := rfl
  have hmx : mx = 1048576 := rfl
  have hmax : maxLen = 9223372036854775807 := rfl
  refine sr ?_
  refine fO (OF.assign (VEv.bool false)) ?_
  refine nt ?_
  refine sq ?_
  refine sr ?_
  refine mO (rd 1 eInt a) rfl ?_
  refine lO (B.lenR (m := a.length) (tv (rd 1 eInt a) rfl) Try.underlying56 (List.length_map ..)) ?_
  refine mO (rd 1 eInt b) rfl ?_
  refine lO (B.lenR (m := b.length) (tv (rd 1 eInt b) rfl) Try.underlying56 (List.length_map ..)) ?_
  refine fO (B.neq (c := (!(decide (a.length = b.length)))) (tv (tN a.length) rfl) (tv (tN b.length) rfl) (by first | (exact decNn (by omega)))) ?_
  refine nt ?_
  refine VRun.cond (tv (tB (!(decide (a.length = b.length)))) rfl) (fun hc0 => ?_) (fun hc0 => ?_)
  · have fhc0 : ¬ (a.length = b.length) := ndT hc0
    refine sr ?_
    refine fO (OF.assign (VEv.bool false)) ?_
    refine nt ?_
    refine rt ?_
    refine tr ?_
    refine vb (b' := false) rfl ?_
    symm; rw [decide_eq_false_iff_not]; rintro rfl; exact fhc0 rfl
  have fhc0 : a.length = b.length := ndF hc0
  refine sk ?_
  refine tn ?_
  refine sq ?_
  refine sr ?_
  refine mO (rd 1 eInt a) rfl ?_
  refine lO (B.lenR (m := a.length) (tv (rd 1 eInt a) rfl) Try.underlying56 (List.length_map ..)) ?_
  refine fO (OF.move (VEv.int .i64 0)) ?_
  refine nt ?_
  refine VRun.block ?_
  refine VRun.loop (A := Nat) (fun s_ => [(0, (rd 1 eInt a)), (1, (rd 1 eInt b)), (12, (tN a.length)), (13, (tN s_))]) (fun s_ => mkO []) 0 (fun s_ => s_ ≤ a.length ∧ ∀ j, j < s_ → a[j]? = b[j]?) (fun s_ => a.length - s_) (0 : Nat) ?_ (Wk.mk (fun k => k) ?_ ?_ ?_) ?_
  · first | trivial | (simp; done) | omega | (constructor <;> simp)
  · exact (ball_cons ⟨rfl, rfl⟩ (ball_cons ⟨rfl, rfl⟩ (ball_cons ⟨rfl, rfl⟩ (ball_cons ⟨rfl, rfl⟩ (ball_nil)))))
  · exact (ball_nil)
  · show List.Nodup ([] : List Nat)
    decide
  rintro i hI
  have hI' : i ≤ a.length ∧ ∀ j, j < i → a[j]? = b[j]? := hI
  clear hI
  show VRun _ _ _ [(0, (rd 1 eInt a)), (1, (rd 1 eInt b)), (12, (tN a.length)), (13, (tN i))] (mkO []) 0 _
  refine sr ?_
  refine fO (B.lss (c := (decide (i < a.length))) (tv (tN i) rfl) (tv (tN a.length) rfl) (by first | (exact decN (by omega)))) ?_
  refine nt ?_
  refine sq ?_
  refine VRun.cond (tv (tB (decide (i < a.length))) rfl) (fun hc1 => ?_) (fun hc1 => ?_)
  · have fhc1 : i < a.length := of_decide_eq_true hc1
    refine sk ?_
    refine tn ?_
    refine sq ?_
    refine VRun.block ?_
    refine sr ?_
    refine mO (tN i) rfl ?_
    refine aO (tN i) rfl ?_
    refine nt ?_
    refine sq ?_
    refine VRun.draw (B := [[], [], [1, 0], [0, 1, 2], [], [], [5, 4], [4, 5, 6], [6, 5, 4, 7, 2, 1, 0, 3]]) (by kernel_rfl) (by kernel_rfl) ?_
    refine mD (rd 1 eInt a) rfl rfl ?_
    refine mD (tN i) rfl rfl ?_
    obtain ⟨x1, hx1⟩ : ∃ x, a[i]? = some x := ⟨_, List.getElem?_eq_getElem (by first | omega)⟩
    refine fD (OF.indexAddrR (row := (eInt false x1)) (i := i) (tv (rd 1 eInt a) rfl) (tv (tN i) rfl) rfl (map_at _ hx1) Try.underlying56 sz3 if3) rfl rfl ?_
    refine lD (OL.loadR1 (t := (tI x1)) (tv (T.rp [(tI x1)]) rfl) rfl st3) rfl rfl ?_
    refine mD (rd 1 eInt b) rfl rfl ?_
    refine mD (tN i) rfl rfl ?_
    obtain ⟨x2, hx2⟩ : ∃ x, b[i]? = some x := ⟨_, List.getElem?_eq_getElem (by first | omega)⟩
    refine fD (OF.indexAddrR (row := (eInt false x2)) (i := i) (tv (rd 1 eInt b) rfl) (tv (tN i) rfl) rfl (map_at _ hx2) Try.underlying56 sz3 if3) rfl rfl ?_
    refine lD (OL.loadR1 (t := (tI x2)) (tv (T.rp [(tI x2)]) rfl) rfl st3) rfl rfl ?_
    refine fD (B.neq (c := (!(decide (x1 = x2)))) (tv (tI x1) rfl) (tv (tI x2) rfl) rfl) rfl rfl ?_
    refine VRunD.nil ?_
    refine tn ?_
    refine VRun.cond (tv (tB (!(decide (x1 = x2)))) rfl) (fun hc2 => ?_) (fun hc2 => ?_)
    · have fhc2 : ¬ (x1 = x2) := ndT hc2
      refine sr ?_
      refine fO (OF.assign (VEv.bool false)) ?_
      refine nt ?_
      refine rt ?_
      refine vinB.r ?_
      refine tr ?_
      refine tr ?_
      refine vinB.r ?_
      refine tr ?_
      refine vb (b' := false) rfl ?_
      symm; rw [decide_eq_false_iff_not]; exact agree_not hx1 hx2 fhc2
    have fhc2 : x1 = x2 := ndF hc2
    refine sk ?_
    refine vinB.n ?_
    refine tn ?_
    refine VRun.region ?_
    refine fO (B.add (n := (((i + 1) : Nat) : Int)) (tv (tN i) rfl) (VEv.int .i64 1) (by first | rfl | (rw [wrap64 (by omega)]; omega) | (rw [wrap64 (by omega)]; done))) ?_
    refine mO (tN (i + 1)) rfl ?_
    refine VRunO.nil ?_
    refine tn ?_
    refine ⟨(i + 1 : Nat), ?_, ?_, Wk.mk (fun k => k) ?_ ?_ ?_⟩
    · exact agree_next hI' hx1 hx2 fhc2
    · first | omega | (simp only []; omega) | (show _ < _; omega) | (simp; omega)
    · exact (ball_cons ⟨rfl, rfl⟩ (ball_cons ⟨rfl, rfl⟩ (ball_cons ⟨rfl, rfl⟩ (ball_cons ⟨rfl, rfl⟩ (ball_nil)))))
    · exact (ball_nil)
    · show List.Nodup ([] : List Nat)
      decide
  have fhc1 : ¬ (i < a.length) := of_decide_eq_false hc1
  refine VRun.exit ?_
  refine vthn.e ?_
  refine vthn.e ?_
  refine vinB.e ?_
  refine tn ?_
  refine sr ?_
  refine fO (OF.assign (VEv.bool true)) ?_
  refine nt ?_
  refine rt ?_
  refine vb (b' := true) rfl ?_
  symm; rw [decide_eq_true_eq]; exact agree_all hI' fhc0 fhc1
theorem W_spec_EqualInts (n : Nat) (a : List Int) (b : List Int) (hla : a.length ≤ mx) (hlb : b.length ≤ mx) : Pure (acall Try.prog (n + 1)) 162 [(rd 1 eInt a), (rd 1 eInt b)] (tB (decide (a = b))) := by
  refine Pure.intro (rs := [ResultVar.tmp 4]) Try.func162 rfl rfl rfl (E0 := [(0, (rd 1 eInt a)), (1, (rd 1 eInt b))]) rfl ?_
  have hlim : lim = 1099511627776 := rfl
  have hmx : mx = 1048576 := rfl
  have hmax : maxLen = 9223372036854775807 := rfl
  refine sr ?_
  refine fO (OF.assign (VEv.bool false)) ?_
  refine nt ?_
  refine sq ?_
  refine sr ?_
  refine mO (rd 1 eInt a) rfl ?_
  refine lO (B.lenR (m := a.length) (tv (rd 1 eInt a) rfl) Try.underlying56 (List.length_map ..)) ?_
  refine mO (rd 1 eInt b) rfl ?_
  refine lO (B.lenR (m := b.length) (tv (rd 1 eInt b) rfl) Try.underlying56 (List.length_map ..)) ?_
  refine fO (B.neq (c := (!(decide (a.length = b.length)))) (tv (tN a.length) rfl) (tv (tN b.length) rfl) (by first | (exact decNn (by omega)))) ?_
  refine nt ?_
  refine VRun.cond (tv (tB (!(decide (a.length = b.length)))) rfl) (fun hc0 => ?_) (fun hc0 => ?_)
  · have fhc0 : ¬ (a.length = b.length) := ndT hc0
    refine sr ?_
    refine fO (OF.assign (VEv.bool false)) ?_
    refine nt ?_
    refine rt ?_
    refine tr ?_
    refine vb (b' := false) rfl ?_
    symm; rw [decide_eq_false_iff_not]; rintro rfl; exact fhc0 rfl
  have fhc0 : a.length = b.length := ndF hc0
  refine sk ?_
  refine tn ?_
  refine sq ?_
  refine sr ?_
  refine fO (OF.assign (VEv.int .i64 0)) ?_
  refine nt ?_
  refine VRun.block ?_
  refine VRun.loop (A := Nat) (fun s_ => [(0, (rd 1 eInt a)), (1, (rd 1 eInt b)), (5, (tN s_))]) (fun s_ => mkO []) 0 (fun s_ => s_ ≤ a.length ∧ ∀ j, j < s_ → a[j]? = b[j]?) (fun s_ => a.length - s_) (0 : Nat) ?_ (Wk.mk (fun k => k) ?_ ?_ ?_) ?_
  · first | trivial | (simp; done) | omega | (constructor <;> simp)
  · exact (ball_cons ⟨rfl, rfl⟩ (ball_cons ⟨rfl, rfl⟩ (ball_cons ⟨rfl, rfl⟩ (ball_nil))))
  · exact (ball_nil)
  · show List.Nodup ([] : List Nat)
    decide
  rintro i hI
  have hI' : i ≤ a.length ∧ ∀ j, j < i → a[j]? = b[j]? := hI
  clear hI
  show VRun _ _ _ [(0, (rd 1 eInt a)), (1, (rd 1 eInt b)), (5, (tN i))] (mkO []) 0 _
  refine sq ?_
  refine sr ?_
  refine mO (tN i) rfl ?_
  refine mO (rd 1 eInt a) rfl ?_
  refine lO (B.lenR (m := a.length) (tv (rd 1 eInt a) rfl) Try.underlying56 (List.length_map ..)) ?_
  refine fO (B.lss (c := (decide (i < a.length))) (tv (tN i) rfl) (tv (tN a.length) rfl) (by first | (exact decN (by omega)))) ?_
  refine nt ?_
  refine VRun.cond (tv (tB (decide (i < a.length))) rfl) (fun hc1 => ?_) (fun hc1 => ?_)
  · have fhc1 : i < a.length := of_decide_eq_true hc1
    refine sk ?_
    refine tn ?_
    refine sq ?_
    refine VRun.block ?_
    refine sq ?_
    refine VRun.draw (B := [[], [], [1, 0], [0, 1, 2], [], [], [5, 4], [4, 5, 6], [6, 5, 4, 7, 2, 1, 0, 3]]) (by kernel_rfl) (by kernel_rfl) ?_
    refine mD (rd 1 eInt a) rfl rfl ?_
    refine mD (tN i) rfl rfl ?_
    obtain ⟨x1, hx1⟩ : ∃ x, a[i]? = some x := ⟨_, List.getElem?_eq_getElem (by first | omega)⟩
    refine fD (OF.indexAddrR (row := (eInt false x1)) (i := i) (tv (rd 1 eInt a) rfl) (tv (tN i) rfl) rfl (map_at _ hx1) Try.underlying56 sz3 if3) rfl rfl ?_
    refine lD (OL.loadR1 (t := (tI x1)) (tv (T.rp [(tI x1)]) rfl) rfl st3) rfl rfl ?_
    refine mD (rd 1 eInt b) rfl rfl ?_
    refine mD (tN i) rfl rfl ?_
    obtain ⟨x2, hx2⟩ : ∃ x, b[i]? = some x := ⟨_, List.getElem?_eq_getElem (by first | omega)⟩
    refine fD (OF.indexAddrR (row := (eInt false x2)) (i := i) (tv (rd 1 eInt b) rfl) (tv (tN i) rfl) rfl (map_at _ hx2) Try.underlying56 sz3 if3) rfl rfl ?_
    refine lD (OL.loadR1 (t := (tI x2)) (tv (T.rp [(tI x2)]) rfl) rfl st3) rfl rfl ?_
    refine fD (B.neq (c := (!(decide (x1 = x2)))) (tv (tI x1) rfl) (tv (tI x2) rfl) rfl) rfl rfl ?_
    refine VRunD.nil ?_
    refine tn ?_
    refine VRun.cond (tv (tB (!(decide (x1 = x2)))) rfl) (fun hc2 => ?_) (fun hc2 => ?_)
    · have fhc2 : ¬ (x1 = x2) := ndT hc2
      refine sr ?_
      refine fO (OF.assign (VEv.bool false)) ?_
      refine nt ?_
      refine rt ?_
      refine vinB.r ?_
      refine tr ?_
      refine tr ?_
      refine vinB.r ?_
      refine tr ?_
      refine vb (b' := false) rfl ?_
      symm; rw [decide_eq_false_iff_not]; exact agree_not hx1 hx2 fhc2
    have fhc2 : x1 = x2 := ndF hc2
    refine sk ?_
    refine vinB.n ?_
    refine tn ?_
    refine VRun.region ?_
    refine mO (tN i) rfl ?_
    refine fO (B.add (n := (((i + 1) : Nat) : Int)) (tv (tN i) rfl) (VEv.int .i64 1) (by first | rfl | (rw [wrap64 (by omega)]; omega) | (rw [wrap64 (by omega)]; done))) ?_
    refine aO (tN (i + 1)) rfl ?_
    refine VRunO.nil ?_
    refine tn ?_
    refine ⟨(i + 1 : Nat), ?_, ?_, Wk.mk (fun k => k) ?_ ?_ ?_⟩
    · exact agree_next hI' hx1 hx2 fhc2
    · first | omega | (simp only []; omega) | (show _ < _; omega) | (simp; omega)
    · exact (ball_cons ⟨rfl, rfl⟩ (ball_cons ⟨rfl, rfl⟩ (ball_cons ⟨rfl, rfl⟩ (ball_nil))))
    · exact (ball_nil)
    · show List.Nodup ([] : List Nat)
      decide
  have fhc1 : ¬ (i < a.length) := of_decide_eq_false hc1
  refine VRun.exit ?_
  refine vthn.e ?_
  refine vthn.e ?_
  refine vinB.e ?_
  refine tn ?_
  refine sr ?_
  refine fO (OF.assign (VEv.bool true)) ?_
  refine nt ?_
  refine rt ?_
  refine vb (b' := true) rfl ?_
  symm; rw [decide_eq_true_eq]; exact agree_all hI' fhc0 fhc1
theorem W_slices_Equal_impl_Step_impl_Step_ (n : Nat) (a : List D.Step) (b : List D.Step) (hla : a.length ≤ mx) (hlb : b.length ≤ mx) : Pure (acall Try.prog (n + 1)) 118 [(rd 4 eStep a), (rd 4 eStep b)] (tB (decide (a = b))) := by
  refine Pure.intro (rs := [ResultVar.tmp 4]) Try.func118 rfl rfl rfl (E0 := [(0, (rd 4 eStep a)), (1, (rd 4 eStep b))]) rfl ?_
  have hlim : lim = 1099511627776 := rfl
  have hmx : mx = 1048576 := rfl
  have hmax : maxLen = 9223372036854775807 := rfl
  refine sr ?_
  refine fO (OF.assign (VEv.bool false)) ?_
  refine nt ?_
  refine sq ?_
  refine sr ?_
  refine mO (rd 4 eStep a) rfl ?_
  refine lO (B.lenR (m := a.length) (tv (rd 4 eStep a) rfl) Try.underlying68 (List.length_map ..)) ?_
  refine mO (rd 4 eStep b) rfl ?_
  refine lO (B.lenR (m := b.length) (tv (rd 4 eStep b) rfl) Try.underlying68 (List.length_map ..)) ?_
  refine fO (B.neq (c := (!(decide (a.length = b.length)))) (tv (tN a.length) rfl) (tv (tN b.length) rfl) (by first | (exact decNn (by omega)))) ?_
  refine nt ?_
  refine VRun.cond (tv (tB (!(decide (a.length = b.length)))) rfl) (fun hc0 => ?_) (fun hc0 => ?_)
  · have fhc0 : ¬ (a.length = b.length) := ndT hc0
    refine sr ?_
    refine fO (OF.assign (VEv.bool false)) ?_
    refine nt ?_
    refine rt ?_
    refine tr ?_
    refine vb (b' := false) rfl ?_
    symm; rw [decide_eq_false_iff_not]; rintro rfl; exact fhc0 rfl
  have fhc0 : a.length = b.length := ndF hc0
  refine sk ?_
  refine tn ?_
  refine sq ?_
  refine sr ?_
  refine mO (rd 4 eStep a) rfl ?_
  refine lO (B.lenR (m := a.length) (tv (rd 4 eStep a) rfl) Try.underlying68 (List.length_map ..)) ?_
  refine fO (OF.move (VEv.int .i64 0)) ?_
  refine nt ?_
  refine VRun.block ?_
  refine VRun.loop (A := Nat) (fun s_ => [(0, (rd 4 eStep a)), (1, (rd 4 eStep b)), (12, (tN a.length)), (13, (tN s_))]) (fun s_ => mkO []) 0 (fun s_ => s_ ≤ a.length ∧ ∀ j, j < s_ → a[j]? = b[j]?) (fun s_ => a.length - s_) (0 : Nat) ?_ (Wk.mk (fun k => k) ?_ ?_ ?_) ?_
  · first | trivial | (simp; done) | omega | (constructor <;> simp)
  · exact (ball_cons ⟨rfl, rfl⟩ (ball_cons ⟨rfl, rfl⟩ (ball_cons ⟨rfl, rfl⟩ (ball_cons ⟨rfl, rfl⟩ (ball_nil)))))
  · exact (ball_nil)
  · show List.Nodup ([] : List Nat)
    decide
  rintro i hI
  have hI' : i ≤ a.length ∧ ∀ j, j < i → a[j]? = b[j]? := hI
  clear hI
  show VRun _ _ _ [(0, (rd 4 eStep a)), (1, (rd 4 eStep b)), (12, (tN a.length)), (13, (tN i))] (mkO []) 0 _
  refine sr ?_
  refine fO (B.lss (c := (decide (i < a.length))) (tv (tN i) rfl) (tv (tN a.length) rfl) (by first | (exact decN (by omega)))) ?_
  refine nt ?_
  refine sq ?_
  refine VRun.cond (tv (tB (decide (i < a.length))) rfl) (fun hc1 => ?_) (fun hc1 => ?_)
  · have fhc1 : i < a.length := of_decide_eq_true hc1
    refine sk ?_
    refine tn ?_
    refine sq ?_
    refine VRun.block ?_
    refine sr ?_
    refine mO (tN i) rfl ?_
    refine aO (tN i) rfl ?_
    refine nt ?_
    refine sq ?_
    refine VRun.draw (B := [[], [], [1, 0], [0, 1, 2], [], [], [5, 4], [4, 5, 6], [6, 5, 4, 7, 2, 1, 0, 3]]) (by kernel_rfl) (by kernel_rfl) ?_
    refine mD (rd 4 eStep a) rfl rfl ?_
    refine mD (tN i) rfl rfl ?_
    obtain ⟨x1, hx1⟩ : ∃ x, a[i]? = some x := ⟨_, List.getElem?_eq_getElem (by first | omega)⟩
    refine fD (OF.indexAddrR (row := (eStep false x1)) (i := i) (tv (rd 4 eStep a) rfl) (tv (tN i) rfl) rfl (map_at _ hx1) Try.underlying68 sz151 if151) rfl rfl ?_
    refine lD (OL.loadRn (us := (eStep false x1)) (tv (T.rp (eStep false x1)) rfl) st151 sz151 (Nat.le_of_ble_eq_true rfl) rfl) rfl rfl ?_
    refine mD (rd 4 eStep b) rfl rfl ?_
    refine mD (tN i) rfl rfl ?_
    obtain ⟨x2, hx2⟩ : ∃ x, b[i]? = some x := ⟨_, List.getElem?_eq_getElem (by first | omega)⟩
    refine fD (OF.indexAddrR (row := (eStep false x2)) (i := i) (tv (rd 4 eStep b) rfl) (tv (tN i) rfl) rfl (map_at _ hx2) Try.underlying68 sz151 if151) rfl rfl ?_
    refine lD (OL.loadRn (us := (eStep false x2)) (tv (T.rp (eStep false x2)) rfl) st151 sz151 (Nat.le_of_ble_eq_true rfl) rfl) rfl rfl ?_
    refine fD (B.neq151 (a := x1) (b := x2) (m := false) (m' := false) (tv (T.agg (eStep false x1)) rfl) (tv (T.agg (eStep false x2)) rfl)) rfl rfl ?_
    refine VRunD.nil ?_
    refine tn ?_
    refine VRun.cond (tv (tB (!(decide (x1 = x2)))) rfl) (fun hc2 => ?_) (fun hc2 => ?_)
    · have fhc2 : ¬ (x1 = x2) := ndT hc2
      refine sr ?_
      refine fO (OF.assign (VEv.bool false)) ?_
      refine nt ?_
      refine rt ?_
      refine vinB.r ?_
      refine tr ?_
      refine tr ?_
      refine vinB.r ?_
      refine tr ?_
      refine vb (b' := false) rfl ?_
      symm; rw [decide_eq_false_iff_not]; exact agree_not hx1 hx2 fhc2
    have fhc2 : x1 = x2 := ndF hc2
    refine sk ?_
    refine vinB.n ?_
    refine tn ?_
    refine VRun.region ?_
    refine fO (B.add (n := (((i + 1) : Nat) : Int)) (tv (tN i) rfl) (VEv.int .i64 1) (by first | rfl | (rw [wrap64 (by omega)]; omega) | (rw [wrap64 (by omega)]; done))) ?_
    refine mO (tN (i + 1)) rfl ?_
    refine VRunO.nil ?_
    refine tn ?_
    refine ⟨(i + 1 : Nat), ?_, ?_, Wk.mk (fun k => k) ?_ ?_ ?_⟩
    · exact agree_next hI' hx1 hx2 fhc2
    · first | omega | (simp only []; omega) | (show _ < _; omega) | (simp; omega)
    · exact (ball_cons ⟨rfl, rfl⟩ (ball_cons ⟨rfl, rfl⟩ (ball_cons ⟨rfl, rfl⟩ (ball_cons ⟨rfl, rfl⟩ (ball_nil)))))
    · exact (ball_nil)
    · show List.Nodup ([] : List Nat)
      decide
  have fhc1 : ¬ (i < a.length) := of_decide_eq_false hc1
  refine VRun.exit ?_
  refine vthn.e ?_
  refine vthn.e ?_
  refine vinB.e ?_
  refine tn ?_
  refine sr ?_
  refine fO (OF.assign (VEv.bool true)) ?_
  refine nt ?_
  refine rt ?_
  refine vb (b' := true) rfl ?_
  symm; rw [decide_eq_true_eq]; exact agree_all hI' fhc0 fhc1
theorem W_impl_sameClue (n : Nat) (a : D.Clue) (b : D.Clue) (hza : zClue a ≤ mx) (hzb : zClue b ≤ mx) : Pure (acall Try.prog (n + 2)) 50 [(T.agg (eClue false a)), (T.agg (eClue false b))] (tB (decide (a = b))) := by
  refine Pure.intro (rs := [ResultVar.tmp 4]) Try.func50 rfl rfl rfl (E0 := [(0, (T.agg (eClue false a))), (1, (T.agg (eClue false b)))]) rfl ?_
  have hlim : lim = 1099511627776 := rfl
  have hmx : mx = 1048576 := rfl
  have hmax : maxLen = 9223372036854775807 := rfl
  simp only [zClue] at hza hzb
  have hla := zL_len (z := zStep) a.Play
  have hlb := zL_len (z := zStep) b.Play
  refine sr ?_
  refine kO (B.box (ts := (eClue false a)) (tv (T.agg (eClue false a)) rfl) nofun rfl) ?_
  refine kO (B.box (ts := (eClue false b)) (tv (T.agg (eClue false b)) rfl) nofun rfl) ?_
  refine fO (OF.assign (VEv.bool false)) ?_
  refine nt ?_
  refine sr ?_
  refine fO (OF.fieldAddrO (tv (T.op 0 0) rfl) fa70_0) ?_
  refine lO (OL.loadO1 (t := (tI a.Sense)) (tv (T.op 0 0) rfl) rfl rfl st3) ?_
  refine fO (OF.fieldAddrO (tv (T.op 1 0) rfl) fa70_0) ?_
  refine lO (OL.loadO1 (t := (tI b.Sense)) (tv (T.op 1 0) rfl) rfl rfl st3) ?_
  refine fO (B.eql (c := (decide (a.Sense = b.Sense))) (tv (tI a.Sense) rfl) (tv (tI b.Sense) rfl) rfl) ?_
  refine mO (tB (decide (a.Sense = b.Sense))) rfl ?_
  refine bool_way (decide (a.Sense = b.Sense)) (fun hg10_1 => ?_) (fun hg10_1 => ?_)
  · have fhg10_1 : a.Sense = b.Sense := of_decide_eq_true hg10_1
    refine gF hg10_1 rfl rfl (OF.fieldAddrO (tv (T.op 0 0) rfl) fa70_1) ?_
    refine gL hg10_1 rfl rfl (OL.loadO1 (t := (rd 4 eStep a.Play)) (tv (T.op 0 1) rfl) rfl rfl st68) ?_
    refine gF hg10_1 rfl rfl (OF.fieldAddrO (tv (T.op 1 0) rfl) fa70_1) ?_
    refine gL hg10_1 rfl rfl (OL.loadO1 (t := (rd 4 eStep b.Play)) (tv (T.op 1 1) rfl) rfl rfl st68) ?_
    refine VRunO.chain (VWant.on (b := (decide (a.Sense = b.Sense))) rfl rfl hg10_1) (cS (vc (tv (rd 4 eStep a.Play) rfl) (vc (tv (rd 4 eStep b.Play) rfl) VEvs.nil)) (lp rfl (lp rfl (LendL.nil))) (W_slices_Equal_impl_Step_impl_Step_ (n + 0) a.Play b.Play (by first | assumption | omega) (by first | assumption | omega)) rfl rfl) ?_
    refine fO (OF.pickT (VEv.tmpB (b := (decide (a.Sense = b.Sense))) rfl hg10_1) (tv (tB (decide (a.Play = b.Play))) rfl)) ?_
    refine aO (tB (decide (a.Play = b.Play))) rfl ?_
    refine nt ?_
    refine rt ?_
    refine vb (b' := (decide (a.Play = b.Play))) rfl ?_
    obtain ⟨a1, a2⟩ := a
    obtain ⟨b1, b2⟩ := b
    simp_all
  have fhg10_1 : ¬ (a.Sense = b.Sense) := of_decide_eq_false hg10_1
  refine oO rfl rfl hg10_1 ?_
  refine oO rfl rfl hg10_1 ?_
  refine oO rfl rfl hg10_1 ?_
  refine oO rfl rfl hg10_1 ?_
  refine oO rfl rfl hg10_1 ?_
  refine fO (OF.pickF (VEv.tmpB (b := (decide (a.Sense = b.Sense))) rfl hg10_1) (VEv.bool false)) ?_
  refine aO (tB false) rfl ?_
  refine nt ?_
  refine rt ?_
  refine vb (b' := false) rfl ?_
  obtain ⟨a1, a2⟩ := a
  obtain ⟨b1, b2⟩ := b
  simp_all
theorem W_spec_l21SameClue (n : Nat) (a : D.Clue) (b : D.Clue) (hza : zClue a ≤ mx) (hzb : zClue b ≤ mx) : Pure (acall Try.prog (n + 1)) 61 [(T.agg (eClue false a)), (T.agg (eClue false b))] (tB (decide (a = b))) := by
  refine Pure.intro (rs := [ResultVar.tmp 4]) Try.func61 rfl rfl rfl (E0 := [(0, (T.agg (eClue false a))), (1, (T.agg (eClue false b)))]) rfl ?_
  have hlim : lim = 1099511627776 := rfl
  have hmx : mx = 1048576 := rfl
  have hmax : maxLen = 9223372036854775807 := rfl
  simp only [zClue] at hza hzb
  have hla := zL_len (z := zStep) a.Play
  have hlb := zL_len (z := zStep) b.Play
  refine sr ?_
  refine kO (B.box (ts := (eClue false a)) (tv (T.agg (eClue false a)) rfl) nofun rfl) ?_
  refine kO (B.box (ts := (eClue false b)) (tv (T.agg (eClue false b)) rfl) nofun rfl) ?_
  refine fO (OF.assign (VEv.bool false)) ?_
  refine nt ?_
  refine sq ?_
  refine sr ?_
  refine fO (OF.fieldAddrO (tv (T.op 0 0) rfl) fa70_0) ?_
  refine lO (OL.loadO1 (t := (tI a.Sense)) (tv (T.op 0 0) rfl) rfl rfl st3) ?_
  refine fO (OF.fieldAddrO (tv (T.op 1 0) rfl) fa70_0) ?_
  refine lO (OL.loadO1 (t := (tI b.Sense)) (tv (T.op 1 0) rfl) rfl rfl st3) ?_
  refine fO (B.neq (c := (!(decide (a.Sense = b.Sense)))) (tv (tI a.Sense) rfl) (tv (tI b.Sense) rfl) rfl) ?_
  refine mO (tB (!(decide (a.Sense = b.Sense)))) rfl ?_
  refine bool_way (!(decide (a.Sense = b.Sense))) (fun hg11_1 => ?_) (fun hg11_1 => ?_)
  · have fhg11_1 : ¬ (a.Sense = b.Sense) := ndT hg11_1
    refine oO rfl rfl hg11_1 ?_
    refine oO rfl rfl hg11_1 ?_
    refine oO rfl rfl hg11_1 ?_
    refine oO rfl rfl hg11_1 ?_
    refine oO rfl rfl hg11_1 ?_
    refine oO rfl rfl hg11_1 ?_
    refine oO rfl rfl hg11_1 ?_
    refine fO (OF.pickT (VEv.tmpB (b := (!(decide (a.Sense = b.Sense)))) rfl hg11_1) (VEv.bool true)) ?_
    refine nt ?_
    refine VRun.cond (tv (tB true) rfl) (fun hk2 => ?_) (fun hk2 => ?_)
    · skip
      refine sr ?_
      refine fO (OF.assign (VEv.bool false)) ?_
      refine nt ?_
      refine rt ?_
      refine tr ?_
      refine vb (b' := false) rfl ?_
      first | (symm; rw [decide_eq_true_eq]; have h := agree_all hI' (by omega) fhc1; obtain ⟨a1, a2⟩ := a; obtain ⟨b1, b2⟩ := b; simp_all; done) | (symm; rw [decide_eq_false_iff_not]; rintro rfl; first | (exact fhc0 rfl) | (exact agree_not hx1 hx2 fhc2 rfl) | (simp_all; done))
    · exact absurd (rfl.symm.trans hk2) (by decide)
  have fhg11_1 : a.Sense = b.Sense := ndF hg11_1
  refine gF hg11_1 rfl rfl (OF.fieldAddrO (tv (T.op 0 0) rfl) fa70_1) ?_
  refine gL hg11_1 rfl rfl (OL.loadO1 (t := (rd 4 eStep a.Play)) (tv (T.op 0 1) rfl) rfl rfl st68) ?_
  refine gL hg11_1 rfl rfl (B.lenR (m := a.Play.length) (tv (rd 4 eStep a.Play) rfl) Try.underlying68 (List.length_map ..)) ?_
  refine gF hg11_1 rfl rfl (OF.fieldAddrO (tv (T.op 1 0) rfl) fa70_1) ?_
  refine gL hg11_1 rfl rfl (OL.loadO1 (t := (rd 4 eStep b.Play)) (tv (T.op 1 1) rfl) rfl rfl st68) ?_
  refine gL hg11_1 rfl rfl (B.lenR (m := b.Play.length) (tv (rd 4 eStep b.Play) rfl) Try.underlying68 (List.length_map ..)) ?_
  refine gF hg11_1 rfl rfl (B.neq (c := (!(decide (a.Play.length = b.Play.length)))) (tv (tN a.Play.length) rfl) (tv (tN b.Play.length) rfl) (by first | (exact decNn (by omega)))) ?_
  refine fO (OF.pickF (VEv.tmpB (b := (!(decide (a.Sense = b.Sense)))) rfl hg11_1) (tv (tB (!(decide (a.Play.length = b.Play.length)))) rfl)) ?_
  refine nt ?_
  refine VRun.cond (tv (tB (!(decide (a.Play.length = b.Play.length)))) rfl) (fun hc0 => ?_) (fun hc0 => ?_)
  · have fhc0 : ¬ (a.Play.length = b.Play.length) := ndT hc0
    refine sr ?_
    refine fO (OF.assign (VEv.bool false)) ?_
    refine nt ?_
    refine rt ?_
    refine tr ?_
    refine vb (b' := false) rfl ?_
    first | (symm; rw [decide_eq_true_eq]; have h := agree_all hI' (by omega) fhc1; obtain ⟨a1, a2⟩ := a; obtain ⟨b1, b2⟩ := b; simp_all; done) | (symm; rw [decide_eq_false_iff_not]; rintro rfl; first | (exact fhc0 rfl) | (exact agree_not hx1 hx2 fhc2 rfl) | (simp_all; done))
  have fhc0 : a.Play.length = b.Play.length := ndF hc0
  refine sk ?_
  refine tn ?_
  refine sq ?_
  refine sr ?_
  refine fO (OF.assign (VEv.int .i64 0)) ?_
  refine nt ?_
  refine VRun.block ?_
  refine VRun.loop (A := Nat) (fun s_ => [(2, (T.op 0 0)), (3, (T.op 1 0)), (5, (tN s_))]) (fun s_ => mkO [(0, (Obj.cells (eClue false a))), (1, (Obj.cells (eClue false b)))]) 2 (fun s_ => s_ ≤ a.Play.length ∧ ∀ j, j < s_ → a.Play[j]? = b.Play[j]?) (fun s_ => a.Play.length - s_) (0 : Nat) ?_ (Wk.mk (fun k => k) ?_ ?_ ?_) ?_
  · first | trivial | (simp; done) | omega | (constructor <;> simp)
  · exact (ball_cons ⟨rfl, rfl⟩ (ball_cons ⟨rfl, rfl⟩ (ball_cons ⟨rfl, rfl⟩ (ball_nil))))
  · exact (ball_cons ⟨rfl, (Nat.le_of_ble_eq_true rfl), rfl⟩ (ball_cons ⟨rfl, (Nat.le_of_ble_eq_true rfl), rfl⟩ (ball_nil)))
  · show List.Nodup ([0, 1] : List Nat)
    decide
  rintro i hI
  have hI' : i ≤ a.Play.length ∧ ∀ j, j < i → a.Play[j]? = b.Play[j]? := hI
  clear hI
  show VRun _ _ _ [(2, (T.op 0 0)), (3, (T.op 1 0)), (5, (tN i))] (mkO [(0, (Obj.cells (eClue false a))), (1, (Obj.cells (eClue false b)))]) 2 _
  refine sq ?_
  refine sr ?_
  refine mO (tN i) rfl ?_
  refine fO (OF.fieldAddrO (tv (T.op 0 0) rfl) fa70_1) ?_
  refine lO (OL.loadO1 (t := (rd 4 eStep a.Play)) (tv (T.op 0 1) rfl) rfl rfl st68) ?_
  refine lO (B.lenR (m := a.Play.length) (tv (rd 4 eStep a.Play) rfl) Try.underlying68 (List.length_map ..)) ?_
  refine fO (B.lss (c := (decide (i < a.Play.length))) (tv (tN i) rfl) (tv (tN a.Play.length) rfl) (by first | (exact decN (by omega)))) ?_
  refine nt ?_
  refine VRun.cond (tv (tB (decide (i < a.Play.length))) rfl) (fun hc1 => ?_) (fun hc1 => ?_)
  · have fhc1 : i < a.Play.length := of_decide_eq_true hc1
    refine sk ?_
    refine tn ?_
    refine sq ?_
    refine VRun.block ?_
    refine sq ?_
    refine VRun.draw (B := [[], [0], [], [2, 0, 1], [1, 0, 2, 3], [], [5], [], [7, 5, 6], [6, 5, 7, 8], [8, 7, 5, 6, 9, 3, 2, 0, 1, 4]]) (by kernel_rfl) (by kernel_rfl) ?_
    refine fD (OF.fieldAddrO (tv (T.op 0 0) rfl) fa70_1) rfl rfl ?_
    refine lD (OL.loadO1 (t := (rd 4 eStep a.Play)) (tv (T.op 0 1) rfl) rfl rfl st68) rfl rfl ?_
    refine mD (tN i) rfl rfl ?_
    obtain ⟨x1, hx1⟩ : ∃ x, a.Play[i]? = some x := ⟨_, List.getElem?_eq_getElem (by first | omega)⟩
    refine fD (OF.indexAddrR (row := (eStep false x1)) (i := i) (tv (rd 4 eStep a.Play) rfl) (tv (tN i) rfl) rfl (map_at _ hx1) Try.underlying68 sz151 if151) rfl rfl ?_
    refine lD (OL.loadRn (us := (eStep false x1)) (tv (T.rp (eStep false x1)) rfl) st151 sz151 (Nat.le_of_ble_eq_true rfl) rfl) rfl rfl ?_
    refine fD (OF.fieldAddrO (tv (T.op 1 0) rfl) fa70_1) rfl rfl ?_
    refine lD (OL.loadO1 (t := (rd 4 eStep b.Play)) (tv (T.op 1 1) rfl) rfl rfl st68) rfl rfl ?_
    refine mD (tN i) rfl rfl ?_
    obtain ⟨x2, hx2⟩ : ∃ x, b.Play[i]? = some x := ⟨_, List.getElem?_eq_getElem (by first | omega)⟩
    refine fD (OF.indexAddrR (row := (eStep false x2)) (i := i) (tv (rd 4 eStep b.Play) rfl) (tv (tN i) rfl) rfl (map_at _ hx2) Try.underlying68 sz151 if151) rfl rfl ?_
    refine lD (OL.loadRn (us := (eStep false x2)) (tv (T.rp (eStep false x2)) rfl) st151 sz151 (Nat.le_of_ble_eq_true rfl) rfl) rfl rfl ?_
    refine fD (B.neq151 (a := x1) (b := x2) (m := false) (m' := false) (tv (T.agg (eStep false x1)) rfl) (tv (T.agg (eStep false x2)) rfl)) rfl rfl ?_
    refine VRunD.nil ?_
    refine tn ?_
    refine VRun.cond (tv (tB (!(decide (x1 = x2)))) rfl) (fun hc2 => ?_) (fun hc2 => ?_)
    · have fhc2 : ¬ (x1 = x2) := ndT hc2
      refine sr ?_
      refine fO (OF.assign (VEv.bool false)) ?_
      refine nt ?_
      refine rt ?_
      refine vinB.r ?_
      refine tr ?_
      refine tr ?_
      refine vinB.r ?_
      refine tr ?_
      refine vb (b' := false) rfl ?_
      first | (symm; rw [decide_eq_true_eq]; have h := agree_all hI' (by omega) fhc1; obtain ⟨a1, a2⟩ := a; obtain ⟨b1, b2⟩ := b; simp_all; done) | (symm; rw [decide_eq_false_iff_not]; rintro rfl; first | (exact fhc0 rfl) | (exact agree_not hx1 hx2 fhc2 rfl) | (simp_all; done))
    have fhc2 : x1 = x2 := ndF hc2
    refine sk ?_
    refine vinB.n ?_
    refine tn ?_
    refine VRun.region ?_
    refine mO (tN i) rfl ?_
    refine fO (B.add (n := (((i + 1) : Nat) : Int)) (tv (tN i) rfl) (VEv.int .i64 1) (by first | rfl | (rw [wrap64 (by omega)]; omega) | (rw [wrap64 (by omega)]; done))) ?_
    refine aO (tN (i + 1)) rfl ?_
    refine VRunO.nil ?_
    refine tn ?_
    refine ⟨(i + 1 : Nat), ?_, ?_, Wk.mk (fun k => k) ?_ ?_ ?_⟩
    · exact agree_next hI' hx1 hx2 fhc2
    · first | omega | (simp only []; omega) | (show _ < _; omega) | (simp; omega)
    · exact (ball_cons ⟨rfl, rfl⟩ (ball_cons ⟨rfl, rfl⟩ (ball_cons ⟨rfl, rfl⟩ (ball_nil))))
    · exact (ball_cons ⟨rfl, (Nat.le_of_ble_eq_true rfl), rfl⟩ (ball_cons ⟨rfl, (Nat.le_of_ble_eq_true rfl), rfl⟩ (ball_nil)))
    · show List.Nodup ([0, 1] : List Nat)
      decide
  have fhc1 : ¬ (i < a.Play.length) := of_decide_eq_false hc1
  refine VRun.exit ?_
  refine vthn.e ?_
  refine vthn.e ?_
  refine vinB.e ?_
  refine tn ?_
  refine sr ?_
  refine fO (OF.assign (VEv.bool true)) ?_
  refine nt ?_
  refine rt ?_
  refine vb (b' := true) rfl ?_
  first | (symm; rw [decide_eq_true_eq]; have h := agree_all hI' (by omega) fhc1; obtain ⟨a1, a2⟩ := a; obtain ⟨b1, b2⟩ := b; simp_all; done) | (symm; rw [decide_eq_false_iff_not]; rintro rfl; first | (exact fhc0 rfl) | (exact agree_not hx1 hx2 fhc2 rfl) | (simp_all; done))
theorem W_slices_EqualFunc_impl_Clue_impl_Clue_impl_Clue_impl_Clue_impl_sameClue (n : Nat) (a : List D.Clue) (b : List D.Clue) (hza : zL zClue a ≤ mx) (hzb : zL zClue b ≤ mx) : Pure (acall Try.prog (n + 3)) 132 [(rd 2 eClue a), (rd 2 eClue b), (T.fn 50 [])] (tB (decide (a = b))) := by
  refine Pure.intro (rs := [ResultVar.tmp 6]) Try.func132 rfl rfl rfl (E0 := [(0, (rd 2 eClue a)), (1, (rd 2 eClue b)), (2, (T.fn 50 []))]) rfl ?_
  have hlim : lim = 1099511627776 := rfl
  have hmx : mx = 1048576 := rfl
  have hmax : maxLen = 9223372036854775807 := rfl
  have hla := zL_len (z := zClue) a
  have hlb := zL_len (z := zClue) b
  refine sr ?_
  refine fO (OF.assign (VEv.bool false)) ?_
  refine nt ?_
  refine sq ?_
  refine sr ?_
  refine mO (rd 2 eClue a) rfl ?_
  refine lO (B.lenR (m := a.length) (tv (rd 2 eClue a) rfl) Try.underlying30 (List.length_map ..)) ?_
  refine mO (rd 2 eClue b) rfl ?_
  refine lO (B.lenR (m := b.length) (tv (rd 2 eClue b) rfl) Try.underlying30 (List.length_map ..)) ?_
  refine fO (B.neq (c := (!(decide (a.length = b.length)))) (tv (tN a.length) rfl) (tv (tN b.length) rfl) (by first | exact Nat.le_trans (zL_at hx1) hza | exact Nat.le_trans (zL_at hx2) hzb | (exact decNn (by omega)))) ?_
  refine nt ?_
  refine VRun.cond (tv (tB (!(decide (a.length = b.length)))) rfl) (fun hc0 => ?_) (fun hc0 => ?_)
  · have fhc0 : ¬ (a.length = b.length) := ndT hc0
    refine sr ?_
    refine fO (OF.assign (VEv.bool false)) ?_
    refine nt ?_
    refine rt ?_
    refine tr ?_
    refine vb (b' := false) rfl ?_
    symm; rw [decide_eq_false_iff_not]; rintro rfl; exact fhc0 rfl
  have fhc0 : a.length = b.length := ndF hc0
  refine sk ?_
  refine tn ?_
  refine sq ?_
  refine sr ?_
  refine mO (rd 2 eClue a) rfl ?_
  refine lO (B.lenR (m := a.length) (tv (rd 2 eClue a) rfl) Try.underlying30 (List.length_map ..)) ?_
  refine fO (OF.move (VEv.int .i64 0)) ?_
  refine nt ?_
  refine VRun.block ?_
  refine VRun.loop (A := Nat) (fun s_ => [(1, (rd 2 eClue b)), (2, (T.fn 50 [])), (15, (rd 2 eClue a)), (16, (tN a.length)), (17, (tN s_))]) (fun s_ => mkO []) 0 (fun s_ => s_ ≤ a.length ∧ ∀ j, j < s_ → a[j]? = b[j]?) (fun s_ => a.length - s_) (0 : Nat) ?_ (Wk.mk (fun k => k) ?_ ?_ ?_) ?_
  · first | trivial | (simp; done) | omega | (constructor <;> simp)
  · exact (ball_cons ⟨rfl, rfl⟩ (ball_cons ⟨rfl, rfl⟩ (ball_cons ⟨rfl, rfl⟩ (ball_cons ⟨rfl, rfl⟩ (ball_cons ⟨rfl, rfl⟩ (ball_nil))))))
  · exact (ball_nil)
  · show List.Nodup ([] : List Nat)
    decide
  rintro i hI
  have hI' : i ≤ a.length ∧ ∀ j, j < i → a[j]? = b[j]? := hI
  clear hI
  show VRun _ _ _ [(1, (rd 2 eClue b)), (2, (T.fn 50 [])), (15, (rd 2 eClue a)), (16, (tN a.length)), (17, (tN i))] (mkO []) 0 _
  refine sr ?_
  refine fO (B.lss (c := (decide (i < a.length))) (tv (tN i) rfl) (tv (tN a.length) rfl) (by first | exact Nat.le_trans (zL_at hx1) hza | exact Nat.le_trans (zL_at hx2) hzb | (exact decN (by omega)))) ?_
  refine nt ?_
  refine sq ?_
  refine VRun.cond (tv (tB (decide (i < a.length))) rfl) (fun hc1 => ?_) (fun hc1 => ?_)
  · have fhc1 : i < a.length := of_decide_eq_true hc1
    refine sk ?_
    refine tn ?_
    refine sq ?_
    refine VRun.block ?_
    refine sr ?_
    refine mO (tN i) rfl ?_
    obtain ⟨x1, hx1⟩ : ∃ x, a[i]? = some x := ⟨_, List.getElem?_eq_getElem (by first | exact Nat.le_trans (zL_at hx1) hza | exact Nat.le_trans (zL_at hx2) hzb | omega)⟩
    refine fO (OF.indexAddrR (row := (eClue false x1)) (i := i) (tv (rd 2 eClue a) rfl) (tv (tN i) rfl) rfl (map_at _ hx1) Try.underlying30 sz70 if70) ?_
    refine lO (OL.loadRn (us := (eClue false x1)) (tv (T.rp (eClue false x1)) rfl) st70 sz70 (Nat.le_of_ble_eq_true rfl) rfl) ?_
    refine kO (B.alloc (t := (T.agg [(tN 0), T.nils])) (ts := [(tN 0), T.nils]) zo70 zc70 nofun (fun _ => .agg _ _ rfl (RLof (RL.cons (.int _ _) (RL.cons (.nils) (RL.nil _))))) rfl) ?_
    refine aO (tN i) rfl ?_
    refine cO (B.storeO (us := (eClue false x1)) (ws := (eClue false x1)) (tv (T.op 0 0) rfl) (tv (T.agg (eClue false x1)) rfl) nofun rfl rfl (Nat.le_of_ble_eq_true rfl) if70 sz70 (ball_cons rfl (ball_cons rfl (ball_nil))) rfl) ?_
    refine nt ?_
    refine sr ?_
    refine mO (rd 2 eClue b) rfl ?_
    refine mO (tN i) rfl ?_
    obtain ⟨x2, hx2⟩ : ∃ x, b[i]? = some x := ⟨_, List.getElem?_eq_getElem (by first | exact Nat.le_trans (zL_at hx1) hza | exact Nat.le_trans (zL_at hx2) hzb | omega)⟩
    refine fO (OF.indexAddrR (row := (eClue false x2)) (i := i) (tv (rd 2 eClue b) rfl) (tv (tN i) rfl) rfl (map_at _ hx2) Try.underlying30 sz70 if70) ?_
    refine lO (OL.loadRn (us := (eClue false x2)) (tv (T.rp (eClue false x2)) rfl) st70 sz70 (Nat.le_of_ble_eq_true rfl) rfl) ?_
    refine kO (B.alloc (t := (T.agg [(tN 0), T.nils])) (ts := [(tN 0), T.nils]) zo70 zc70 nofun (fun _ => .agg _ _ rfl (RLof (RL.cons (.int _ _) (RL.cons (.nils) (RL.nil _))))) rfl) ?_
    refine cO (B.storeO (us := (eClue false x2)) (ws := (eClue false x2)) (tv (T.op 1 0) rfl) (tv (T.agg (eClue false x2)) rfl) nofun rfl rfl (Nat.le_of_ble_eq_true rfl) if70 sz70 (ball_cons rfl (ball_cons rfl (ball_nil))) rfl) ?_
    refine nt ?_
    refine sr ?_
    refine mO (T.fn 50 []) rfl ?_
    refine lO (OL.loadOn (us := (eClue false x1)) (tv (T.op 0 0) rfl) rfl st70 sz70 (Nat.le_of_ble_eq_true rfl) rfl) ?_
    refine lO (OL.loadOn (us := (eClue false x2)) (tv (T.op 1 0) rfl) rfl st70 sz70 (Nat.le_of_ble_eq_true rfl) rfl) ?_
    refine cO (OC.callv (us := [(T.agg (eClue false x1)), (T.agg (eClue false x2))]) (ucaps := []) (r := (tB (decide (x1 = x2)))) (r' := (tB (decide (x1 = x2)))) (objs := []) rfl rfl (vc (tv (T.agg (eClue false x1)) rfl) (vc (tv (T.agg (eClue false x2)) rfl) VEvs.nil)) (LendL.cons (lg okeClue) (LendL.cons (lg okeClue) (LendL.nil))) (LendL.nil) (W_impl_sameClue (n + 0) x1 x2 (by first | exact Nat.le_trans (zL_at hx1) hza | exact Nat.le_trans (zL_at hx2) hzb | assumption | omega) (by first | exact Nat.le_trans (zL_at hx1) hza | exact Nat.le_trans (zL_at hx2) hzb | assumption | omega)) rfl) ?_
    refine fO (B.not (c := (!(decide (x1 = x2)))) (tv (tB (decide (x1 = x2))) rfl) rfl) ?_
    refine nt ?_
    refine VRun.cond (tv (tB (!(decide (x1 = x2)))) rfl) (fun hc2 => ?_) (fun hc2 => ?_)
    · have fhc2 : ¬ (x1 = x2) := ndT hc2
      refine sr ?_
      refine fO (OF.assign (VEv.bool false)) ?_
      refine nt ?_
      refine rt ?_
      refine vinB.r ?_
      refine tr ?_
      refine tr ?_
      refine vinB.r ?_
      refine tr ?_
      refine vb (b' := false) rfl ?_
      symm; rw [decide_eq_false_iff_not]; exact agree_not hx1 hx2 fhc2
    have fhc2 : x1 = x2 := ndF hc2
    refine sk ?_
    refine vinB.n ?_
    refine tn ?_
    refine VRun.region ?_
    refine fO (B.add (n := (((i + 1) : Nat) : Int)) (tv (tN i) rfl) (VEv.int .i64 1) (by first | exact Nat.le_trans (zL_at hx1) hza | exact Nat.le_trans (zL_at hx2) hzb | rfl | (rw [wrap64 (by omega)]; omega) | (rw [wrap64 (by omega)]; done))) ?_
    refine mO (tN (i + 1)) rfl ?_
    refine VRunO.nil ?_
    refine tn ?_
    refine ⟨(i + 1 : Nat), ?_, ?_, Wk.mk (fun k => k) ?_ ?_ ?_⟩
    · exact agree_next hI' hx1 hx2 fhc2
    · first | omega | (simp only []; omega) | (show _ < _; omega) | (simp; omega)
    · exact (ball_cons ⟨rfl, rfl⟩ (ball_cons ⟨rfl, rfl⟩ (ball_cons ⟨rfl, rfl⟩ (ball_cons ⟨rfl, rfl⟩ (ball_cons ⟨rfl, rfl⟩ (ball_nil))))))
    · exact (ball_nil)
    · show List.Nodup ([] : List Nat)
      decide
  have fhc1 : ¬ (i < a.length) := of_decide_eq_false hc1
  refine VRun.exit ?_
  refine vthn.e ?_
  refine vthn.e ?_
  refine vinB.e ?_
  refine tn ?_
  refine sr ?_
  refine fO (OF.assign (VEv.bool true)) ?_
  refine nt ?_
  refine rt ?_
  refine vb (b' := true) rfl ?_
  symm; rw [decide_eq_true_eq]; exact agree_all hI' fhc0 fhc1
theorem W_impl_EqualDrafts (n : Nat) (a : D.Draft) (b : D.Draft) (hza : zDraft a ≤ mx) (hzb : zDraft b ≤ mx) : Pure (acall Try.prog (n + 4)) 71 [(T.agg (eDraft false a)), (T.agg (eDraft false b))] (tB (decide (a = b))) := by
  refine Pure.intro (rs := [ResultVar.tmp 4]) Try.func71 rfl rfl rfl (E0 := [(0, (T.agg (eDraft false a))), (1, (T.agg (eDraft false b)))]) rfl ?_
  have hlim : lim = 1099511627776 := rfl
  have hmx : mx = 1048576 := rfl
  have hmax : maxLen = 9223372036854775807 := rfl
  simp only [zDraft] at hza hzb
  refine sr ?_
  refine kO (B.box (ts := (eDraft false a)) (tv (T.agg (eDraft false a)) rfl) nofun rfl) ?_
  refine kO (B.box (ts := (eDraft false b)) (tv (T.agg (eDraft false b)) rfl) nofun rfl) ?_
  refine fO (OF.assign (VEv.bool false)) ?_
  refine nt ?_
  refine sr ?_
  refine fO (OF.fieldAddrO (tv (T.op 0 0) rfl) fa32_0) ?_
  refine lO (OL.loadOn (us := (eGrid false a.Grid)) (tv (T.op 0 0) rfl) rfl st29 sz29 (Nat.le_of_ble_eq_true rfl) rfl) ?_
  refine fO (OF.fieldAddrO (tv (T.op 1 0) rfl) fa32_0) ?_
  refine lO (OL.loadOn (us := (eGrid false b.Grid)) (tv (T.op 1 0) rfl) rfl st29 sz29 (Nat.le_of_ble_eq_true rfl) rfl) ?_
  refine fO (B.eql29 (a := a.Grid) (b := b.Grid) (m := false) (m' := false) (tv (T.agg (eGrid false a.Grid)) rfl) (tv (T.agg (eGrid false b.Grid)) rfl)) ?_
  refine mO (tB (decide (a.Grid = b.Grid))) rfl ?_
  refine bool_way (decide (a.Grid = b.Grid)) (fun hg10_1 => ?_) (fun hg10_1 => ?_)
  · have fhg10_1 : a.Grid = b.Grid := of_decide_eq_true hg10_1
    refine gF hg10_1 rfl rfl (OF.fieldAddrO (tv (T.op 0 0) rfl) fa32_1) ?_
    refine gL hg10_1 rfl rfl (OL.loadO1 (t := (tS a.Fill)) (tv (T.op 0 3) rfl) rfl rfl st9) ?_
    refine gF hg10_1 rfl rfl (OF.fieldAddrO (tv (T.op 1 0) rfl) fa32_1) ?_
    refine gL hg10_1 rfl rfl (OL.loadO1 (t := (tS b.Fill)) (tv (T.op 1 3) rfl) rfl rfl st9) ?_
    refine gF hg10_1 rfl rfl (B.seql (c := (decide (a.Fill = b.Fill))) (tv (tS a.Fill) rfl) (tv (tS b.Fill) rfl) rfl) ?_
    refine fO (OF.pickT (VEv.tmpB (b := (decide (a.Grid = b.Grid))) rfl hg10_1) (tv (tB (decide (a.Fill = b.Fill))) rfl)) ?_
    refine mO (tB (decide (a.Fill = b.Fill))) rfl ?_
    refine bool_way (decide (a.Fill = b.Fill)) (fun hg17_2 => ?_) (fun hg17_2 => ?_)
    · have fhg17_2 : a.Fill = b.Fill := of_decide_eq_true hg17_2
      refine gF hg17_2 rfl rfl (OF.fieldAddrO (tv (T.op 0 0) rfl) fa32_2) ?_
      refine gL hg17_2 rfl rfl (OL.loadO1 (t := (rd 2 eClue a.Clues)) (tv (T.op 0 4) rfl) rfl rfl st30) ?_
      refine gF hg17_2 rfl rfl (OF.fieldAddrO (tv (T.op 1 0) rfl) fa32_2) ?_
      refine gL hg17_2 rfl rfl (OL.loadO1 (t := (rd 2 eClue b.Clues)) (tv (T.op 1 4) rfl) rfl rfl st30) ?_
      refine VRunO.chain (VWant.on (b := (decide (a.Fill = b.Fill))) rfl rfl hg17_2) (cS (us := [(rd 2 eClue a.Clues), (rd 2 eClue b.Clues), (T.fn 50 [])]) (vc (tv (rd 2 eClue a.Clues) rfl) (vc (tv (rd 2 eClue b.Clues) rfl) (vc (VEv.func 50) VEvs.nil))) (lp rfl (lp rfl (LendL.cons (Lend.fn (LendL.nil)) (LendL.nil)))) (W_slices_EqualFunc_impl_Clue_impl_Clue_impl_Clue_impl_Clue_impl_sameClue (n + 0) a.Clues b.Clues (by first | assumption | omega) (by first | assumption | omega)) rfl rfl) ?_
      refine fO (OF.pickT (VEv.tmpB (b := (decide (a.Fill = b.Fill))) rfl hg17_2) (tv (tB (decide (a.Clues = b.Clues))) rfl)) ?_
      refine mO (tB (decide (a.Clues = b.Clues))) rfl ?_
      refine bool_way (decide (a.Clues = b.Clues)) (fun hg24_3 => ?_) (fun hg24_3 => ?_)
      · have fhg24_3 : a.Clues = b.Clues := of_decide_eq_true hg24_3
        refine gF hg24_3 rfl rfl (OF.fieldAddrO (tv (T.op 0 0) rfl) fa32_3) ?_
        refine gL hg24_3 rfl rfl (OL.loadO1 (t := (tI a.Version)) (tv (T.op 0 5) rfl) rfl rfl st3) ?_
        refine gF hg24_3 rfl rfl (OF.fieldAddrO (tv (T.op 1 0) rfl) fa32_3) ?_
        refine gL hg24_3 rfl rfl (OL.loadO1 (t := (tI b.Version)) (tv (T.op 1 5) rfl) rfl rfl st3) ?_
        refine gF hg24_3 rfl rfl (B.eql (c := (decide (a.Version = b.Version))) (tv (tI a.Version) rfl) (tv (tI b.Version) rfl) rfl) ?_
        refine fO (OF.pickT (VEv.tmpB (b := (decide (a.Clues = b.Clues))) rfl hg24_3) (tv (tB (decide (a.Version = b.Version))) rfl)) ?_
        refine aO (tB (decide (a.Version = b.Version))) rfl ?_
        refine nt ?_
        refine rt ?_
        refine vb (b' := (decide (a.Version = b.Version))) rfl ?_
        obtain ⟨a1, a2, a3, a4⟩ := a
        obtain ⟨b1, b2, b3, b4⟩ := b
        simp_all
      have fhg24_3 : ¬ (a.Clues = b.Clues) := of_decide_eq_false hg24_3
      refine oO rfl rfl hg24_3 ?_
      refine oO rfl rfl hg24_3 ?_
      refine oO rfl rfl hg24_3 ?_
      refine oO rfl rfl hg24_3 ?_
      refine oO rfl rfl hg24_3 ?_
      refine fO (OF.pickF (VEv.tmpB (b := (decide (a.Clues = b.Clues))) rfl hg24_3) (VEv.bool false)) ?_
      refine aO (tB false) rfl ?_
      refine nt ?_
      refine rt ?_
      refine vb (b' := false) rfl ?_
      obtain ⟨a1, a2, a3, a4⟩ := a
      obtain ⟨b1, b2, b3, b4⟩ := b
      simp_all
    have fhg17_2 : ¬ (a.Fill = b.Fill) := of_decide_eq_false hg17_2
    refine oO rfl rfl hg17_2 ?_
    refine oO rfl rfl hg17_2 ?_
    refine oO rfl rfl hg17_2 ?_
    refine oO rfl rfl hg17_2 ?_
    refine oO rfl rfl hg17_2 ?_
    refine fO (OF.pickF (VEv.tmpB (b := (decide (a.Fill = b.Fill))) rfl hg17_2) (VEv.bool false)) ?_
    refine mO (tB false) rfl ?_
    refine VRunO.off (VWant.not (b := false) rfl rfl rfl) ?_
    refine VRunO.off (VWant.not (b := false) rfl rfl rfl) ?_
    refine VRunO.off (VWant.not (b := false) rfl rfl rfl) ?_
    refine VRunO.off (VWant.not (b := false) rfl rfl rfl) ?_
    refine VRunO.off (VWant.not (b := false) rfl rfl rfl) ?_
    refine fO (OF.pickF (tv (tB false) rfl) (VEv.bool false)) ?_
    refine aO (tB false) rfl ?_
    refine nt ?_
    refine rt ?_
    refine vb (b' := false) rfl ?_
    obtain ⟨a1, a2, a3, a4⟩ := a
    obtain ⟨b1, b2, b3, b4⟩ := b
    simp_all
  have fhg10_1 : ¬ (a.Grid = b.Grid) := of_decide_eq_false hg10_1
  refine oO rfl rfl hg10_1 ?_
  refine oO rfl rfl hg10_1 ?_
  refine oO rfl rfl hg10_1 ?_
  refine oO rfl rfl hg10_1 ?_
  refine oO rfl rfl hg10_1 ?_
  refine fO (OF.pickF (VEv.tmpB (b := (decide (a.Grid = b.Grid))) rfl hg10_1) (VEv.bool false)) ?_
  refine mO (tB false) rfl ?_
  refine VRunO.off (VWant.not (b := false) rfl rfl rfl) ?_
  refine VRunO.off (VWant.not (b := false) rfl rfl rfl) ?_
  refine VRunO.off (VWant.not (b := false) rfl rfl rfl) ?_
  refine VRunO.off (VWant.not (b := false) rfl rfl rfl) ?_
  refine VRunO.off (VWant.not (b := false) rfl rfl rfl) ?_
  refine fO (OF.pickF (tv (tB false) rfl) (VEv.bool false)) ?_
  refine mO (tB false) rfl ?_
  refine VRunO.off (VWant.not (b := false) rfl rfl rfl) ?_
  refine VRunO.off (VWant.not (b := false) rfl rfl rfl) ?_
  refine VRunO.off (VWant.not (b := false) rfl rfl rfl) ?_
  refine VRunO.off (VWant.not (b := false) rfl rfl rfl) ?_
  refine VRunO.off (VWant.not (b := false) rfl rfl rfl) ?_
  refine fO (OF.pickF (tv (tB false) rfl) (VEv.bool false)) ?_
  refine aO (tB false) rfl ?_
  refine nt ?_
  refine rt ?_
  refine vb (b' := false) rfl ?_
  obtain ⟨a1, a2, a3, a4⟩ := a
  obtain ⟨b1, b2, b3, b4⟩ := b
  simp_all
theorem W_spec_EqualDrafts (n : Nat) (a : D.Draft) (b : D.Draft) (hza : zDraft a ≤ mx) (hzb : zDraft b ≤ mx) : Pure (acall Try.prog (n + 2)) 62 [(T.agg (eDraft false a)), (T.agg (eDraft false b))] (tB (decide (a = b))) := by
  refine Pure.intro (rs := [ResultVar.tmp 4]) Try.func62 rfl rfl rfl (E0 := [(0, (T.agg (eDraft false a))), (1, (T.agg (eDraft false b)))]) rfl ?_
  have hlim : lim = 1099511627776 := rfl
  have hmx : mx = 1048576 := rfl
  have hmax : maxLen = 9223372036854775807 := rfl
  simp only [zDraft] at hza hzb
  have hla := zL_len (z := zClue) a.Clues
  have hlb := zL_len (z := zClue) b.Clues
  refine sr ?_
  refine kO (B.box (ts := (eDraft false a)) (tv (T.agg (eDraft false a)) rfl) nofun rfl) ?_
  refine kO (B.box (ts := (eDraft false b)) (tv (T.agg (eDraft false b)) rfl) nofun rfl) ?_
  refine fO (OF.assign (VEv.bool false)) ?_
  refine nt ?_
  refine sq ?_
  refine sr ?_
  refine fO (OF.fieldAddrO (tv (T.op 0 0) rfl) fa32_0) ?_
  refine lO (OL.loadOn (us := (eGrid false a.Grid)) (tv (T.op 0 0) rfl) rfl st29 sz29 (Nat.le_of_ble_eq_true rfl) rfl) ?_
  refine fO (OF.fieldAddrO (tv (T.op 1 0) rfl) fa32_0) ?_
  refine lO (OL.loadOn (us := (eGrid false b.Grid)) (tv (T.op 1 0) rfl) rfl st29 sz29 (Nat.le_of_ble_eq_true rfl) rfl) ?_
  refine fO (B.neq29 (a := a.Grid) (b := b.Grid) (m := false) (m' := false) (tv (T.agg (eGrid false a.Grid)) rfl) (tv (T.agg (eGrid false b.Grid)) rfl)) ?_
  refine mO (tB (!(decide (a.Grid = b.Grid)))) rfl ?_
  refine bool_way (!(decide (a.Grid = b.Grid))) (fun hg11_1 => ?_) (fun hg11_1 => ?_)
  · have fhg11_1 : ¬ (a.Grid = b.Grid) := ndT hg11_1
    refine oO rfl rfl hg11_1 ?_
    refine oO rfl rfl hg11_1 ?_
    refine oO rfl rfl hg11_1 ?_
    refine oO rfl rfl hg11_1 ?_
    refine oO rfl rfl hg11_1 ?_
    refine fO (OF.pickT (VEv.tmpB (b := (!(decide (a.Grid = b.Grid)))) rfl hg11_1) (VEv.bool true)) ?_
    refine mO (tB true) rfl ?_
    refine VRunO.off (VWant.not (b := true) rfl rfl rfl) ?_
    refine VRunO.off (VWant.not (b := true) rfl rfl rfl) ?_
    refine VRunO.off (VWant.not (b := true) rfl rfl rfl) ?_
    refine VRunO.off (VWant.not (b := true) rfl rfl rfl) ?_
    refine VRunO.off (VWant.not (b := true) rfl rfl rfl) ?_
    refine fO (OF.pickT (tv (tB true) rfl) (VEv.bool true)) ?_
    refine mO (tB true) rfl ?_
    refine VRunO.off (VWant.not (b := true) rfl rfl rfl) ?_
    refine VRunO.off (VWant.not (b := true) rfl rfl rfl) ?_
    refine VRunO.off (VWant.not (b := true) rfl rfl rfl) ?_
    refine VRunO.off (VWant.not (b := true) rfl rfl rfl) ?_
    refine VRunO.off (VWant.not (b := true) rfl rfl rfl) ?_
    refine VRunO.off (VWant.not (b := true) rfl rfl rfl) ?_
    refine VRunO.off (VWant.not (b := true) rfl rfl rfl) ?_
    refine fO (OF.pickT (tv (tB true) rfl) (VEv.bool true)) ?_
    refine nt ?_
    refine VRun.cond (tv (tB true) rfl) (fun hk2 => ?_) (fun hk2 => ?_)
    · skip
      refine sr ?_
      refine fO (OF.assign (VEv.bool false)) ?_
      refine nt ?_
      refine rt ?_
      refine tr ?_
      refine vb (b' := false) rfl ?_
      first | (symm; rw [decide_eq_true_eq]; have h := agree_all hI' (by omega) fhc1; obtain ⟨a1, a2, a3, a4⟩ := a; obtain ⟨b1, b2, b3, b4⟩ := b; simp_all; done) | (symm; rw [decide_eq_false_iff_not]; rintro rfl; first | (exact fhc0 rfl) | (exact agree_not hx1 hx2 fhc2 rfl) | (simp_all; done))
    · exact absurd (rfl.symm.trans hk2) (by decide)
  have fhg11_1 : a.Grid = b.Grid := ndF hg11_1
  refine gF hg11_1 rfl rfl (OF.fieldAddrO (tv (T.op 0 0) rfl) fa32_1) ?_
  refine gL hg11_1 rfl rfl (OL.loadO1 (t := (tS a.Fill)) (tv (T.op 0 3) rfl) rfl rfl st9) ?_
  refine gF hg11_1 rfl rfl (OF.fieldAddrO (tv (T.op 1 0) rfl) fa32_1) ?_
  refine gL hg11_1 rfl rfl (OL.loadO1 (t := (tS b.Fill)) (tv (T.op 1 3) rfl) rfl rfl st9) ?_
  refine gF hg11_1 rfl rfl (B.sneq (c := (!(decide (a.Fill = b.Fill)))) (tv (tS a.Fill) rfl) (tv (tS b.Fill) rfl) rfl) ?_
  refine fO (OF.pickF (VEv.tmpB (b := (!(decide (a.Grid = b.Grid)))) rfl hg11_1) (tv (tB (!(decide (a.Fill = b.Fill)))) rfl)) ?_
  refine mO (tB (!(decide (a.Fill = b.Fill)))) rfl ?_
  refine bool_way (!(decide (a.Fill = b.Fill))) (fun hg18_3 => ?_) (fun hg18_3 => ?_)
  · have fhg18_3 : ¬ (a.Fill = b.Fill) := ndT hg18_3
    refine oO rfl rfl hg18_3 ?_
    refine oO rfl rfl hg18_3 ?_
    refine oO rfl rfl hg18_3 ?_
    refine oO rfl rfl hg18_3 ?_
    refine oO rfl rfl hg18_3 ?_
    refine fO (OF.pickT (VEv.tmpB (b := (!(decide (a.Fill = b.Fill)))) rfl hg18_3) (VEv.bool true)) ?_
    refine mO (tB true) rfl ?_
    refine VRunO.off (VWant.not (b := true) rfl rfl rfl) ?_
    refine VRunO.off (VWant.not (b := true) rfl rfl rfl) ?_
    refine VRunO.off (VWant.not (b := true) rfl rfl rfl) ?_
    refine VRunO.off (VWant.not (b := true) rfl rfl rfl) ?_
    refine VRunO.off (VWant.not (b := true) rfl rfl rfl) ?_
    refine VRunO.off (VWant.not (b := true) rfl rfl rfl) ?_
    refine VRunO.off (VWant.not (b := true) rfl rfl rfl) ?_
    refine fO (OF.pickT (tv (tB true) rfl) (VEv.bool true)) ?_
    refine nt ?_
    refine VRun.cond (tv (tB true) rfl) (fun hk4 => ?_) (fun hk4 => ?_)
    · skip
      refine sr ?_
      refine fO (OF.assign (VEv.bool false)) ?_
      refine nt ?_
      refine rt ?_
      refine tr ?_
      refine vb (b' := false) rfl ?_
      first | (symm; rw [decide_eq_true_eq]; have h := agree_all hI' (by omega) fhc1; obtain ⟨a1, a2, a3, a4⟩ := a; obtain ⟨b1, b2, b3, b4⟩ := b; simp_all; done) | (symm; rw [decide_eq_false_iff_not]; rintro rfl; first | (exact fhc0 rfl) | (exact agree_not hx1 hx2 fhc2 rfl) | (simp_all; done))
    · exact absurd (rfl.symm.trans hk4) (by decide)
  have fhg18_3 : a.Fill = b.Fill := ndF hg18_3
  refine gF hg18_3 rfl rfl (OF.fieldAddrO (tv (T.op 0 0) rfl) fa32_3) ?_
  refine gL hg18_3 rfl rfl (OL.loadO1 (t := (tI a.Version)) (tv (T.op 0 5) rfl) rfl rfl st3) ?_
  refine gF hg18_3 rfl rfl (OF.fieldAddrO (tv (T.op 1 0) rfl) fa32_3) ?_
  refine gL hg18_3 rfl rfl (OL.loadO1 (t := (tI b.Version)) (tv (T.op 1 5) rfl) rfl rfl st3) ?_
  refine gF hg18_3 rfl rfl (B.neq (c := (!(decide (a.Version = b.Version)))) (tv (tI a.Version) rfl) (tv (tI b.Version) rfl) rfl) ?_
  refine fO (OF.pickF (VEv.tmpB (b := (!(decide (a.Fill = b.Fill)))) rfl hg18_3) (tv (tB (!(decide (a.Version = b.Version)))) rfl)) ?_
  refine mO (tB (!(decide (a.Version = b.Version)))) rfl ?_
  refine bool_way (!(decide (a.Version = b.Version))) (fun hg25_5 => ?_) (fun hg25_5 => ?_)
  · have fhg25_5 : ¬ (a.Version = b.Version) := ndT hg25_5
    refine oO rfl rfl hg25_5 ?_
    refine oO rfl rfl hg25_5 ?_
    refine oO rfl rfl hg25_5 ?_
    refine oO rfl rfl hg25_5 ?_
    refine oO rfl rfl hg25_5 ?_
    refine oO rfl rfl hg25_5 ?_
    refine oO rfl rfl hg25_5 ?_
    refine fO (OF.pickT (VEv.tmpB (b := (!(decide (a.Version = b.Version)))) rfl hg25_5) (VEv.bool true)) ?_
    refine nt ?_
    refine VRun.cond (tv (tB true) rfl) (fun hk6 => ?_) (fun hk6 => ?_)
    · skip
      refine sr ?_
      refine fO (OF.assign (VEv.bool false)) ?_
      refine nt ?_
      refine rt ?_
      refine tr ?_
      refine vb (b' := false) rfl ?_
      first | (symm; rw [decide_eq_true_eq]; have h := agree_all hI' (by omega) fhc1; obtain ⟨a1, a2, a3, a4⟩ := a; obtain ⟨b1, b2, b3, b4⟩ := b; simp_all; done) | (symm; rw [decide_eq_false_iff_not]; rintro rfl; first | (exact fhc0 rfl) | (exact agree_not hx1 hx2 fhc2 rfl) | (simp_all; done))
    · exact absurd (rfl.symm.trans hk6) (by decide)
  have fhg25_5 : a.Version = b.Version := ndF hg25_5
  refine gF hg25_5 rfl rfl (OF.fieldAddrO (tv (T.op 0 0) rfl) fa32_2) ?_
  refine gL hg25_5 rfl rfl (OL.loadO1 (t := (rd 2 eClue a.Clues)) (tv (T.op 0 4) rfl) rfl rfl st30) ?_
  refine gL hg25_5 rfl rfl (B.lenR (m := a.Clues.length) (tv (rd 2 eClue a.Clues) rfl) Try.underlying30 (List.length_map ..)) ?_
  refine gF hg25_5 rfl rfl (OF.fieldAddrO (tv (T.op 1 0) rfl) fa32_2) ?_
  refine gL hg25_5 rfl rfl (OL.loadO1 (t := (rd 2 eClue b.Clues)) (tv (T.op 1 4) rfl) rfl rfl st30) ?_
  refine gL hg25_5 rfl rfl (B.lenR (m := b.Clues.length) (tv (rd 2 eClue b.Clues) rfl) Try.underlying30 (List.length_map ..)) ?_
  refine gF hg25_5 rfl rfl (B.neq (c := (!(decide (a.Clues.length = b.Clues.length)))) (tv (tN a.Clues.length) rfl) (tv (tN b.Clues.length) rfl) (by first | exact Nat.le_trans (zL_at hx1) (by omega) | exact Nat.le_trans (zL_at hx2) (by omega) | (exact decNn (by omega)))) ?_
  refine fO (OF.pickF (VEv.tmpB (b := (!(decide (a.Version = b.Version)))) rfl hg25_5) (tv (tB (!(decide (a.Clues.length = b.Clues.length)))) rfl)) ?_
  refine nt ?_
  refine VRun.cond (tv (tB (!(decide (a.Clues.length = b.Clues.length)))) rfl) (fun hc0 => ?_) (fun hc0 => ?_)
  · have fhc0 : ¬ (a.Clues.length = b.Clues.length) := ndT hc0
    refine sr ?_
    refine fO (OF.assign (VEv.bool false)) ?_
    refine nt ?_
    refine rt ?_
    refine tr ?_
    refine vb (b' := false) rfl ?_
    first | (symm; rw [decide_eq_true_eq]; have h := agree_all hI' (by omega) fhc1; obtain ⟨a1, a2, a3, a4⟩ := a; obtain ⟨b1, b2, b3, b4⟩ := b; simp_all; done) | (symm; rw [decide_eq_false_iff_not]; rintro rfl; first | (exact fhc0 rfl) | (exact agree_not hx1 hx2 fhc2 rfl) | (simp_all; done))
  have fhc0 : a.Clues.length = b.Clues.length := ndF hc0
  refine sk ?_
  refine tn ?_
  refine sq ?_
  refine sr ?_
  refine fO (OF.assign (VEv.int .i64 0)) ?_
  refine nt ?_
  refine VRun.block ?_
  refine VRun.loop (A := Nat) (fun s_ => [(2, (T.op 0 0)), (3, (T.op 1 0)), (5, (tN s_))]) (fun s_ => mkO [(0, (Obj.cells (eDraft false a))), (1, (Obj.cells (eDraft false b)))]) 2 (fun s_ => s_ ≤ a.Clues.length ∧ ∀ j, j < s_ → a.Clues[j]? = b.Clues[j]?) (fun s_ => a.Clues.length - s_) (0 : Nat) ?_ (Wk.mk (fun k => k) ?_ ?_ ?_) ?_
  · first | trivial | (simp; done) | omega | (constructor <;> simp)
  · exact (ball_cons ⟨rfl, rfl⟩ (ball_cons ⟨rfl, rfl⟩ (ball_cons ⟨rfl, rfl⟩ (ball_nil))))
  · exact (ball_cons ⟨rfl, (Nat.le_of_ble_eq_true rfl), rfl⟩ (ball_cons ⟨rfl, (Nat.le_of_ble_eq_true rfl), rfl⟩ (ball_nil)))
  · show List.Nodup ([0, 1] : List Nat)
    decide
  rintro i hI
  have hI' : i ≤ a.Clues.length ∧ ∀ j, j < i → a.Clues[j]? = b.Clues[j]? := hI
  clear hI
  show VRun _ _ _ [(2, (T.op 0 0)), (3, (T.op 1 0)), (5, (tN i))] (mkO [(0, (Obj.cells (eDraft false a))), (1, (Obj.cells (eDraft false b)))]) 2 _
  refine sq ?_
  refine sr ?_
  refine mO (tN i) rfl ?_
  refine fO (OF.fieldAddrO (tv (T.op 0 0) rfl) fa32_2) ?_
  refine lO (OL.loadO1 (t := (rd 2 eClue a.Clues)) (tv (T.op 0 4) rfl) rfl rfl st30) ?_
  refine lO (B.lenR (m := a.Clues.length) (tv (rd 2 eClue a.Clues) rfl) Try.underlying30 (List.length_map ..)) ?_
  refine fO (B.lss (c := (decide (i < a.Clues.length))) (tv (tN i) rfl) (tv (tN a.Clues.length) rfl) (by first | exact Nat.le_trans (zL_at hx1) (by omega) | exact Nat.le_trans (zL_at hx2) (by omega) | (exact decN (by omega)))) ?_
  refine nt ?_
  refine VRun.cond (tv (tB (decide (i < a.Clues.length))) rfl) (fun hc1 => ?_) (fun hc1 => ?_)
  · have fhc1 : i < a.Clues.length := of_decide_eq_true hc1
    refine sk ?_
    refine tn ?_
    refine sq ?_
    refine VRun.block ?_
    refine sq ?_
    refine VRun.draw (B := [[], [0], [], [2, 0, 1], [1, 0, 2, 3], [], [5], [], [7, 5, 6], [6, 5, 7, 8], [8, 7, 5, 6, 9, 3, 2, 0, 1, 4], [4, 1, 0, 2, 3, 9, 6, 5, 7, 8, 10]]) (by kernel_rfl) (by kernel_rfl) ?_
    refine fD (OF.fieldAddrO (tv (T.op 0 0) rfl) fa32_2) rfl rfl ?_
    refine lD (OL.loadO1 (t := (rd 2 eClue a.Clues)) (tv (T.op 0 4) rfl) rfl rfl st30) rfl rfl ?_
    refine mD (tN i) rfl rfl ?_
    obtain ⟨x1, hx1⟩ : ∃ x, a.Clues[i]? = some x := ⟨_, List.getElem?_eq_getElem (by first | exact Nat.le_trans (zL_at hx1) (by omega) | exact Nat.le_trans (zL_at hx2) (by omega) | omega)⟩
    refine fD (OF.indexAddrR (row := (eClue false x1)) (i := i) (tv (rd 2 eClue a.Clues) rfl) (tv (tN i) rfl) rfl (map_at _ hx1) Try.underlying30 sz70 if70) rfl rfl ?_
    refine lD (OL.loadRn (us := (eClue false x1)) (tv (T.rp (eClue false x1)) rfl) st70 sz70 (Nat.le_of_ble_eq_true rfl) rfl) rfl rfl ?_
    refine fD (OF.fieldAddrO (tv (T.op 1 0) rfl) fa32_2) rfl rfl ?_
    refine lD (OL.loadO1 (t := (rd 2 eClue b.Clues)) (tv (T.op 1 4) rfl) rfl rfl st30) rfl rfl ?_
    refine mD (tN i) rfl rfl ?_
    obtain ⟨x2, hx2⟩ : ∃ x, b.Clues[i]? = some x := ⟨_, List.getElem?_eq_getElem (by first | exact Nat.le_trans (zL_at hx1) (by omega) | exact Nat.le_trans (zL_at hx2) (by omega) | omega)⟩
    refine fD (OF.indexAddrR (row := (eClue false x2)) (i := i) (tv (rd 2 eClue b.Clues) rfl) (tv (tN i) rfl) rfl (map_at _ hx2) Try.underlying30 sz70 if70) rfl rfl ?_
    refine lD (OL.loadRn (us := (eClue false x2)) (tv (T.rp (eClue false x2)) rfl) st70 sz70 (Nat.le_of_ble_eq_true rfl) rfl) rfl rfl ?_
    refine VRunD.quiet (bi := [8, 7, 5, 6, 9, 3, 2, 0, 1, 4]) rfl VWant.always rfl rfl rfl (ball_nil) (cS (vc (tv (T.agg (eClue false x1)) rfl) (vc (tv (T.agg (eClue false x2)) rfl) VEvs.nil)) (LendL.cons (lg okeClue) (LendL.cons (lg okeClue) (LendL.nil))) (W_spec_l21SameClue (n + 0) x1 x2 (by first | exact Nat.le_trans (zL_at hx1) (by omega) | exact Nat.le_trans (zL_at hx2) (by omega) | assumption | omega) (by first | exact Nat.le_trans (zL_at hx1) (by omega) | exact Nat.le_trans (zL_at hx2) (by omega) | assumption | omega)) rfl rfl) ?_
    refine fD (B.not (c := (!(decide (x1 = x2)))) (tv (tB (decide (x1 = x2))) rfl) rfl) rfl rfl ?_
    refine VRunD.nil ?_
    refine tn ?_
    refine VRun.cond (tv (tB (!(decide (x1 = x2)))) rfl) (fun hc2 => ?_) (fun hc2 => ?_)
    · have fhc2 : ¬ (x1 = x2) := ndT hc2
      refine sr ?_
      refine fO (OF.assign (VEv.bool false)) ?_
      refine nt ?_
      refine rt ?_
      refine vinB.r ?_
      refine tr ?_
      refine tr ?_
      refine vinB.r ?_
      refine tr ?_
      refine vb (b' := false) rfl ?_
      first | (symm; rw [decide_eq_true_eq]; have h := agree_all hI' (by omega) fhc1; obtain ⟨a1, a2, a3, a4⟩ := a; obtain ⟨b1, b2, b3, b4⟩ := b; simp_all; done) | (symm; rw [decide_eq_false_iff_not]; rintro rfl; first | (exact fhc0 rfl) | (exact agree_not hx1 hx2 fhc2 rfl) | (simp_all; done))
    have fhc2 : x1 = x2 := ndF hc2
    refine sk ?_
    refine vinB.n ?_
    refine tn ?_
    refine VRun.region ?_
    refine mO (tN i) rfl ?_
    refine fO (B.add (n := (((i + 1) : Nat) : Int)) (tv (tN i) rfl) (VEv.int .i64 1) (by first | exact Nat.le_trans (zL_at hx1) (by omega) | exact Nat.le_trans (zL_at hx2) (by omega) | rfl | (rw [wrap64 (by omega)]; omega) | (rw [wrap64 (by omega)]; done))) ?_
    refine aO (tN (i + 1)) rfl ?_
    refine VRunO.nil ?_
    refine tn ?_
    refine ⟨(i + 1 : Nat), ?_, ?_, Wk.mk (fun k => k) ?_ ?_ ?_⟩
    · exact agree_next hI' hx1 hx2 fhc2
    · first | omega | (simp only []; omega) | (show _ < _; omega) | (simp; omega)
    · exact (ball_cons ⟨rfl, rfl⟩ (ball_cons ⟨rfl, rfl⟩ (ball_cons ⟨rfl, rfl⟩ (ball_nil))))
    · exact (ball_cons ⟨rfl, (Nat.le_of_ble_eq_true rfl), rfl⟩ (ball_cons ⟨rfl, (Nat.le_of_ble_eq_true rfl), rfl⟩ (ball_nil)))
    · show List.Nodup ([0, 1] : List Nat)
      decide
  have fhc1 : ¬ (i < a.Clues.length) := of_decide_eq_false hc1
  refine VRun.exit ?_
  refine vthn.e ?_
  refine vthn.e ?_
  refine vinB.e ?_
  refine tn ?_
  refine sr ?_
  refine fO (OF.assign (VEv.bool true)) ?_
  refine nt ?_
  refine rt ?_
  refine vb (b' := true) rfl ?_
  first | (symm; rw [decide_eq_true_eq]; have h := agree_all hI' (by omega) fhc1; obtain ⟨a1, a2, a3, a4⟩ := a; obtain ⟨b1, b2, b3, b4⟩ := b; simp_all; done) | (symm; rw [decide_eq_false_iff_not]; rintro rfl; first | (exact fhc0 rfl) | (exact agree_not hx1 hx2 fhc2 rfl) | (simp_all; done))
theorem W_impl_EqualPuzzles (n : Nat) (a : D.Puzzle) (b : D.Puzzle) (hza : zPuzzle a ≤ mx) (hzb : zPuzzle b ≤ mx) : Pure (acall Try.prog (n + 4)) 133 [(T.agg (ePuzzle false a)), (T.agg (ePuzzle false b))] (tB (decide (a = b))) := by
  refine Pure.intro (rs := [ResultVar.tmp 4]) Try.func133 rfl rfl rfl (E0 := [(0, (T.agg (ePuzzle false a))), (1, (T.agg (ePuzzle false b)))]) rfl ?_
  have hlim : lim = 1099511627776 := rfl
  have hmx : mx = 1048576 := rfl
  have hmax : maxLen = 9223372036854775807 := rfl
  simp only [zPuzzle] at hza hzb
  have hla := zL_len (z := zI) a.Seals
  have hlb := zL_len (z := zI) b.Seals
  refine sr ?_
  refine kO (B.box (ts := (ePuzzle false a)) (tv (T.agg (ePuzzle false a)) rfl) nofun rfl) ?_
  refine kO (B.box (ts := (ePuzzle false b)) (tv (T.agg (ePuzzle false b)) rfl) nofun rfl) ?_
  refine fO (OF.assign (VEv.bool false)) ?_
  refine nt ?_
  refine sr ?_
  refine fO (OF.fieldAddrO (tv (T.op 0 0) rfl) fa98_0) ?_
  refine lO (OL.loadOn (us := (eGrid false a.Grid)) (tv (T.op 0 0) rfl) rfl st29 sz29 (Nat.le_of_ble_eq_true rfl) rfl) ?_
  refine fO (OF.fieldAddrO (tv (T.op 1 0) rfl) fa98_0) ?_
  refine lO (OL.loadOn (us := (eGrid false b.Grid)) (tv (T.op 1 0) rfl) rfl st29 sz29 (Nat.le_of_ble_eq_true rfl) rfl) ?_
  refine fO (B.eql29 (a := a.Grid) (b := b.Grid) (m := false) (m' := false) (tv (T.agg (eGrid false a.Grid)) rfl) (tv (T.agg (eGrid false b.Grid)) rfl)) ?_
  refine mO (tB (decide (a.Grid = b.Grid))) rfl ?_
  refine bool_way (decide (a.Grid = b.Grid)) (fun hg10_1 => ?_) (fun hg10_1 => ?_)
  · have fhg10_1 : a.Grid = b.Grid := of_decide_eq_true hg10_1
    refine gF hg10_1 rfl rfl (OF.fieldAddrO (tv (T.op 0 0) rfl) fa98_1) ?_
    refine gL hg10_1 rfl rfl (OL.loadO1 (t := (rd 2 eClue a.Clues)) (tv (T.op 0 3) rfl) rfl rfl st30) ?_
    refine gF hg10_1 rfl rfl (OF.fieldAddrO (tv (T.op 1 0) rfl) fa98_1) ?_
    refine gL hg10_1 rfl rfl (OL.loadO1 (t := (rd 2 eClue b.Clues)) (tv (T.op 1 3) rfl) rfl rfl st30) ?_
    refine VRunO.chain (VWant.on (b := (decide (a.Grid = b.Grid))) rfl rfl hg10_1) (cS (us := [(rd 2 eClue a.Clues), (rd 2 eClue b.Clues), (T.fn 50 [])]) (vc (tv (rd 2 eClue a.Clues) rfl) (vc (tv (rd 2 eClue b.Clues) rfl) (vc (VEv.func 50) VEvs.nil))) (lp rfl (lp rfl (LendL.cons (Lend.fn (LendL.nil)) (LendL.nil)))) (W_slices_EqualFunc_impl_Clue_impl_Clue_impl_Clue_impl_Clue_impl_sameClue (n + 0) a.Clues b.Clues (by first | assumption | omega) (by first | assumption | omega)) rfl rfl) ?_
    refine fO (OF.pickT (VEv.tmpB (b := (decide (a.Grid = b.Grid))) rfl hg10_1) (tv (tB (decide (a.Clues = b.Clues))) rfl)) ?_
    refine mO (tB (decide (a.Clues = b.Clues))) rfl ?_
    refine bool_way (decide (a.Clues = b.Clues)) (fun hg17_2 => ?_) (fun hg17_2 => ?_)
    · have fhg17_2 : a.Clues = b.Clues := of_decide_eq_true hg17_2
      refine gF hg17_2 rfl rfl (OF.fieldAddrO (tv (T.op 0 0) rfl) fa98_2) ?_
      refine gL hg17_2 rfl rfl (OL.loadO1 (t := (rd 1 eInt a.Seals)) (tv (T.op 0 4) rfl) rfl rfl st56) ?_
      refine gF hg17_2 rfl rfl (OF.fieldAddrO (tv (T.op 1 0) rfl) fa98_2) ?_
      refine gL hg17_2 rfl rfl (OL.loadO1 (t := (rd 1 eInt b.Seals)) (tv (T.op 1 4) rfl) rfl rfl st56) ?_
      refine VRunO.chain (VWant.on (b := (decide (a.Clues = b.Clues))) rfl rfl hg17_2) (cS (vc (tv (rd 1 eInt a.Seals) rfl) (vc (tv (rd 1 eInt b.Seals) rfl) VEvs.nil)) (lp rfl (lp rfl (LendL.nil))) (W_slices_Equal_int_int_ (n + 2) a.Seals b.Seals (by first | assumption | omega) (by first | assumption | omega)) rfl rfl) ?_
      refine fO (OF.pickT (VEv.tmpB (b := (decide (a.Clues = b.Clues))) rfl hg17_2) (tv (tB (decide (a.Seals = b.Seals))) rfl)) ?_
      refine mO (tB (decide (a.Seals = b.Seals))) rfl ?_
      refine bool_way (decide (a.Seals = b.Seals)) (fun hg24_3 => ?_) (fun hg24_3 => ?_)
      · have fhg24_3 : a.Seals = b.Seals := of_decide_eq_true hg24_3
        refine gF hg24_3 rfl rfl (OF.fieldAddrO (tv (T.op 0 0) rfl) fa98_3) ?_
        refine gL hg24_3 rfl rfl (OL.loadO1 (t := (tI a.Salt)) (tv (T.op 0 5) rfl) rfl rfl st3) ?_
        refine gF hg24_3 rfl rfl (OF.fieldAddrO (tv (T.op 1 0) rfl) fa98_3) ?_
        refine gL hg24_3 rfl rfl (OL.loadO1 (t := (tI b.Salt)) (tv (T.op 1 5) rfl) rfl rfl st3) ?_
        refine gF hg24_3 rfl rfl (B.eql (c := (decide (a.Salt = b.Salt))) (tv (tI a.Salt) rfl) (tv (tI b.Salt) rfl) rfl) ?_
        refine fO (OF.pickT (VEv.tmpB (b := (decide (a.Seals = b.Seals))) rfl hg24_3) (tv (tB (decide (a.Salt = b.Salt))) rfl)) ?_
        refine aO (tB (decide (a.Salt = b.Salt))) rfl ?_
        refine nt ?_
        refine rt ?_
        refine vb (b' := (decide (a.Salt = b.Salt))) rfl ?_
        obtain ⟨a1, a2, a3, a4⟩ := a
        obtain ⟨b1, b2, b3, b4⟩ := b
        simp_all
      have fhg24_3 : ¬ (a.Seals = b.Seals) := of_decide_eq_false hg24_3
      refine oO rfl rfl hg24_3 ?_
      refine oO rfl rfl hg24_3 ?_
      refine oO rfl rfl hg24_3 ?_
      refine oO rfl rfl hg24_3 ?_
      refine oO rfl rfl hg24_3 ?_
      refine fO (OF.pickF (VEv.tmpB (b := (decide (a.Seals = b.Seals))) rfl hg24_3) (VEv.bool false)) ?_
      refine aO (tB false) rfl ?_
      refine nt ?_
      refine rt ?_
      refine vb (b' := false) rfl ?_
      obtain ⟨a1, a2, a3, a4⟩ := a
      obtain ⟨b1, b2, b3, b4⟩ := b
      simp_all
    have fhg17_2 : ¬ (a.Clues = b.Clues) := of_decide_eq_false hg17_2
    refine oO rfl rfl hg17_2 ?_
    refine oO rfl rfl hg17_2 ?_
    refine oO rfl rfl hg17_2 ?_
    refine oO rfl rfl hg17_2 ?_
    refine oO rfl rfl hg17_2 ?_
    refine fO (OF.pickF (VEv.tmpB (b := (decide (a.Clues = b.Clues))) rfl hg17_2) (VEv.bool false)) ?_
    refine mO (tB false) rfl ?_
    refine VRunO.off (VWant.not (b := false) rfl rfl rfl) ?_
    refine VRunO.off (VWant.not (b := false) rfl rfl rfl) ?_
    refine VRunO.off (VWant.not (b := false) rfl rfl rfl) ?_
    refine VRunO.off (VWant.not (b := false) rfl rfl rfl) ?_
    refine VRunO.off (VWant.not (b := false) rfl rfl rfl) ?_
    refine fO (OF.pickF (tv (tB false) rfl) (VEv.bool false)) ?_
    refine aO (tB false) rfl ?_
    refine nt ?_
    refine rt ?_
    refine vb (b' := false) rfl ?_
    obtain ⟨a1, a2, a3, a4⟩ := a
    obtain ⟨b1, b2, b3, b4⟩ := b
    simp_all
  have fhg10_1 : ¬ (a.Grid = b.Grid) := of_decide_eq_false hg10_1
  refine oO rfl rfl hg10_1 ?_
  refine oO rfl rfl hg10_1 ?_
  refine oO rfl rfl hg10_1 ?_
  refine oO rfl rfl hg10_1 ?_
  refine oO rfl rfl hg10_1 ?_
  refine fO (OF.pickF (VEv.tmpB (b := (decide (a.Grid = b.Grid))) rfl hg10_1) (VEv.bool false)) ?_
  refine mO (tB false) rfl ?_
  refine VRunO.off (VWant.not (b := false) rfl rfl rfl) ?_
  refine VRunO.off (VWant.not (b := false) rfl rfl rfl) ?_
  refine VRunO.off (VWant.not (b := false) rfl rfl rfl) ?_
  refine VRunO.off (VWant.not (b := false) rfl rfl rfl) ?_
  refine VRunO.off (VWant.not (b := false) rfl rfl rfl) ?_
  refine fO (OF.pickF (tv (tB false) rfl) (VEv.bool false)) ?_
  refine mO (tB false) rfl ?_
  refine VRunO.off (VWant.not (b := false) rfl rfl rfl) ?_
  refine VRunO.off (VWant.not (b := false) rfl rfl rfl) ?_
  refine VRunO.off (VWant.not (b := false) rfl rfl rfl) ?_
  refine VRunO.off (VWant.not (b := false) rfl rfl rfl) ?_
  refine VRunO.off (VWant.not (b := false) rfl rfl rfl) ?_
  refine fO (OF.pickF (tv (tB false) rfl) (VEv.bool false)) ?_
  refine aO (tB false) rfl ?_
  refine nt ?_
  refine rt ?_
  refine vb (b' := false) rfl ?_
  obtain ⟨a1, a2, a3, a4⟩ := a
  obtain ⟨b1, b2, b3, b4⟩ := b
  simp_all
theorem W_spec_EqualPuzzles (n : Nat) (a : D.Puzzle) (b : D.Puzzle) (hza : zPuzzle a ≤ mx) (hzb : zPuzzle b ≤ mx) : Pure (acall Try.prog (n + 2)) 125 [(T.agg (ePuzzle false a)), (T.agg (ePuzzle false b))] (tB (decide (a = b))) := by
  refine Pure.intro (rs := [ResultVar.tmp 4]) Try.func125 rfl rfl rfl (E0 := [(0, (T.agg (ePuzzle false a))), (1, (T.agg (ePuzzle false b)))]) rfl ?_
  have hlim : lim = 1099511627776 := rfl
  have hmx : mx = 1048576 := rfl
  have hmax : maxLen = 9223372036854775807 := rfl
  simp only [zPuzzle] at hza hzb
  have hla := zL_len (z := zClue) a.Clues
  have hlb := zL_len (z := zClue) b.Clues
  have hlc := zL_len (z := zI) a.Seals
  have hld := zL_len (z := zI) b.Seals
  refine sr ?_
  refine kO (B.box (ts := (ePuzzle false a)) (tv (T.agg (ePuzzle false a)) rfl) nofun rfl) ?_
  refine kO (B.box (ts := (ePuzzle false b)) (tv (T.agg (ePuzzle false b)) rfl) nofun rfl) ?_
  refine fO (OF.assign (VEv.bool false)) ?_
  refine nt ?_
  refine sq ?_
  refine sr ?_
  refine fO (OF.fieldAddrO (tv (T.op 0 0) rfl) fa98_0) ?_
  refine lO (OL.loadOn (us := (eGrid false a.Grid)) (tv (T.op 0 0) rfl) rfl st29 sz29 (Nat.le_of_ble_eq_true rfl) rfl) ?_
  refine fO (OF.fieldAddrO (tv (T.op 1 0) rfl) fa98_0) ?_
  refine lO (OL.loadOn (us := (eGrid false b.Grid)) (tv (T.op 1 0) rfl) rfl st29 sz29 (Nat.le_of_ble_eq_true rfl) rfl) ?_
  refine fO (B.neq29 (a := a.Grid) (b := b.Grid) (m := false) (m' := false) (tv (T.agg (eGrid false a.Grid)) rfl) (tv (T.agg (eGrid false b.Grid)) rfl)) ?_
  refine mO (tB (!(decide (a.Grid = b.Grid)))) rfl ?_
  refine bool_way (!(decide (a.Grid = b.Grid))) (fun hg11_1 => ?_) (fun hg11_1 => ?_)
  · have fhg11_1 : ¬ (a.Grid = b.Grid) := ndT hg11_1
    refine oO rfl rfl hg11_1 ?_
    refine oO rfl rfl hg11_1 ?_
    refine oO rfl rfl hg11_1 ?_
    refine oO rfl rfl hg11_1 ?_
    refine oO rfl rfl hg11_1 ?_
    refine fO (OF.pickT (VEv.tmpB (b := (!(decide (a.Grid = b.Grid)))) rfl hg11_1) (VEv.bool true)) ?_
    refine mO (tB true) rfl ?_
    refine VRunO.off (VWant.not (b := true) rfl rfl rfl) ?_
    refine VRunO.off (VWant.not (b := true) rfl rfl rfl) ?_
    refine VRunO.off (VWant.not (b := true) rfl rfl rfl) ?_
    refine VRunO.off (VWant.not (b := true) rfl rfl rfl) ?_
    refine VRunO.off (VWant.not (b := true) rfl rfl rfl) ?_
    refine VRunO.off (VWant.not (b := true) rfl rfl rfl) ?_
    refine VRunO.off (VWant.not (b := true) rfl rfl rfl) ?_
    refine fO (OF.pickT (tv (tB true) rfl) (VEv.bool true)) ?_
    refine mO (tB true) rfl ?_
    refine VRunO.off (VWant.not (b := true) rfl rfl rfl) ?_
    refine VRunO.off (VWant.not (b := true) rfl rfl rfl) ?_
    refine VRunO.off (VWant.not (b := true) rfl rfl rfl) ?_
    refine VRunO.off (VWant.not (b := true) rfl rfl rfl) ?_
    refine VRunO.off (VWant.not (b := true) rfl rfl rfl) ?_
    refine VRunO.off (VWant.not (b := true) rfl rfl rfl) ?_
    refine fO (OF.pickT (tv (tB true) rfl) (VEv.bool true)) ?_
    refine nt ?_
    refine VRun.cond (tv (tB true) rfl) (fun hk2 => ?_) (fun hk2 => ?_)
    · skip
      refine sr ?_
      refine fO (OF.assign (VEv.bool false)) ?_
      refine nt ?_
      refine rt ?_
      refine tr ?_
      refine vb (b' := false) rfl ?_
      first | (symm; rw [decide_eq_true_eq]; have h := agree_all hI' (by omega) fhc1; obtain ⟨a1, a2, a3, a4⟩ := a; obtain ⟨b1, b2, b3, b4⟩ := b; simp_all; done) | (symm; rw [decide_eq_false_iff_not]; rintro rfl; first | (exact fhc0 rfl) | (exact agree_not hx1 hx2 fhc2 rfl) | (simp_all; done))
    · exact absurd (rfl.symm.trans hk2) (by decide)
  have fhg11_1 : a.Grid = b.Grid := ndF hg11_1
  refine gF hg11_1 rfl rfl (OF.fieldAddrO (tv (T.op 0 0) rfl) fa98_3) ?_
  refine gL hg11_1 rfl rfl (OL.loadO1 (t := (tI a.Salt)) (tv (T.op 0 5) rfl) rfl rfl st3) ?_
  refine gF hg11_1 rfl rfl (OF.fieldAddrO (tv (T.op 1 0) rfl) fa98_3) ?_
  refine gL hg11_1 rfl rfl (OL.loadO1 (t := (tI b.Salt)) (tv (T.op 1 5) rfl) rfl rfl st3) ?_
  refine gF hg11_1 rfl rfl (B.neq (c := (!(decide (a.Salt = b.Salt)))) (tv (tI a.Salt) rfl) (tv (tI b.Salt) rfl) rfl) ?_
  refine fO (OF.pickF (VEv.tmpB (b := (!(decide (a.Grid = b.Grid)))) rfl hg11_1) (tv (tB (!(decide (a.Salt = b.Salt)))) rfl)) ?_
  refine mO (tB (!(decide (a.Salt = b.Salt)))) rfl ?_
  refine bool_way (!(decide (a.Salt = b.Salt))) (fun hg18_3 => ?_) (fun hg18_3 => ?_)
  · have fhg18_3 : ¬ (a.Salt = b.Salt) := ndT hg18_3
    refine oO rfl rfl hg18_3 ?_
    refine oO rfl rfl hg18_3 ?_
    refine oO rfl rfl hg18_3 ?_
    refine oO rfl rfl hg18_3 ?_
    refine oO rfl rfl hg18_3 ?_
    refine oO rfl rfl hg18_3 ?_
    refine oO rfl rfl hg18_3 ?_
    refine fO (OF.pickT (VEv.tmpB (b := (!(decide (a.Salt = b.Salt)))) rfl hg18_3) (VEv.bool true)) ?_
    refine mO (tB true) rfl ?_
    refine VRunO.off (VWant.not (b := true) rfl rfl rfl) ?_
    refine VRunO.off (VWant.not (b := true) rfl rfl rfl) ?_
    refine VRunO.off (VWant.not (b := true) rfl rfl rfl) ?_
    refine VRunO.off (VWant.not (b := true) rfl rfl rfl) ?_
    refine VRunO.off (VWant.not (b := true) rfl rfl rfl) ?_
    refine VRunO.off (VWant.not (b := true) rfl rfl rfl) ?_
    refine fO (OF.pickT (tv (tB true) rfl) (VEv.bool true)) ?_
    refine nt ?_
    refine VRun.cond (tv (tB true) rfl) (fun hk4 => ?_) (fun hk4 => ?_)
    · skip
      refine sr ?_
      refine fO (OF.assign (VEv.bool false)) ?_
      refine nt ?_
      refine rt ?_
      refine tr ?_
      refine vb (b' := false) rfl ?_
      first | (symm; rw [decide_eq_true_eq]; have h := agree_all hI' (by omega) fhc1; obtain ⟨a1, a2, a3, a4⟩ := a; obtain ⟨b1, b2, b3, b4⟩ := b; simp_all; done) | (symm; rw [decide_eq_false_iff_not]; rintro rfl; first | (exact fhc0 rfl) | (exact agree_not hx1 hx2 fhc2 rfl) | (simp_all; done))
    · exact absurd (rfl.symm.trans hk4) (by decide)
  have fhg18_3 : a.Salt = b.Salt := ndF hg18_3
  refine gF hg18_3 rfl rfl (OF.fieldAddrO (tv (T.op 0 0) rfl) fa98_1) ?_
  refine gL hg18_3 rfl rfl (OL.loadO1 (t := (rd 2 eClue a.Clues)) (tv (T.op 0 3) rfl) rfl rfl st30) ?_
  refine gL hg18_3 rfl rfl (B.lenR (m := a.Clues.length) (tv (rd 2 eClue a.Clues) rfl) Try.underlying30 (List.length_map ..)) ?_
  refine gF hg18_3 rfl rfl (OF.fieldAddrO (tv (T.op 1 0) rfl) fa98_1) ?_
  refine gL hg18_3 rfl rfl (OL.loadO1 (t := (rd 2 eClue b.Clues)) (tv (T.op 1 3) rfl) rfl rfl st30) ?_
  refine gL hg18_3 rfl rfl (B.lenR (m := b.Clues.length) (tv (rd 2 eClue b.Clues) rfl) Try.underlying30 (List.length_map ..)) ?_
  refine gF hg18_3 rfl rfl (B.neq (c := (!(decide (a.Clues.length = b.Clues.length)))) (tv (tN a.Clues.length) rfl) (tv (tN b.Clues.length) rfl) (by first | exact Nat.le_trans (zL_at hx1) (by omega) | exact Nat.le_trans (zL_at hx2) (by omega) | (exact decNn (by omega)))) ?_
  refine fO (OF.pickF (VEv.tmpB (b := (!(decide (a.Salt = b.Salt)))) rfl hg18_3) (tv (tB (!(decide (a.Clues.length = b.Clues.length)))) rfl)) ?_
  refine mO (tB (!(decide (a.Clues.length = b.Clues.length)))) rfl ?_
  refine bool_way (!(decide (a.Clues.length = b.Clues.length))) (fun hg27_5 => ?_) (fun hg27_5 => ?_)
  · have fhg27_5 : ¬ (a.Clues.length = b.Clues.length) := ndT hg27_5
    refine oO rfl rfl hg27_5 ?_
    refine oO rfl rfl hg27_5 ?_
    refine oO rfl rfl hg27_5 ?_
    refine oO rfl rfl hg27_5 ?_
    refine oO rfl rfl hg27_5 ?_
    refine oO rfl rfl hg27_5 ?_
    refine fO (OF.pickT (VEv.tmpB (b := (!(decide (a.Clues.length = b.Clues.length)))) rfl hg27_5) (VEv.bool true)) ?_
    refine nt ?_
    refine VRun.cond (tv (tB true) rfl) (fun hk6 => ?_) (fun hk6 => ?_)
    · skip
      refine sr ?_
      refine fO (OF.assign (VEv.bool false)) ?_
      refine nt ?_
      refine rt ?_
      refine tr ?_
      refine vb (b' := false) rfl ?_
      first | (symm; rw [decide_eq_true_eq]; have h := agree_all hI' (by omega) fhc1; obtain ⟨a1, a2, a3, a4⟩ := a; obtain ⟨b1, b2, b3, b4⟩ := b; simp_all; done) | (symm; rw [decide_eq_false_iff_not]; rintro rfl; first | (exact fhc0 rfl) | (exact agree_not hx1 hx2 fhc2 rfl) | (simp_all; done))
    · exact absurd (rfl.symm.trans hk6) (by decide)
  have fhg27_5 : a.Clues.length = b.Clues.length := ndF hg27_5
  refine gF hg27_5 rfl rfl (OF.fieldAddrO (tv (T.op 0 0) rfl) fa98_2) ?_
  refine gL hg27_5 rfl rfl (OL.loadO1 (t := (rd 1 eInt a.Seals)) (tv (T.op 0 4) rfl) rfl rfl st56) ?_
  refine gF hg27_5 rfl rfl (OF.fieldAddrO (tv (T.op 1 0) rfl) fa98_2) ?_
  refine gL hg27_5 rfl rfl (OL.loadO1 (t := (rd 1 eInt b.Seals)) (tv (T.op 1 4) rfl) rfl rfl st56) ?_
  refine VRunO.chain (VWant.on (b := (!(decide (a.Clues.length = b.Clues.length)))) rfl rfl hg27_5) (cS (vc (tv (rd 1 eInt a.Seals) rfl) (vc (tv (rd 1 eInt b.Seals) rfl) VEvs.nil)) (lp rfl (lp rfl (LendL.nil))) (W_spec_EqualInts (n + 0) a.Seals b.Seals (by first | exact Nat.le_trans (zL_at hx1) (by omega) | exact Nat.le_trans (zL_at hx2) (by omega) | assumption | omega) (by first | exact Nat.le_trans (zL_at hx1) (by omega) | exact Nat.le_trans (zL_at hx2) (by omega) | assumption | omega)) rfl rfl) ?_
  refine gF hg27_5 rfl rfl (B.not (c := (!(decide (a.Seals = b.Seals)))) (tv (tB (decide (a.Seals = b.Seals))) rfl) rfl) ?_
  refine fO (OF.pickF (VEv.tmpB (b := (!(decide (a.Clues.length = b.Clues.length)))) rfl hg27_5) (tv (tB (!(decide (a.Seals = b.Seals)))) rfl)) ?_
  refine nt ?_
  refine VRun.cond (tv (tB (!(decide (a.Seals = b.Seals)))) rfl) (fun hc0 => ?_) (fun hc0 => ?_)
  · have fhc0 : ¬ (a.Seals = b.Seals) := ndT hc0
    refine sr ?_
    refine fO (OF.assign (VEv.bool false)) ?_
    refine nt ?_
    refine rt ?_
    refine tr ?_
    refine vb (b' := false) rfl ?_
    first | (symm; rw [decide_eq_true_eq]; have h := agree_all hI' (by omega) fhc1; obtain ⟨a1, a2, a3, a4⟩ := a; obtain ⟨b1, b2, b3, b4⟩ := b; simp_all; done) | (symm; rw [decide_eq_false_iff_not]; rintro rfl; first | (exact fhc0 rfl) | (exact agree_not hx1 hx2 fhc2 rfl) | (simp_all; done))
  have fhc0 : a.Seals = b.Seals := ndF hc0
  refine sk ?_
  refine tn ?_
  refine sq ?_
  refine sr ?_
  refine fO (OF.assign (VEv.int .i64 0)) ?_
  refine nt ?_
  refine VRun.block ?_
  refine VRun.loop (A := Nat) (fun s_ => [(2, (T.op 0 0)), (3, (T.op 1 0)), (5, (tN s_))]) (fun s_ => mkO [(0, (Obj.cells (ePuzzle false a))), (1, (Obj.cells (ePuzzle false b)))]) 2 (fun s_ => s_ ≤ a.Clues.length ∧ ∀ j, j < s_ → a.Clues[j]? = b.Clues[j]?) (fun s_ => a.Clues.length - s_) (0 : Nat) ?_ (Wk.mk (fun k => k) ?_ ?_ ?_) ?_
  · first | trivial | (simp; done) | omega | (constructor <;> simp)
  · exact (ball_cons ⟨rfl, rfl⟩ (ball_cons ⟨rfl, rfl⟩ (ball_cons ⟨rfl, rfl⟩ (ball_nil))))
  · exact (ball_cons ⟨rfl, (Nat.le_of_ble_eq_true rfl), rfl⟩ (ball_cons ⟨rfl, (Nat.le_of_ble_eq_true rfl), rfl⟩ (ball_nil)))
  · show List.Nodup ([0, 1] : List Nat)
    decide
  rintro i hI
  have hI' : i ≤ a.Clues.length ∧ ∀ j, j < i → a.Clues[j]? = b.Clues[j]? := hI
  clear hI
  show VRun _ _ _ [(2, (T.op 0 0)), (3, (T.op 1 0)), (5, (tN i))] (mkO [(0, (Obj.cells (ePuzzle false a))), (1, (Obj.cells (ePuzzle false b)))]) 2 _
  refine sq ?_
  refine sr ?_
  refine mO (tN i) rfl ?_
  refine fO (OF.fieldAddrO (tv (T.op 0 0) rfl) fa98_1) ?_
  refine lO (OL.loadO1 (t := (rd 2 eClue a.Clues)) (tv (T.op 0 3) rfl) rfl rfl st30) ?_
  refine lO (B.lenR (m := a.Clues.length) (tv (rd 2 eClue a.Clues) rfl) Try.underlying30 (List.length_map ..)) ?_
  refine fO (B.lss (c := (decide (i < a.Clues.length))) (tv (tN i) rfl) (tv (tN a.Clues.length) rfl) (by first | exact Nat.le_trans (zL_at hx1) (by omega) | exact Nat.le_trans (zL_at hx2) (by omega) | (exact decN (by omega)))) ?_
  refine nt ?_
  refine VRun.cond (tv (tB (decide (i < a.Clues.length))) rfl) (fun hc1 => ?_) (fun hc1 => ?_)
  · have fhc1 : i < a.Clues.length := of_decide_eq_true hc1
    refine sk ?_
    refine tn ?_
    refine sq ?_
    refine VRun.block ?_
    refine sq ?_
    refine VRun.draw (B := [[], [0], [], [2, 0, 1], [1, 0, 2, 3], [], [5], [], [7, 5, 6], [6, 5, 7, 8], [8, 7, 5, 6, 9, 3, 2, 0, 1, 4], [4, 1, 0, 2, 3, 9, 6, 5, 7, 8, 10]]) (by kernel_rfl) (by kernel_rfl) ?_
    refine fD (OF.fieldAddrO (tv (T.op 0 0) rfl) fa98_1) rfl rfl ?_
    refine lD (OL.loadO1 (t := (rd 2 eClue a.Clues)) (tv (T.op 0 3) rfl) rfl rfl st30) rfl rfl ?_
    refine mD (tN i) rfl rfl ?_
    obtain ⟨x1, hx1⟩ : ∃ x, a.Clues[i]? = some x := ⟨_, List.getElem?_eq_getElem (by first | exact Nat.le_trans (zL_at hx1) (by omega) | exact Nat.le_trans (zL_at hx2) (by omega) | omega)⟩
    refine fD (OF.indexAddrR (row := (eClue false x1)) (i := i) (tv (rd 2 eClue a.Clues) rfl) (tv (tN i) rfl) rfl (map_at _ hx1) Try.underlying30 sz70 if70) rfl rfl ?_
    refine lD (OL.loadRn (us := (eClue false x1)) (tv (T.rp (eClue false x1)) rfl) st70 sz70 (Nat.le_of_ble_eq_true rfl) rfl) rfl rfl ?_
    refine fD (OF.fieldAddrO (tv (T.op 1 0) rfl) fa98_1) rfl rfl ?_
    refine lD (OL.loadO1 (t := (rd 2 eClue b.Clues)) (tv (T.op 1 3) rfl) rfl rfl st30) rfl rfl ?_
    refine mD (tN i) rfl rfl ?_
    obtain ⟨x2, hx2⟩ : ∃ x, b.Clues[i]? = some x := ⟨_, List.getElem?_eq_getElem (by first | exact Nat.le_trans (zL_at hx1) (by omega) | exact Nat.le_trans (zL_at hx2) (by omega) | omega)⟩
    refine fD (OF.indexAddrR (row := (eClue false x2)) (i := i) (tv (rd 2 eClue b.Clues) rfl) (tv (tN i) rfl) rfl (map_at _ hx2) Try.underlying30 sz70 if70) rfl rfl ?_
    refine lD (OL.loadRn (us := (eClue false x2)) (tv (T.rp (eClue false x2)) rfl) st70 sz70 (Nat.le_of_ble_eq_true rfl) rfl) rfl rfl ?_
    refine VRunD.quiet (bi := [8, 7, 5, 6, 9, 3, 2, 0, 1, 4]) rfl VWant.always rfl rfl rfl (ball_nil) (cS (vc (tv (T.agg (eClue false x1)) rfl) (vc (tv (T.agg (eClue false x2)) rfl) VEvs.nil)) (LendL.cons (lg okeClue) (LendL.cons (lg okeClue) (LendL.nil))) (W_spec_l21SameClue (n + 0) x1 x2 (by first | exact Nat.le_trans (zL_at hx1) (by omega) | exact Nat.le_trans (zL_at hx2) (by omega) | assumption | omega) (by first | exact Nat.le_trans (zL_at hx1) (by omega) | exact Nat.le_trans (zL_at hx2) (by omega) | assumption | omega)) rfl rfl) ?_
    refine fD (B.not (c := (!(decide (x1 = x2)))) (tv (tB (decide (x1 = x2))) rfl) rfl) rfl rfl ?_
    refine VRunD.nil ?_
    refine tn ?_
    refine VRun.cond (tv (tB (!(decide (x1 = x2)))) rfl) (fun hc2 => ?_) (fun hc2 => ?_)
    · have fhc2 : ¬ (x1 = x2) := ndT hc2
      refine sr ?_
      refine fO (OF.assign (VEv.bool false)) ?_
      refine nt ?_
      refine rt ?_
      refine vinB.r ?_
      refine tr ?_
      refine tr ?_
      refine vinB.r ?_
      refine tr ?_
      refine vb (b' := false) rfl ?_
      first | (symm; rw [decide_eq_true_eq]; have h := agree_all hI' (by omega) fhc1; obtain ⟨a1, a2, a3, a4⟩ := a; obtain ⟨b1, b2, b3, b4⟩ := b; simp_all; done) | (symm; rw [decide_eq_false_iff_not]; rintro rfl; first | (exact fhc0 rfl) | (exact agree_not hx1 hx2 fhc2 rfl) | (simp_all; done))
    have fhc2 : x1 = x2 := ndF hc2
    refine sk ?_
    refine vinB.n ?_
    refine tn ?_
    refine VRun.region ?_
    refine mO (tN i) rfl ?_
    refine fO (B.add (n := (((i + 1) : Nat) : Int)) (tv (tN i) rfl) (VEv.int .i64 1) (by first | exact Nat.le_trans (zL_at hx1) (by omega) | exact Nat.le_trans (zL_at hx2) (by omega) | rfl | (rw [wrap64 (by omega)]; omega) | (rw [wrap64 (by omega)]; done))) ?_
    refine aO (tN (i + 1)) rfl ?_
    refine VRunO.nil ?_
    refine tn ?_
    refine ⟨(i + 1 : Nat), ?_, ?_, Wk.mk (fun k => k) ?_ ?_ ?_⟩
    · exact agree_next hI' hx1 hx2 fhc2
    · first | omega | (simp only []; omega) | (show _ < _; omega) | (simp; omega)
    · exact (ball_cons ⟨rfl, rfl⟩ (ball_cons ⟨rfl, rfl⟩ (ball_cons ⟨rfl, rfl⟩ (ball_nil))))
    · exact (ball_cons ⟨rfl, (Nat.le_of_ble_eq_true rfl), rfl⟩ (ball_cons ⟨rfl, (Nat.le_of_ble_eq_true rfl), rfl⟩ (ball_nil)))
    · show List.Nodup ([0, 1] : List Nat)
      decide
  have fhc1 : ¬ (i < a.Clues.length) := of_decide_eq_false hc1
  refine VRun.exit ?_
  refine vthn.e ?_
  refine vthn.e ?_
  refine vinB.e ?_
  refine tn ?_
  refine sr ?_
  refine fO (OF.assign (VEv.bool true)) ?_
  refine nt ?_
  refine rt ?_
  refine vb (b' := true) rfl ?_
  first | (symm; rw [decide_eq_true_eq]; have h := agree_all hI' (by omega) fhc1; obtain ⟨a1, a2, a3, a4⟩ := a; obtain ⟨b1, b2, b3, b4⟩ := b; simp_all; done) | (symm; rw [decide_eq_false_iff_not]; rintro rfl; first | (exact fhc0 rfl) | (exact agree_not hx1 hx2 fhc2 rfl) | (simp_all; done))
theorem W_impl_EqualIssues (n : Nat) (a : D.Issue) (b : D.Issue) (hza : zIssue a ≤ mx) (hzb : zIssue b ≤ mx) : Pure (acall Try.prog (n + 5)) 73 [(T.agg (eIssue false a)), (T.agg (eIssue false b))] (tB (decide (a = b))) := by
  refine Pure.intro (rs := [ResultVar.tmp 4]) Try.func73 rfl rfl rfl (E0 := [(0, (T.agg (eIssue false a))), (1, (T.agg (eIssue false b)))]) rfl ?_
  have hlim : lim = 1099511627776 := rfl
  have hmx : mx = 1048576 := rfl
  have hmax : maxLen = 9223372036854775807 := rfl
  simp only [zIssue] at hza hzb
  refine sr ?_
  refine kO (B.box (ts := (eIssue false a)) (tv (T.agg (eIssue false a)) rfl) nofun rfl) ?_
  refine kO (B.box (ts := (eIssue false b)) (tv (T.agg (eIssue false b)) rfl) nofun rfl) ?_
  refine fO (OF.assign (VEv.bool false)) ?_
  refine nt ?_
  refine sr ?_
  refine fO (OF.fieldAddrO (tv (T.op 0 0) rfl) fa100_0) ?_
  refine lO (OL.loadO1 (t := (tI a.Number)) (tv (T.op 0 0) rfl) rfl rfl st3) ?_
  refine fO (OF.fieldAddrO (tv (T.op 1 0) rfl) fa100_0) ?_
  refine lO (OL.loadO1 (t := (tI b.Number)) (tv (T.op 1 0) rfl) rfl rfl st3) ?_
  refine fO (B.eql (c := (decide (a.Number = b.Number))) (tv (tI a.Number) rfl) (tv (tI b.Number) rfl) rfl) ?_
  refine mO (tB (decide (a.Number = b.Number))) rfl ?_
  refine bool_way (decide (a.Number = b.Number)) (fun hg10_1 => ?_) (fun hg10_1 => ?_)
  · have fhg10_1 : a.Number = b.Number := of_decide_eq_true hg10_1
    refine gF hg10_1 rfl rfl (OF.fieldAddrO (tv (T.op 0 0) rfl) fa100_1) ?_
    refine gL hg10_1 rfl rfl (OL.loadOn (us := (ePuzzle false a.Puzzle)) (tv (T.op 0 1) rfl) rfl st98 sz98 (Nat.le_of_ble_eq_true rfl) rfl) ?_
    refine gF hg10_1 rfl rfl (OF.fieldAddrO (tv (T.op 1 0) rfl) fa100_1) ?_
    refine gL hg10_1 rfl rfl (OL.loadOn (us := (ePuzzle false b.Puzzle)) (tv (T.op 1 1) rfl) rfl st98 sz98 (Nat.le_of_ble_eq_true rfl) rfl) ?_
    refine VRunO.chain (VWant.on (b := (decide (a.Number = b.Number))) rfl rfl hg10_1) (cS (vc (tv (T.agg (ePuzzle false a.Puzzle)) rfl) (vc (tv (T.agg (ePuzzle false b.Puzzle)) rfl) VEvs.nil)) (LendL.cons (lg okePuzzle) (LendL.cons (lg okePuzzle) (LendL.nil))) (W_impl_EqualPuzzles (n + 0) a.Puzzle b.Puzzle (by first | assumption | omega) (by first | assumption | omega)) rfl rfl) ?_
    refine fO (OF.pickT (VEv.tmpB (b := (decide (a.Number = b.Number))) rfl hg10_1) (tv (tB (decide (a.Puzzle = b.Puzzle))) rfl)) ?_
    refine mO (tB (decide (a.Puzzle = b.Puzzle))) rfl ?_
    refine bool_way (decide (a.Puzzle = b.Puzzle)) (fun hg17_2 => ?_) (fun hg17_2 => ?_)
    · have fhg17_2 : a.Puzzle = b.Puzzle := of_decide_eq_true hg17_2
      refine gF hg17_2 rfl rfl (OF.fieldAddrO (tv (T.op 0 0) rfl) fa100_2) ?_
      refine gL hg17_2 rfl rfl (OL.loadO1 (t := (tS a.Fill)) (tv (T.op 0 7) rfl) rfl rfl st9) ?_
      refine gF hg17_2 rfl rfl (OF.fieldAddrO (tv (T.op 1 0) rfl) fa100_2) ?_
      refine gL hg17_2 rfl rfl (OL.loadO1 (t := (tS b.Fill)) (tv (T.op 1 7) rfl) rfl rfl st9) ?_
      refine gF hg17_2 rfl rfl (B.seql (c := (decide (a.Fill = b.Fill))) (tv (tS a.Fill) rfl) (tv (tS b.Fill) rfl) rfl) ?_
      refine fO (OF.pickT (VEv.tmpB (b := (decide (a.Puzzle = b.Puzzle))) rfl hg17_2) (tv (tB (decide (a.Fill = b.Fill))) rfl)) ?_
      refine mO (tB (decide (a.Fill = b.Fill))) rfl ?_
      refine bool_way (decide (a.Fill = b.Fill)) (fun hg24_3 => ?_) (fun hg24_3 => ?_)
      · have fhg24_3 : a.Fill = b.Fill := of_decide_eq_true hg24_3
        refine gF hg24_3 rfl rfl (OF.fieldAddrO (tv (T.op 0 0) rfl) fa100_3) ?_
        refine gL hg24_3 rfl rfl (OL.loadO1 (t := (tI a.Open)) (tv (T.op 0 8) rfl) rfl rfl st3) ?_
        refine gF hg24_3 rfl rfl (OF.fieldAddrO (tv (T.op 1 0) rfl) fa100_3) ?_
        refine gL hg24_3 rfl rfl (OL.loadO1 (t := (tI b.Open)) (tv (T.op 1 8) rfl) rfl rfl st3) ?_
        refine gF hg24_3 rfl rfl (B.eql (c := (decide (a.Open = b.Open))) (tv (tI a.Open) rfl) (tv (tI b.Open) rfl) rfl) ?_
        refine fO (OF.pickT (VEv.tmpB (b := (decide (a.Fill = b.Fill))) rfl hg24_3) (tv (tB (decide (a.Open = b.Open))) rfl)) ?_
        refine mO (tB (decide (a.Open = b.Open))) rfl ?_
        refine bool_way (decide (a.Open = b.Open)) (fun hg31_4 => ?_) (fun hg31_4 => ?_)
        · have fhg31_4 : a.Open = b.Open := of_decide_eq_true hg31_4
          refine gF hg31_4 rfl rfl (OF.fieldAddrO (tv (T.op 0 0) rfl) fa100_4) ?_
          refine gL hg31_4 rfl rfl (OL.loadO1 (t := (tI a.Close)) (tv (T.op 0 9) rfl) rfl rfl st3) ?_
          refine gF hg31_4 rfl rfl (OF.fieldAddrO (tv (T.op 1 0) rfl) fa100_4) ?_
          refine gL hg31_4 rfl rfl (OL.loadO1 (t := (tI b.Close)) (tv (T.op 1 9) rfl) rfl rfl st3) ?_
          refine gF hg31_4 rfl rfl (B.eql (c := (decide (a.Close = b.Close))) (tv (tI a.Close) rfl) (tv (tI b.Close) rfl) rfl) ?_
          refine fO (OF.pickT (VEv.tmpB (b := (decide (a.Open = b.Open))) rfl hg31_4) (tv (tB (decide (a.Close = b.Close))) rfl)) ?_
          refine aO (tB (decide (a.Close = b.Close))) rfl ?_
          refine nt ?_
          refine rt ?_
          refine vb (b' := (decide (a.Close = b.Close))) rfl ?_
          obtain ⟨a1, a2, a3, a4, a5⟩ := a
          obtain ⟨b1, b2, b3, b4, b5⟩ := b
          simp_all
        have fhg31_4 : ¬ (a.Open = b.Open) := of_decide_eq_false hg31_4
        refine oO rfl rfl hg31_4 ?_
        refine oO rfl rfl hg31_4 ?_
        refine oO rfl rfl hg31_4 ?_
        refine oO rfl rfl hg31_4 ?_
        refine oO rfl rfl hg31_4 ?_
        refine fO (OF.pickF (VEv.tmpB (b := (decide (a.Open = b.Open))) rfl hg31_4) (VEv.bool false)) ?_
        refine aO (tB false) rfl ?_
        refine nt ?_
        refine rt ?_
        refine vb (b' := false) rfl ?_
        obtain ⟨a1, a2, a3, a4, a5⟩ := a
        obtain ⟨b1, b2, b3, b4, b5⟩ := b
        simp_all
      have fhg24_3 : ¬ (a.Fill = b.Fill) := of_decide_eq_false hg24_3
      refine oO rfl rfl hg24_3 ?_
      refine oO rfl rfl hg24_3 ?_
      refine oO rfl rfl hg24_3 ?_
      refine oO rfl rfl hg24_3 ?_
      refine oO rfl rfl hg24_3 ?_
      refine fO (OF.pickF (VEv.tmpB (b := (decide (a.Fill = b.Fill))) rfl hg24_3) (VEv.bool false)) ?_
      refine mO (tB false) rfl ?_
      refine VRunO.off (VWant.not (b := false) rfl rfl rfl) ?_
      refine VRunO.off (VWant.not (b := false) rfl rfl rfl) ?_
      refine VRunO.off (VWant.not (b := false) rfl rfl rfl) ?_
      refine VRunO.off (VWant.not (b := false) rfl rfl rfl) ?_
      refine VRunO.off (VWant.not (b := false) rfl rfl rfl) ?_
      refine fO (OF.pickF (tv (tB false) rfl) (VEv.bool false)) ?_
      refine aO (tB false) rfl ?_
      refine nt ?_
      refine rt ?_
      refine vb (b' := false) rfl ?_
      obtain ⟨a1, a2, a3, a4, a5⟩ := a
      obtain ⟨b1, b2, b3, b4, b5⟩ := b
      simp_all
    have fhg17_2 : ¬ (a.Puzzle = b.Puzzle) := of_decide_eq_false hg17_2
    refine oO rfl rfl hg17_2 ?_
    refine oO rfl rfl hg17_2 ?_
    refine oO rfl rfl hg17_2 ?_
    refine oO rfl rfl hg17_2 ?_
    refine oO rfl rfl hg17_2 ?_
    refine fO (OF.pickF (VEv.tmpB (b := (decide (a.Puzzle = b.Puzzle))) rfl hg17_2) (VEv.bool false)) ?_
    refine mO (tB false) rfl ?_
    refine VRunO.off (VWant.not (b := false) rfl rfl rfl) ?_
    refine VRunO.off (VWant.not (b := false) rfl rfl rfl) ?_
    refine VRunO.off (VWant.not (b := false) rfl rfl rfl) ?_
    refine VRunO.off (VWant.not (b := false) rfl rfl rfl) ?_
    refine VRunO.off (VWant.not (b := false) rfl rfl rfl) ?_
    refine fO (OF.pickF (tv (tB false) rfl) (VEv.bool false)) ?_
    refine mO (tB false) rfl ?_
    refine VRunO.off (VWant.not (b := false) rfl rfl rfl) ?_
    refine VRunO.off (VWant.not (b := false) rfl rfl rfl) ?_
    refine VRunO.off (VWant.not (b := false) rfl rfl rfl) ?_
    refine VRunO.off (VWant.not (b := false) rfl rfl rfl) ?_
    refine VRunO.off (VWant.not (b := false) rfl rfl rfl) ?_
    refine fO (OF.pickF (tv (tB false) rfl) (VEv.bool false)) ?_
    refine aO (tB false) rfl ?_
    refine nt ?_
    refine rt ?_
    refine vb (b' := false) rfl ?_
    obtain ⟨a1, a2, a3, a4, a5⟩ := a
    obtain ⟨b1, b2, b3, b4, b5⟩ := b
    simp_all
  have fhg10_1 : ¬ (a.Number = b.Number) := of_decide_eq_false hg10_1
  refine oO rfl rfl hg10_1 ?_
  refine oO rfl rfl hg10_1 ?_
  refine oO rfl rfl hg10_1 ?_
  refine oO rfl rfl hg10_1 ?_
  refine oO rfl rfl hg10_1 ?_
  refine fO (OF.pickF (VEv.tmpB (b := (decide (a.Number = b.Number))) rfl hg10_1) (VEv.bool false)) ?_
  refine mO (tB false) rfl ?_
  refine VRunO.off (VWant.not (b := false) rfl rfl rfl) ?_
  refine VRunO.off (VWant.not (b := false) rfl rfl rfl) ?_
  refine VRunO.off (VWant.not (b := false) rfl rfl rfl) ?_
  refine VRunO.off (VWant.not (b := false) rfl rfl rfl) ?_
  refine VRunO.off (VWant.not (b := false) rfl rfl rfl) ?_
  refine fO (OF.pickF (tv (tB false) rfl) (VEv.bool false)) ?_
  refine mO (tB false) rfl ?_
  refine VRunO.off (VWant.not (b := false) rfl rfl rfl) ?_
  refine VRunO.off (VWant.not (b := false) rfl rfl rfl) ?_
  refine VRunO.off (VWant.not (b := false) rfl rfl rfl) ?_
  refine VRunO.off (VWant.not (b := false) rfl rfl rfl) ?_
  refine VRunO.off (VWant.not (b := false) rfl rfl rfl) ?_
  refine fO (OF.pickF (tv (tB false) rfl) (VEv.bool false)) ?_
  refine mO (tB false) rfl ?_
  refine VRunO.off (VWant.not (b := false) rfl rfl rfl) ?_
  refine VRunO.off (VWant.not (b := false) rfl rfl rfl) ?_
  refine VRunO.off (VWant.not (b := false) rfl rfl rfl) ?_
  refine VRunO.off (VWant.not (b := false) rfl rfl rfl) ?_
  refine VRunO.off (VWant.not (b := false) rfl rfl rfl) ?_
  refine fO (OF.pickF (tv (tB false) rfl) (VEv.bool false)) ?_
  refine aO (tB false) rfl ?_
  refine nt ?_
  refine rt ?_
  refine vb (b' := false) rfl ?_
  obtain ⟨a1, a2, a3, a4, a5⟩ := a
  obtain ⟨b1, b2, b3, b4, b5⟩ := b
  simp_all
theorem W_spec_EqualIssues (n : Nat) (a : D.Issue) (b : D.Issue) (hza : zIssue a ≤ mx) (hzb : zIssue b ≤ mx) : Pure (acall Try.prog (n + 3)) 60 [(T.agg (eIssue false a)), (T.agg (eIssue false b))] (tB (decide (a = b))) := by
  refine Pure.intro (rs := [ResultVar.tmp 4]) Try.func60 rfl rfl rfl (E0 := [(0, (T.agg (eIssue false a))), (1, (T.agg (eIssue false b)))]) rfl ?_
  have hlim : lim = 1099511627776 := rfl
  have hmx : mx = 1048576 := rfl
  have hmax : maxLen = 9223372036854775807 := rfl
  simp only [zIssue] at hza hzb
  refine sr ?_
  refine kO (B.box (ts := (eIssue false a)) (tv (T.agg (eIssue false a)) rfl) nofun rfl) ?_
  refine kO (B.box (ts := (eIssue false b)) (tv (T.agg (eIssue false b)) rfl) nofun rfl) ?_
  refine fO (OF.assign (VEv.bool false)) ?_
  refine nt ?_
  refine sr ?_
  refine fO (OF.fieldAddrO (tv (T.op 0 0) rfl) fa100_0) ?_
  refine lO (OL.loadO1 (t := (tI a.Number)) (tv (T.op 0 0) rfl) rfl rfl st3) ?_
  refine fO (OF.fieldAddrO (tv (T.op 1 0) rfl) fa100_0) ?_
  refine lO (OL.loadO1 (t := (tI b.Number)) (tv (T.op 1 0) rfl) rfl rfl st3) ?_
  refine fO (B.eql (c := (decide (a.Number = b.Number))) (tv (tI a.Number) rfl) (tv (tI b.Number) rfl) rfl) ?_
  refine mO (tB (decide (a.Number = b.Number))) rfl ?_
  refine bool_way (decide (a.Number = b.Number)) (fun hg10_1 => ?_) (fun hg10_1 => ?_)
  · have fhg10_1 : a.Number = b.Number := of_decide_eq_true hg10_1
    refine gF hg10_1 rfl rfl (OF.fieldAddrO (tv (T.op 0 0) rfl) fa100_2) ?_
    refine gL hg10_1 rfl rfl (OL.loadO1 (t := (tS a.Fill)) (tv (T.op 0 7) rfl) rfl rfl st9) ?_
    refine gF hg10_1 rfl rfl (OF.fieldAddrO (tv (T.op 1 0) rfl) fa100_2) ?_
    refine gL hg10_1 rfl rfl (OL.loadO1 (t := (tS b.Fill)) (tv (T.op 1 7) rfl) rfl rfl st9) ?_
    refine gF hg10_1 rfl rfl (B.seql (c := (decide (a.Fill = b.Fill))) (tv (tS a.Fill) rfl) (tv (tS b.Fill) rfl) rfl) ?_
    refine fO (OF.pickT (VEv.tmpB (b := (decide (a.Number = b.Number))) rfl hg10_1) (tv (tB (decide (a.Fill = b.Fill))) rfl)) ?_
    refine mO (tB (decide (a.Fill = b.Fill))) rfl ?_
    refine bool_way (decide (a.Fill = b.Fill)) (fun hg17_2 => ?_) (fun hg17_2 => ?_)
    · have fhg17_2 : a.Fill = b.Fill := of_decide_eq_true hg17_2
      refine gF hg17_2 rfl rfl (OF.fieldAddrO (tv (T.op 0 0) rfl) fa100_3) ?_
      refine gL hg17_2 rfl rfl (OL.loadO1 (t := (tI a.Open)) (tv (T.op 0 8) rfl) rfl rfl st3) ?_
      refine gF hg17_2 rfl rfl (OF.fieldAddrO (tv (T.op 1 0) rfl) fa100_3) ?_
      refine gL hg17_2 rfl rfl (OL.loadO1 (t := (tI b.Open)) (tv (T.op 1 8) rfl) rfl rfl st3) ?_
      refine gF hg17_2 rfl rfl (B.eql (c := (decide (a.Open = b.Open))) (tv (tI a.Open) rfl) (tv (tI b.Open) rfl) rfl) ?_
      refine fO (OF.pickT (VEv.tmpB (b := (decide (a.Fill = b.Fill))) rfl hg17_2) (tv (tB (decide (a.Open = b.Open))) rfl)) ?_
      refine mO (tB (decide (a.Open = b.Open))) rfl ?_
      refine bool_way (decide (a.Open = b.Open)) (fun hg24_3 => ?_) (fun hg24_3 => ?_)
      · have fhg24_3 : a.Open = b.Open := of_decide_eq_true hg24_3
        refine gF hg24_3 rfl rfl (OF.fieldAddrO (tv (T.op 0 0) rfl) fa100_4) ?_
        refine gL hg24_3 rfl rfl (OL.loadO1 (t := (tI a.Close)) (tv (T.op 0 9) rfl) rfl rfl st3) ?_
        refine gF hg24_3 rfl rfl (OF.fieldAddrO (tv (T.op 1 0) rfl) fa100_4) ?_
        refine gL hg24_3 rfl rfl (OL.loadO1 (t := (tI b.Close)) (tv (T.op 1 9) rfl) rfl rfl st3) ?_
        refine gF hg24_3 rfl rfl (B.eql (c := (decide (a.Close = b.Close))) (tv (tI a.Close) rfl) (tv (tI b.Close) rfl) rfl) ?_
        refine fO (OF.pickT (VEv.tmpB (b := (decide (a.Open = b.Open))) rfl hg24_3) (tv (tB (decide (a.Close = b.Close))) rfl)) ?_
        refine mO (tB (decide (a.Close = b.Close))) rfl ?_
        refine bool_way (decide (a.Close = b.Close)) (fun hg31_4 => ?_) (fun hg31_4 => ?_)
        · have fhg31_4 : a.Close = b.Close := of_decide_eq_true hg31_4
          refine gF hg31_4 rfl rfl (OF.fieldAddrO (tv (T.op 0 0) rfl) fa100_1) ?_
          refine gL hg31_4 rfl rfl (OL.loadOn (us := (ePuzzle false a.Puzzle)) (tv (T.op 0 1) rfl) rfl st98 sz98 (Nat.le_of_ble_eq_true rfl) rfl) ?_
          refine gF hg31_4 rfl rfl (OF.fieldAddrO (tv (T.op 1 0) rfl) fa100_1) ?_
          refine gL hg31_4 rfl rfl (OL.loadOn (us := (ePuzzle false b.Puzzle)) (tv (T.op 1 1) rfl) rfl st98 sz98 (Nat.le_of_ble_eq_true rfl) rfl) ?_
          refine VRunO.chain (VWant.on (b := (decide (a.Close = b.Close))) rfl rfl hg31_4) (cS (vc (tv (T.agg (ePuzzle false a.Puzzle)) rfl) (vc (tv (T.agg (ePuzzle false b.Puzzle)) rfl) VEvs.nil)) (LendL.cons (lg okePuzzle) (LendL.cons (lg okePuzzle) (LendL.nil))) (W_spec_EqualPuzzles (n + 0) a.Puzzle b.Puzzle (by first | assumption | omega) (by first | assumption | omega)) rfl rfl) ?_
          refine fO (OF.pickT (VEv.tmpB (b := (decide (a.Close = b.Close))) rfl hg31_4) (tv (tB (decide (a.Puzzle = b.Puzzle))) rfl)) ?_
          refine aO (tB (decide (a.Puzzle = b.Puzzle))) rfl ?_
          refine nt ?_
          refine rt ?_
          refine vb (b' := (decide (a.Puzzle = b.Puzzle))) rfl ?_
          obtain ⟨a1, a2, a3, a4, a5⟩ := a
          obtain ⟨b1, b2, b3, b4, b5⟩ := b
          simp_all
        have fhg31_4 : ¬ (a.Close = b.Close) := of_decide_eq_false hg31_4
        refine oO rfl rfl hg31_4 ?_
        refine oO rfl rfl hg31_4 ?_
        refine oO rfl rfl hg31_4 ?_
        refine oO rfl rfl hg31_4 ?_
        refine oO rfl rfl hg31_4 ?_
        refine fO (OF.pickF (VEv.tmpB (b := (decide (a.Close = b.Close))) rfl hg31_4) (VEv.bool false)) ?_
        refine aO (tB false) rfl ?_
        refine nt ?_
        refine rt ?_
        refine vb (b' := false) rfl ?_
        obtain ⟨a1, a2, a3, a4, a5⟩ := a
        obtain ⟨b1, b2, b3, b4, b5⟩ := b
        simp_all
      have fhg24_3 : ¬ (a.Open = b.Open) := of_decide_eq_false hg24_3
      refine oO rfl rfl hg24_3 ?_
      refine oO rfl rfl hg24_3 ?_
      refine oO rfl rfl hg24_3 ?_
      refine oO rfl rfl hg24_3 ?_
      refine oO rfl rfl hg24_3 ?_
      refine fO (OF.pickF (VEv.tmpB (b := (decide (a.Open = b.Open))) rfl hg24_3) (VEv.bool false)) ?_
      refine mO (tB false) rfl ?_
      refine VRunO.off (VWant.not (b := false) rfl rfl rfl) ?_
      refine VRunO.off (VWant.not (b := false) rfl rfl rfl) ?_
      refine VRunO.off (VWant.not (b := false) rfl rfl rfl) ?_
      refine VRunO.off (VWant.not (b := false) rfl rfl rfl) ?_
      refine VRunO.off (VWant.not (b := false) rfl rfl rfl) ?_
      refine fO (OF.pickF (tv (tB false) rfl) (VEv.bool false)) ?_
      refine aO (tB false) rfl ?_
      refine nt ?_
      refine rt ?_
      refine vb (b' := false) rfl ?_
      obtain ⟨a1, a2, a3, a4, a5⟩ := a
      obtain ⟨b1, b2, b3, b4, b5⟩ := b
      simp_all
    have fhg17_2 : ¬ (a.Fill = b.Fill) := of_decide_eq_false hg17_2
    refine oO rfl rfl hg17_2 ?_
    refine oO rfl rfl hg17_2 ?_
    refine oO rfl rfl hg17_2 ?_
    refine oO rfl rfl hg17_2 ?_
    refine oO rfl rfl hg17_2 ?_
    refine fO (OF.pickF (VEv.tmpB (b := (decide (a.Fill = b.Fill))) rfl hg17_2) (VEv.bool false)) ?_
    refine mO (tB false) rfl ?_
    refine VRunO.off (VWant.not (b := false) rfl rfl rfl) ?_
    refine VRunO.off (VWant.not (b := false) rfl rfl rfl) ?_
    refine VRunO.off (VWant.not (b := false) rfl rfl rfl) ?_
    refine VRunO.off (VWant.not (b := false) rfl rfl rfl) ?_
    refine VRunO.off (VWant.not (b := false) rfl rfl rfl) ?_
    refine fO (OF.pickF (tv (tB false) rfl) (VEv.bool false)) ?_
    refine mO (tB false) rfl ?_
    refine VRunO.off (VWant.not (b := false) rfl rfl rfl) ?_
    refine VRunO.off (VWant.not (b := false) rfl rfl rfl) ?_
    refine VRunO.off (VWant.not (b := false) rfl rfl rfl) ?_
    refine VRunO.off (VWant.not (b := false) rfl rfl rfl) ?_
    refine VRunO.off (VWant.not (b := false) rfl rfl rfl) ?_
    refine fO (OF.pickF (tv (tB false) rfl) (VEv.bool false)) ?_
    refine aO (tB false) rfl ?_
    refine nt ?_
    refine rt ?_
    refine vb (b' := false) rfl ?_
    obtain ⟨a1, a2, a3, a4, a5⟩ := a
    obtain ⟨b1, b2, b3, b4, b5⟩ := b
    simp_all
  have fhg10_1 : ¬ (a.Number = b.Number) := of_decide_eq_false hg10_1
  refine oO rfl rfl hg10_1 ?_
  refine oO rfl rfl hg10_1 ?_
  refine oO rfl rfl hg10_1 ?_
  refine oO rfl rfl hg10_1 ?_
  refine oO rfl rfl hg10_1 ?_
  refine fO (OF.pickF (VEv.tmpB (b := (decide (a.Number = b.Number))) rfl hg10_1) (VEv.bool false)) ?_
  refine mO (tB false) rfl ?_
  refine VRunO.off (VWant.not (b := false) rfl rfl rfl) ?_
  refine VRunO.off (VWant.not (b := false) rfl rfl rfl) ?_
  refine VRunO.off (VWant.not (b := false) rfl rfl rfl) ?_
  refine VRunO.off (VWant.not (b := false) rfl rfl rfl) ?_
  refine VRunO.off (VWant.not (b := false) rfl rfl rfl) ?_
  refine fO (OF.pickF (tv (tB false) rfl) (VEv.bool false)) ?_
  refine mO (tB false) rfl ?_
  refine VRunO.off (VWant.not (b := false) rfl rfl rfl) ?_
  refine VRunO.off (VWant.not (b := false) rfl rfl rfl) ?_
  refine VRunO.off (VWant.not (b := false) rfl rfl rfl) ?_
  refine VRunO.off (VWant.not (b := false) rfl rfl rfl) ?_
  refine VRunO.off (VWant.not (b := false) rfl rfl rfl) ?_
  refine fO (OF.pickF (tv (tB false) rfl) (VEv.bool false)) ?_
  refine mO (tB false) rfl ?_
  refine VRunO.off (VWant.not (b := false) rfl rfl rfl) ?_
  refine VRunO.off (VWant.not (b := false) rfl rfl rfl) ?_
  refine VRunO.off (VWant.not (b := false) rfl rfl rfl) ?_
  refine VRunO.off (VWant.not (b := false) rfl rfl rfl) ?_
  refine VRunO.off (VWant.not (b := false) rfl rfl rfl) ?_
  refine fO (OF.pickF (tv (tB false) rfl) (VEv.bool false)) ?_
  refine aO (tB false) rfl ?_
  refine nt ?_
  refine rt ?_
  refine vb (b' := false) rfl ?_
  obtain ⟨a1, a2, a3, a4, a5⟩ := a
  obtain ⟨b1, b2, b3, b4, b5⟩ := b
  simp_all
end Go.Proofs.Ytfdefabncdddkaa.AE
