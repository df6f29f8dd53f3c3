/- Walks of the program's functions over trees. Conditions: as each theorem states. -/
import Derived.Test.YtfdefabncdddkaaKFnExactEqualHousesVclue
namespace Go.Proofs.Ytfdefabncdddkaa.AE
open Go Go.RowKit
set_option linter.unusedVariables false
set_option linter.unusedSimpArgs false
set_option maxRecDepth 20000
set_option maxHeartbeats 2000000

theorem W_slices_Equal_impl_Listed_impl_Listed_ (n : Nat) (a : List D.Listed) (b : List D.Listed) (hla : a.length ≤ mx) (hlb : b.length ≤ mx) : Pure (acall Try.prog (n + 1)) 69 [(rd 4 eListed a), (rd 4 eListed b)] (tB (decide (a = b))) := by
  refine Pure.intro (rs := [ResultVar.tmp 4]) Try.func69 rfl rfl rfl (E0 := [(0, (rd 4 eListed a)), (1, (rd 4 eListed b))]) rfl ?_
  have hlim : lim = 1099511627776 := rfl
  have hmx : mx = 1048576 := rfl
  have hmax : maxLen = 9223372036854775807 := rfl
  refine sr ?_
  refine fO (OF.assign (VEv.bool false)) ?_
  refine nt ?_
  refine sq ?_
  refine sr ?_
  refine mO (rd 4 eListed a) rfl ?_
  refine lO (B.lenR (m := a.length) (tv (rd 4 eListed a) rfl) Try.underlying46 (List.length_map ..)) ?_
  refine mO (rd 4 eListed b) rfl ?_
  refine lO (B.lenR (m := b.length) (tv (rd 4 eListed b) rfl) Try.underlying46 (List.length_map ..)) ?_
  refine fO (B.neq (c := (!(decide (a.length = b.length)))) (tv (tN a.length) rfl) (tv (tN b.length) rfl) (by first | (exact decNn (by omega)))) ?_
  refine nt ?_
  refine VRun.cond (tv (tB (!(decide (a.length = b.length)))) rfl) (fun hc0 => ?_) (fun hc0 => ?_)
  · have fhc0 : ¬ (a.length = b.length) := ndT hc0
    refine sr ?_
    refine fO (OF.assign (VEv.bool false)) ?_
    refine nt ?_
    refine rt ?_
    refine tr ?_
    refine vb (b' := false) rfl ?_
    symm; rw [decide_eq_false_iff_not]; rintro rfl; exact fhc0 rfl
  have fhc0 : a.length = b.length := ndF hc0
  refine sk ?_
  refine tn ?_
  refine sq ?_
  refine sr ?_
  refine mO (rd 4 eListed a) rfl ?_
  refine lO (B.lenR (m := a.length) (tv (rd 4 eListed a) rfl) Try.underlying46 (List.length_map ..)) ?_
  refine fO (OF.move (VEv.int .i64 0)) ?_
  refine nt ?_
  refine VRun.block ?_
  refine VRun.loop (A := Nat) (fun s_ => [(0, (rd 4 eListed a)), (1, (rd 4 eListed b)), (12, (tN a.length)), (13, (tN s_))]) (fun s_ => mkO []) 0 (fun s_ => s_ ≤ a.length ∧ ∀ j, j < s_ → a[j]? = b[j]?) (fun s_ => a.length - s_) (0 : Nat) ?_ (Wk.mk (fun k => k) ?_ ?_ ?_) ?_
  · first | trivial | (simp; done) | omega | (constructor <;> simp)
  · exact (ball_cons ⟨rfl, rfl⟩ (ball_cons ⟨rfl, rfl⟩ (ball_cons ⟨rfl, rfl⟩ (ball_cons ⟨rfl, rfl⟩ (ball_nil)))))
  · exact (ball_nil)
  · show List.Nodup ([] : List Nat)
    decide
  rintro i hI
  have hI' : i ≤ a.length ∧ ∀ j, j < i → a[j]? = b[j]? := hI
  clear hI
  show VRun _ _ _ [(0, (rd 4 eListed a)), (1, (rd 4 eListed b)), (12, (tN a.length)), (13, (tN i))] (mkO []) 0 _
  refine sr ?_
  refine fO (B.lss (c := (decide (i < a.length))) (tv (tN i) rfl) (tv (tN a.length) rfl) (by first | (exact decN (by omega)))) ?_
  refine nt ?_
  refine sq ?_
  refine VRun.cond (tv (tB (decide (i < a.length))) rfl) (fun hc1 => ?_) (fun hc1 => ?_)
  · have fhc1 : i < a.length := of_decide_eq_true hc1
    refine sk ?_
    refine tn ?_
    refine sq ?_
    refine VRun.block ?_
    refine sr ?_
    refine mO (tN i) rfl ?_
    refine aO (tN i) rfl ?_
    refine nt ?_
    refine sq ?_
    refine VRun.draw (B := [[], [], [1, 0], [0, 1, 2], [], [], [5, 4], [4, 5, 6], [6, 5, 4, 7, 2, 1, 0, 3]]) (by kernel_rfl) (by kernel_rfl) ?_
    refine mD (rd 4 eListed a) rfl rfl ?_
    refine mD (tN i) rfl rfl ?_
    obtain ⟨x1, hx1⟩ : ∃ x, a[i]? = some x := ⟨_, List.getElem?_eq_getElem (by first | omega)⟩
    refine fD (OF.indexAddrR (row := (eListed false x1)) (i := i) (tv (rd 4 eListed a) rfl) (tv (tN i) rfl) rfl (map_at _ hx1) Try.underlying46 sz111 if111) rfl rfl ?_
    refine lD (OL.loadRn (us := (eListed false x1)) (tv (T.rp (eListed false x1)) rfl) st111 sz111 (Nat.le_of_ble_eq_true rfl) rfl) rfl rfl ?_
    refine mD (rd 4 eListed b) rfl rfl ?_
    refine mD (tN i) rfl rfl ?_
    obtain ⟨x2, hx2⟩ : ∃ x, b[i]? = some x := ⟨_, List.getElem?_eq_getElem (by first | omega)⟩
    refine fD (OF.indexAddrR (row := (eListed false x2)) (i := i) (tv (rd 4 eListed b) rfl) (tv (tN i) rfl) rfl (map_at _ hx2) Try.underlying46 sz111 if111) rfl rfl ?_
    refine lD (OL.loadRn (us := (eListed false x2)) (tv (T.rp (eListed false x2)) rfl) st111 sz111 (Nat.le_of_ble_eq_true rfl) rfl) rfl rfl ?_
    refine fD (B.neq111 (a := x1) (b := x2) (m := false) (m' := false) (tv (T.agg (eListed false x1)) rfl) (tv (T.agg (eListed false x2)) rfl)) rfl rfl ?_
    refine VRunD.nil ?_
    refine tn ?_
    refine VRun.cond (tv (tB (!(decide (x1 = x2)))) rfl) (fun hc2 => ?_) (fun hc2 => ?_)
    · have fhc2 : ¬ (x1 = x2) := ndT hc2
      refine sr ?_
      refine fO (OF.assign (VEv.bool false)) ?_
      refine nt ?_
      refine rt ?_
      refine vinB.r ?_
      refine tr ?_
      refine tr ?_
      refine vinB.r ?_
      refine tr ?_
      refine vb (b' := false) rfl ?_
      symm; rw [decide_eq_false_iff_not]; exact agree_not hx1 hx2 fhc2
    have fhc2 : x1 = x2 := ndF hc2
    refine sk ?_
    refine vinB.n ?_
    refine tn ?_
    refine VRun.region ?_
    refine fO (B.add (n := (((i + 1) : Nat) : Int)) (tv (tN i) rfl) (VEv.int .i64 1) (by first | rfl | (rw [wrap64 (by omega)]; omega) | (rw [wrap64 (by omega)]; done))) ?_
    refine mO (tN (i + 1)) rfl ?_
    refine VRunO.nil ?_
    refine tn ?_
    refine ⟨(i + 1 : Nat), ?_, ?_, Wk.mk (fun k => k) ?_ ?_ ?_⟩
    · exact agree_next hI' hx1 hx2 fhc2
    · first | omega | (simp only []; omega) | (show _ < _; omega) | (simp; omega)
    · exact (ball_cons ⟨rfl, rfl⟩ (ball_cons ⟨rfl, rfl⟩ (ball_cons ⟨rfl, rfl⟩ (ball_cons ⟨rfl, rfl⟩ (ball_nil)))))
    · exact (ball_nil)
    · show List.Nodup ([] : List Nat)
      decide
  have fhc1 : ¬ (i < a.length) := of_decide_eq_false hc1
  refine VRun.exit ?_
  refine vthn.e ?_
  refine vthn.e ?_
  refine vinB.e ?_
  refine tn ?_
  refine sr ?_
  refine fO (OF.assign (VEv.bool true)) ?_
  refine nt ?_
  refine rt ?_
  refine vb (b' := true) rfl ?_
  symm; rw [decide_eq_true_eq]; exact agree_all hI' fhc0 fhc1
theorem W_slices_Equal_impl_Meaning_impl_Meaning_ (n : Nat) (a : List D.Meaning) (b : List D.Meaning) (hla : a.length ≤ mx) (hlb : b.length ≤ mx) : Pure (acall Try.prog (n + 1)) 70 [(rd 2 eMeaning a), (rd 2 eMeaning b)] (tB (decide (a = b))) := by
  refine Pure.intro (rs := [ResultVar.tmp 4]) Try.func70 rfl rfl rfl (E0 := [(0, (rd 2 eMeaning a)), (1, (rd 2 eMeaning b))]) rfl ?_
  have hlim : lim = 1099511627776 := rfl
  have hmx : mx = 1048576 := rfl
  have hmax : maxLen = 9223372036854775807 := rfl
  refine sr ?_
  refine fO (OF.assign (VEv.bool false)) ?_
  refine nt ?_
  refine sq ?_
  refine sr ?_
  refine mO (rd 2 eMeaning a) rfl ?_
  refine lO (B.lenR (m := a.length) (tv (rd 2 eMeaning a) rfl) Try.underlying47 (List.length_map ..)) ?_
  refine mO (rd 2 eMeaning b) rfl ?_
  refine lO (B.lenR (m := b.length) (tv (rd 2 eMeaning b) rfl) Try.underlying47 (List.length_map ..)) ?_
  refine fO (B.neq (c := (!(decide (a.length = b.length)))) (tv (tN a.length) rfl) (tv (tN b.length) rfl) (by first | (exact decNn (by omega)))) ?_
  refine nt ?_
  refine VRun.cond (tv (tB (!(decide (a.length = b.length)))) rfl) (fun hc0 => ?_) (fun hc0 => ?_)
  · have fhc0 : ¬ (a.length = b.length) := ndT hc0
    refine sr ?_
    refine fO (OF.assign (VEv.bool false)) ?_
    refine nt ?_
    refine rt ?_
    refine tr ?_
    refine vb (b' := false) rfl ?_
    symm; rw [decide_eq_false_iff_not]; rintro rfl; exact fhc0 rfl
  have fhc0 : a.length = b.length := ndF hc0
  refine sk ?_
  refine tn ?_
  refine sq ?_
  refine sr ?_
  refine mO (rd 2 eMeaning a) rfl ?_
  refine lO (B.lenR (m := a.length) (tv (rd 2 eMeaning a) rfl) Try.underlying47 (List.length_map ..)) ?_
  refine fO (OF.move (VEv.int .i64 0)) ?_
  refine nt ?_
  refine VRun.block ?_
  refine VRun.loop (A := Nat) (fun s_ => [(0, (rd 2 eMeaning a)), (1, (rd 2 eMeaning b)), (12, (tN a.length)), (13, (tN s_))]) (fun s_ => mkO []) 0 (fun s_ => s_ ≤ a.length ∧ ∀ j, j < s_ → a[j]? = b[j]?) (fun s_ => a.length - s_) (0 : Nat) ?_ (Wk.mk (fun k => k) ?_ ?_ ?_) ?_
  · first | trivial | (simp; done) | omega | (constructor <;> simp)
  · exact (ball_cons ⟨rfl, rfl⟩ (ball_cons ⟨rfl, rfl⟩ (ball_cons ⟨rfl, rfl⟩ (ball_cons ⟨rfl, rfl⟩ (ball_nil)))))
  · exact (ball_nil)
  · show List.Nodup ([] : List Nat)
    decide
  rintro i hI
  have hI' : i ≤ a.length ∧ ∀ j, j < i → a[j]? = b[j]? := hI
  clear hI
  show VRun _ _ _ [(0, (rd 2 eMeaning a)), (1, (rd 2 eMeaning b)), (12, (tN a.length)), (13, (tN i))] (mkO []) 0 _
  refine sr ?_
  refine fO (B.lss (c := (decide (i < a.length))) (tv (tN i) rfl) (tv (tN a.length) rfl) (by first | (exact decN (by omega)))) ?_
  refine nt ?_
  refine sq ?_
  refine VRun.cond (tv (tB (decide (i < a.length))) rfl) (fun hc1 => ?_) (fun hc1 => ?_)
  · have fhc1 : i < a.length := of_decide_eq_true hc1
    refine sk ?_
    refine tn ?_
    refine sq ?_
    refine VRun.block ?_
    refine sr ?_
    refine mO (tN i) rfl ?_
    refine aO (tN i) rfl ?_
    refine nt ?_
    refine sq ?_
    refine VRun.draw (B := [[], [], [1, 0], [0, 1, 2], [], [], [5, 4], [4, 5, 6], [6, 5, 4, 7, 2, 1, 0, 3]]) (by kernel_rfl) (by kernel_rfl) ?_
    refine mD (rd 2 eMeaning a) rfl rfl ?_
    refine mD (tN i) rfl rfl ?_
    obtain ⟨x1, hx1⟩ : ∃ x, a[i]? = some x := ⟨_, List.getElem?_eq_getElem (by first | omega)⟩
    refine fD (OF.indexAddrR (row := (eMeaning false x1)) (i := i) (tv (rd 2 eMeaning a) rfl) (tv (tN i) rfl) rfl (map_at _ hx1) Try.underlying47 sz114 if114) rfl rfl ?_
    refine lD (OL.loadRn (us := (eMeaning false x1)) (tv (T.rp (eMeaning false x1)) rfl) st114 sz114 (Nat.le_of_ble_eq_true rfl) rfl) rfl rfl ?_
    refine mD (rd 2 eMeaning b) rfl rfl ?_
    refine mD (tN i) rfl rfl ?_
    obtain ⟨x2, hx2⟩ : ∃ x, b[i]? = some x := ⟨_, List.getElem?_eq_getElem (by first | omega)⟩
    refine fD (OF.indexAddrR (row := (eMeaning false x2)) (i := i) (tv (rd 2 eMeaning b) rfl) (tv (tN i) rfl) rfl (map_at _ hx2) Try.underlying47 sz114 if114) rfl rfl ?_
    refine lD (OL.loadRn (us := (eMeaning false x2)) (tv (T.rp (eMeaning false x2)) rfl) st114 sz114 (Nat.le_of_ble_eq_true rfl) rfl) rfl rfl ?_
    refine fD (B.neq114 (a := x1) (b := x2) (m := false) (m' := false) (tv (T.agg (eMeaning false x1)) rfl) (tv (T.agg (eMeaning false x2)) rfl)) rfl rfl ?_
    refine VRunD.nil ?_
    refine tn ?_
    refine VRun.cond (tv (tB (!(decide (x1 = x2)))) rfl) (fun hc2 => ?_) (fun hc2 => ?_)
    · have fhc2 : ¬ (x1 = x2) := ndT hc2
      refine sr ?_
      refine fO (OF.assign (VEv.bool false)) ?_
      refine nt ?_
      refine rt ?_
      refine vinB.r ?_
      refine tr ?_
      refine tr ?_
      refine vinB.r ?_
      refine tr ?_
      refine vb (b' := false) rfl ?_
      symm; rw [decide_eq_false_iff_not]; exact agree_not hx1 hx2 fhc2
    have fhc2 : x1 = x2 := ndF hc2
    refine sk ?_
    refine vinB.n ?_
    refine tn ?_
    refine VRun.region ?_
    refine fO (B.add (n := (((i + 1) : Nat) : Int)) (tv (tN i) rfl) (VEv.int .i64 1) (by first | rfl | (rw [wrap64 (by omega)]; omega) | (rw [wrap64 (by omega)]; done))) ?_
    refine mO (tN (i + 1)) rfl ?_
    refine VRunO.nil ?_
    refine tn ?_
    refine ⟨(i + 1 : Nat), ?_, ?_, Wk.mk (fun k => k) ?_ ?_ ?_⟩
    · exact agree_next hI' hx1 hx2 fhc2
    · first | omega | (simp only []; omega) | (show _ < _; omega) | (simp; omega)
    · exact (ball_cons ⟨rfl, rfl⟩ (ball_cons ⟨rfl, rfl⟩ (ball_cons ⟨rfl, rfl⟩ (ball_cons ⟨rfl, rfl⟩ (ball_nil)))))
    · exact (ball_nil)
    · show List.Nodup ([] : List Nat)
      decide
  have fhc1 : ¬ (i < a.length) := of_decide_eq_false hc1
  refine VRun.exit ?_
  refine vthn.e ?_
  refine vthn.e ?_
  refine vinB.e ?_
  refine tn ?_
  refine sr ?_
  refine fO (OF.assign (VEv.bool true)) ?_
  refine nt ?_
  refine rt ?_
  refine vb (b' := true) rfl ?_
  symm; rw [decide_eq_true_eq]; exact agree_all hI' fhc0 fhc1
theorem W_slices_Equal_impl_Used_impl_Used_ (n : Nat) (a : List D.Used) (b : List D.Used) (hla : a.length ≤ mx) (hlb : b.length ≤ mx) : Pure (acall Try.prog (n + 1)) 74 [(rd 2 eUsed a), (rd 2 eUsed b)] (tB (decide (a = b))) := by
  refine Pure.intro (rs := [ResultVar.tmp 4]) Try.func74 rfl rfl rfl (E0 := [(0, (rd 2 eUsed a)), (1, (rd 2 eUsed b))]) rfl ?_
  have hlim : lim = 1099511627776 := rfl
  have hmx : mx = 1048576 := rfl
  have hmax : maxLen = 9223372036854775807 := rfl
  refine sr ?_
  refine fO (OF.assign (VEv.bool false)) ?_
  refine nt ?_
  refine sq ?_
  refine sr ?_
  refine mO (rd 2 eUsed a) rfl ?_
  refine lO (B.lenR (m := a.length) (tv (rd 2 eUsed a) rfl) Try.underlying49 (List.length_map ..)) ?_
  refine mO (rd 2 eUsed b) rfl ?_
  refine lO (B.lenR (m := b.length) (tv (rd 2 eUsed b) rfl) Try.underlying49 (List.length_map ..)) ?_
  refine fO (B.neq (c := (!(decide (a.length = b.length)))) (tv (tN a.length) rfl) (tv (tN b.length) rfl) (by first | (exact decNn (by omega)))) ?_
  refine nt ?_
  refine VRun.cond (tv (tB (!(decide (a.length = b.length)))) rfl) (fun hc0 => ?_) (fun hc0 => ?_)
  · have fhc0 : ¬ (a.length = b.length) := ndT hc0
    refine sr ?_
    refine fO (OF.assign (VEv.bool false)) ?_
    refine nt ?_
    refine rt ?_
    refine tr ?_
    refine vb (b' := false) rfl ?_
    symm; rw [decide_eq_false_iff_not]; rintro rfl; exact fhc0 rfl
  have fhc0 : a.length = b.length := ndF hc0
  refine sk ?_
  refine tn ?_
  refine sq ?_
  refine sr ?_
  refine mO (rd 2 eUsed a) rfl ?_
  refine lO (B.lenR (m := a.length) (tv (rd 2 eUsed a) rfl) Try.underlying49 (List.length_map ..)) ?_
  refine fO (OF.move (VEv.int .i64 0)) ?_
  refine nt ?_
  refine VRun.block ?_
  refine VRun.loop (A := Nat) (fun s_ => [(0, (rd 2 eUsed a)), (1, (rd 2 eUsed b)), (12, (tN a.length)), (13, (tN s_))]) (fun s_ => mkO []) 0 (fun s_ => s_ ≤ a.length ∧ ∀ j, j < s_ → a[j]? = b[j]?) (fun s_ => a.length - s_) (0 : Nat) ?_ (Wk.mk (fun k => k) ?_ ?_ ?_) ?_
  · first | trivial | (simp; done) | omega | (constructor <;> simp)
  · exact (ball_cons ⟨rfl, rfl⟩ (ball_cons ⟨rfl, rfl⟩ (ball_cons ⟨rfl, rfl⟩ (ball_cons ⟨rfl, rfl⟩ (ball_nil)))))
  · exact (ball_nil)
  · show List.Nodup ([] : List Nat)
    decide
  rintro i hI
  have hI' : i ≤ a.length ∧ ∀ j, j < i → a[j]? = b[j]? := hI
  clear hI
  show VRun _ _ _ [(0, (rd 2 eUsed a)), (1, (rd 2 eUsed b)), (12, (tN a.length)), (13, (tN i))] (mkO []) 0 _
  refine sr ?_
  refine fO (B.lss (c := (decide (i < a.length))) (tv (tN i) rfl) (tv (tN a.length) rfl) (by first | (exact decN (by omega)))) ?_
  refine nt ?_
  refine sq ?_
  refine VRun.cond (tv (tB (decide (i < a.length))) rfl) (fun hc1 => ?_) (fun hc1 => ?_)
  · have fhc1 : i < a.length := of_decide_eq_true hc1
    refine sk ?_
    refine tn ?_
    refine sq ?_
    refine VRun.block ?_
    refine sr ?_
    refine mO (tN i) rfl ?_
    refine aO (tN i) rfl ?_
    refine nt ?_
    refine sq ?_
    refine VRun.draw (B := [[], [], [1, 0], [0, 1, 2], [], [], [5, 4], [4, 5, 6], [6, 5, 4, 7, 2, 1, 0, 3]]) (by kernel_rfl) (by kernel_rfl) ?_
    refine mD (rd 2 eUsed a) rfl rfl ?_
    refine mD (tN i) rfl rfl ?_
    obtain ⟨x1, hx1⟩ : ∃ x, a[i]? = some x := ⟨_, List.getElem?_eq_getElem (by first | omega)⟩
    refine fD (OF.indexAddrR (row := (eUsed false x1)) (i := i) (tv (rd 2 eUsed a) rfl) (tv (tN i) rfl) rfl (map_at _ hx1) Try.underlying49 sz118 if118) rfl rfl ?_
    refine lD (OL.loadRn (us := (eUsed false x1)) (tv (T.rp (eUsed false x1)) rfl) st118 sz118 (Nat.le_of_ble_eq_true rfl) rfl) rfl rfl ?_
    refine mD (rd 2 eUsed b) rfl rfl ?_
    refine mD (tN i) rfl rfl ?_
    obtain ⟨x2, hx2⟩ : ∃ x, b[i]? = some x := ⟨_, List.getElem?_eq_getElem (by first | omega)⟩
    refine fD (OF.indexAddrR (row := (eUsed false x2)) (i := i) (tv (rd 2 eUsed b) rfl) (tv (tN i) rfl) rfl (map_at _ hx2) Try.underlying49 sz118 if118) rfl rfl ?_
    refine lD (OL.loadRn (us := (eUsed false x2)) (tv (T.rp (eUsed false x2)) rfl) st118 sz118 (Nat.le_of_ble_eq_true rfl) rfl) rfl rfl ?_
    refine fD (B.neq118 (a := x1) (b := x2) (m := false) (m' := false) (tv (T.agg (eUsed false x1)) rfl) (tv (T.agg (eUsed false x2)) rfl)) rfl rfl ?_
    refine VRunD.nil ?_
    refine tn ?_
    refine VRun.cond (tv (tB (!(decide (x1 = x2)))) rfl) (fun hc2 => ?_) (fun hc2 => ?_)
    · have fhc2 : ¬ (x1 = x2) := ndT hc2
      refine sr ?_
      refine fO (OF.assign (VEv.bool false)) ?_
      refine nt ?_
      refine rt ?_
      refine vinB.r ?_
      refine tr ?_
      refine tr ?_
      refine vinB.r ?_
      refine tr ?_
      refine vb (b' := false) rfl ?_
      symm; rw [decide_eq_false_iff_not]; exact agree_not hx1 hx2 fhc2
    have fhc2 : x1 = x2 := ndF hc2
    refine sk ?_
    refine vinB.n ?_
    refine tn ?_
    refine VRun.region ?_
    refine fO (B.add (n := (((i + 1) : Nat) : Int)) (tv (tN i) rfl) (VEv.int .i64 1) (by first | rfl | (rw [wrap64 (by omega)]; omega) | (rw [wrap64 (by omega)]; done))) ?_
    refine mO (tN (i + 1)) rfl ?_
    refine VRunO.nil ?_
    refine tn ?_
    refine ⟨(i + 1 : Nat), ?_, ?_, Wk.mk (fun k => k) ?_ ?_ ?_⟩
    · exact agree_next hI' hx1 hx2 fhc2
    · first | omega | (simp only []; omega) | (show _ < _; omega) | (simp; omega)
    · exact (ball_cons ⟨rfl, rfl⟩ (ball_cons ⟨rfl, rfl⟩ (ball_cons ⟨rfl, rfl⟩ (ball_cons ⟨rfl, rfl⟩ (ball_nil)))))
    · exact (ball_nil)
    · show List.Nodup ([] : List Nat)
      decide
  have fhc1 : ¬ (i < a.length) := of_decide_eq_false hc1
  refine VRun.exit ?_
  refine vthn.e ?_
  refine vthn.e ?_
  refine vinB.e ?_
  refine tn ?_
  refine sr ?_
  refine fO (OF.assign (VEv.bool true)) ?_
  refine nt ?_
  refine rt ?_
  refine vb (b' := true) rfl ?_
  symm; rw [decide_eq_true_eq]; exact agree_all hI' fhc0 fhc1
theorem W_slices_Equal_impl_Entry_impl_Entry_ (n : Nat) (a : List D.Entry) (b : List D.Entry) (hla : a.length ≤ mx) (hlb : b.length ≤ mx) : Pure (acall Try.prog (n + 1)) 77 [(rd 4 eEntry a), (rd 4 eEntry b)] (tB (decide (a = b))) := by
  refine Pure.intro (rs := [ResultVar.tmp 4]) Try.func77 rfl rfl rfl (E0 := [(0, (rd 4 eEntry a)), (1, (rd 4 eEntry b))]) rfl ?_
  have hlim : lim = 1099511627776 := rfl
  have hmx : mx = 1048576 := rfl
  have hmax : maxLen = 9223372036854775807 := rfl
  refine sr ?_
  refine fO (OF.assign (VEv.bool false)) ?_
  refine nt ?_
  refine sq ?_
  refine sr ?_
  refine mO (rd 4 eEntry a) rfl ?_
  refine lO (B.lenR (m := a.length) (tv (rd 4 eEntry a) rfl) Try.underlying51 (List.length_map ..)) ?_
  refine mO (rd 4 eEntry b) rfl ?_
  refine lO (B.lenR (m := b.length) (tv (rd 4 eEntry b) rfl) Try.underlying51 (List.length_map ..)) ?_
  refine fO (B.neq (c := (!(decide (a.length = b.length)))) (tv (tN a.length) rfl) (tv (tN b.length) rfl) (by first | (exact decNn (by omega)))) ?_
  refine nt ?_
  refine VRun.cond (tv (tB (!(decide (a.length = b.length)))) rfl) (fun hc0 => ?_) (fun hc0 => ?_)
  · have fhc0 : ¬ (a.length = b.length) := ndT hc0
    refine sr ?_
    refine fO (OF.assign (VEv.bool false)) ?_
    refine nt ?_
    refine rt ?_
    refine tr ?_
    refine vb (b' := false) rfl ?_
    symm; rw [decide_eq_false_iff_not]; rintro rfl; exact fhc0 rfl
  have fhc0 : a.length = b.length := ndF hc0
  refine sk ?_
  refine tn ?_
  refine sq ?_
  refine sr ?_
  refine mO (rd 4 eEntry a) rfl ?_
  refine lO (B.lenR (m := a.length) (tv (rd 4 eEntry a) rfl) Try.underlying51 (List.length_map ..)) ?_
  refine fO (OF.move (VEv.int .i64 0)) ?_
  refine nt ?_
  refine VRun.block ?_
  refine VRun.loop (A := Nat) (fun s_ => [(0, (rd 4 eEntry a)), (1, (rd 4 eEntry b)), (12, (tN a.length)), (13, (tN s_))]) (fun s_ => mkO []) 0 (fun s_ => s_ ≤ a.length ∧ ∀ j, j < s_ → a[j]? = b[j]?) (fun s_ => a.length - s_) (0 : Nat) ?_ (Wk.mk (fun k => k) ?_ ?_ ?_) ?_
  · first | trivial | (simp; done) | omega | (constructor <;> simp)
  · exact (ball_cons ⟨rfl, rfl⟩ (ball_cons ⟨rfl, rfl⟩ (ball_cons ⟨rfl, rfl⟩ (ball_cons ⟨rfl, rfl⟩ (ball_nil)))))
  · exact (ball_nil)
  · show List.Nodup ([] : List Nat)
    decide
  rintro i hI
  have hI' : i ≤ a.length ∧ ∀ j, j < i → a[j]? = b[j]? := hI
  clear hI
  show VRun _ _ _ [(0, (rd 4 eEntry a)), (1, (rd 4 eEntry b)), (12, (tN a.length)), (13, (tN i))] (mkO []) 0 _
  refine sr ?_
  refine fO (B.lss (c := (decide (i < a.length))) (tv (tN i) rfl) (tv (tN a.length) rfl) (by first | (exact decN (by omega)))) ?_
  refine nt ?_
  refine sq ?_
  refine VRun.cond (tv (tB (decide (i < a.length))) rfl) (fun hc1 => ?_) (fun hc1 => ?_)
  · have fhc1 : i < a.length := of_decide_eq_true hc1
    refine sk ?_
    refine tn ?_
    refine sq ?_
    refine VRun.block ?_
    refine sr ?_
    refine mO (tN i) rfl ?_
    refine aO (tN i) rfl ?_
    refine nt ?_
    refine sq ?_
    refine VRun.draw (B := [[], [], [1, 0], [0, 1, 2], [], [], [5, 4], [4, 5, 6], [6, 5, 4, 7, 2, 1, 0, 3]]) (by kernel_rfl) (by kernel_rfl) ?_
    refine mD (rd 4 eEntry a) rfl rfl ?_
    refine mD (tN i) rfl rfl ?_
    obtain ⟨x1, hx1⟩ : ∃ x, a[i]? = some x := ⟨_, List.getElem?_eq_getElem (by first | omega)⟩
    refine fD (OF.indexAddrR (row := (eEntry false x1)) (i := i) (tv (rd 4 eEntry a) rfl) (tv (tN i) rfl) rfl (map_at _ hx1) Try.underlying51 sz123 if123) rfl rfl ?_
    refine lD (OL.loadRn (us := (eEntry false x1)) (tv (T.rp (eEntry false x1)) rfl) st123 sz123 (Nat.le_of_ble_eq_true rfl) rfl) rfl rfl ?_
    refine mD (rd 4 eEntry b) rfl rfl ?_
    refine mD (tN i) rfl rfl ?_
    obtain ⟨x2, hx2⟩ : ∃ x, b[i]? = some x := ⟨_, List.getElem?_eq_getElem (by first | omega)⟩
    refine fD (OF.indexAddrR (row := (eEntry false x2)) (i := i) (tv (rd 4 eEntry b) rfl) (tv (tN i) rfl) rfl (map_at _ hx2) Try.underlying51 sz123 if123) rfl rfl ?_
    refine lD (OL.loadRn (us := (eEntry false x2)) (tv (T.rp (eEntry false x2)) rfl) st123 sz123 (Nat.le_of_ble_eq_true rfl) rfl) rfl rfl ?_
    refine fD (B.neq123 (a := x1) (b := x2) (m := false) (m' := false) (tv (T.agg (eEntry false x1)) rfl) (tv (T.agg (eEntry false x2)) rfl)) rfl rfl ?_
    refine VRunD.nil ?_
    refine tn ?_
    refine VRun.cond (tv (tB (!(decide (x1 = x2)))) rfl) (fun hc2 => ?_) (fun hc2 => ?_)
    · have fhc2 : ¬ (x1 = x2) := ndT hc2
      refine sr ?_
      refine fO (OF.assign (VEv.bool false)) ?_
      refine nt ?_
      refine rt ?_
      refine vinB.r ?_
      refine tr ?_
      refine tr ?_
      refine vinB.r ?_
      refine tr ?_
      refine vb (b' := false) rfl ?_
      symm; rw [decide_eq_false_iff_not]; exact agree_not hx1 hx2 fhc2
    have fhc2 : x1 = x2 := ndF hc2
    refine sk ?_
    refine vinB.n ?_
    refine tn ?_
    refine VRun.region ?_
    refine fO (B.add (n := (((i + 1) : Nat) : Int)) (tv (tN i) rfl) (VEv.int .i64 1) (by first | rfl | (rw [wrap64 (by omega)]; omega) | (rw [wrap64 (by omega)]; done))) ?_
    refine mO (tN (i + 1)) rfl ?_
    refine VRunO.nil ?_
    refine tn ?_
    refine ⟨(i + 1 : Nat), ?_, ?_, Wk.mk (fun k => k) ?_ ?_ ?_⟩
    · exact agree_next hI' hx1 hx2 fhc2
    · first | omega | (simp only []; omega) | (show _ < _; omega) | (simp; omega)
    · exact (ball_cons ⟨rfl, rfl⟩ (ball_cons ⟨rfl, rfl⟩ (ball_cons ⟨rfl, rfl⟩ (ball_cons ⟨rfl, rfl⟩ (ball_nil)))))
    · exact (ball_nil)
    · show List.Nodup ([] : List Nat)
      decide
  have fhc1 : ¬ (i < a.length) := of_decide_eq_false hc1
  refine VRun.exit ?_
  refine vthn.e ?_
  refine vthn.e ?_
  refine vinB.e ?_
  refine tn ?_
  refine sr ?_
  refine fO (OF.assign (VEv.bool true)) ?_
  refine nt ?_
  refine rt ?_
  refine vb (b' := true) rfl ?_
  symm; rw [decide_eq_true_eq]; exact agree_all hI' fhc0 fhc1
theorem W_slices_EqualFunc_impl_Issue_impl_Issue_impl_Issue_impl_Issue_impl_EqualIssues (n : Nat) (a : List D.Issue) (b : List D.Issue) (hza : zL zIssue a ≤ mx) (hzb : zL zIssue b ≤ mx) : Pure (acall Try.prog (n + 6)) 72 [(rd 10 eIssue a), (rd 10 eIssue b), (T.fn 73 [])] (tB (decide (a = b))) := by
  refine Pure.intro (rs := [ResultVar.tmp 6]) Try.func72 rfl rfl rfl (E0 := [(0, (rd 10 eIssue a)), (1, (rd 10 eIssue b)), (2, (T.fn 73 []))]) rfl ?_
  have hlim : lim = 1099511627776 := rfl
  have hmx : mx = 1048576 := rfl
  have hmax : maxLen = 9223372036854775807 := rfl
  have hla := zL_len (z := zIssue) a
  have hlb := zL_len (z := zIssue) b
  refine sr ?_
  refine fO (OF.assign (VEv.bool false)) ?_
  refine nt ?_
  refine sq ?_
  refine sr ?_
  refine mO (rd 10 eIssue a) rfl ?_
  refine lO (B.lenR (m := a.length) (tv (rd 10 eIssue a) rfl) Try.underlying48 (List.length_map ..)) ?_
  refine mO (rd 10 eIssue b) rfl ?_
  refine lO (B.lenR (m := b.length) (tv (rd 10 eIssue b) rfl) Try.underlying48 (List.length_map ..)) ?_
  refine fO (B.neq (c := (!(decide (a.length = b.length)))) (tv (tN a.length) rfl) (tv (tN b.length) rfl) (by first | exact Nat.le_trans (zL_at hx1) hza | exact Nat.le_trans (zL_at hx2) hzb | (exact decNn (by omega)))) ?_
  refine nt ?_
  refine VRun.cond (tv (tB (!(decide (a.length = b.length)))) rfl) (fun hc0 => ?_) (fun hc0 => ?_)
  · have fhc0 : ¬ (a.length = b.length) := ndT hc0
    refine sr ?_
    refine fO (OF.assign (VEv.bool false)) ?_
    refine nt ?_
    refine rt ?_
    refine tr ?_
    refine vb (b' := false) rfl ?_
    symm; rw [decide_eq_false_iff_not]; rintro rfl; exact fhc0 rfl
  have fhc0 : a.length = b.length := ndF hc0
  refine sk ?_
  refine tn ?_
  refine sq ?_
  refine sr ?_
  refine mO (rd 10 eIssue a) rfl ?_
  refine lO (B.lenR (m := a.length) (tv (rd 10 eIssue a) rfl) Try.underlying48 (List.length_map ..)) ?_
  refine fO (OF.move (VEv.int .i64 0)) ?_
  refine nt ?_
  refine VRun.block ?_
  refine VRun.loop (A := Nat) (fun s_ => [(1, (rd 10 eIssue b)), (2, (T.fn 73 [])), (15, (rd 10 eIssue a)), (16, (tN a.length)), (17, (tN s_))]) (fun s_ => mkO []) 0 (fun s_ => s_ ≤ a.length ∧ ∀ j, j < s_ → a[j]? = b[j]?) (fun s_ => a.length - s_) (0 : Nat) ?_ (Wk.mk (fun k => k) ?_ ?_ ?_) ?_
  · first | trivial | (simp; done) | omega | (constructor <;> simp)
  · exact (ball_cons ⟨rfl, rfl⟩ (ball_cons ⟨rfl, rfl⟩ (ball_cons ⟨rfl, rfl⟩ (ball_cons ⟨rfl, rfl⟩ (ball_cons ⟨rfl, rfl⟩ (ball_nil))))))
  · exact (ball_nil)
  · show List.Nodup ([] : List Nat)
    decide
  rintro i hI
  have hI' : i ≤ a.length ∧ ∀ j, j < i → a[j]? = b[j]? := hI
  clear hI
  show VRun _ _ _ [(1, (rd 10 eIssue b)), (2, (T.fn 73 [])), (15, (rd 10 eIssue a)), (16, (tN a.length)), (17, (tN i))] (mkO []) 0 _
  refine sr ?_
  refine fO (B.lss (c := (decide (i < a.length))) (tv (tN i) rfl) (tv (tN a.length) rfl) (by first | exact Nat.le_trans (zL_at hx1) hza | exact Nat.le_trans (zL_at hx2) hzb | (exact decN (by omega)))) ?_
  refine nt ?_
  refine sq ?_
  refine VRun.cond (tv (tB (decide (i < a.length))) rfl) (fun hc1 => ?_) (fun hc1 => ?_)
  · have fhc1 : i < a.length := of_decide_eq_true hc1
    refine sk ?_
    refine tn ?_
    refine sq ?_
    refine VRun.block ?_
    refine sr ?_
    refine mO (tN i) rfl ?_
    obtain ⟨x1, hx1⟩ : ∃ x, a[i]? = some x := ⟨_, List.getElem?_eq_getElem (by first | exact Nat.le_trans (zL_at hx1) hza | exact Nat.le_trans (zL_at hx2) hzb | omega)⟩
    refine fO (OF.indexAddrR (row := (eIssue false x1)) (i := i) (tv (rd 10 eIssue a) rfl) (tv (tN i) rfl) rfl (map_at _ hx1) Try.underlying48 sz100 if100) ?_
    refine lO (OL.loadRn (us := (eIssue false x1)) (tv (T.rp (eIssue false x1)) rfl) st100 sz100 (Nat.le_of_ble_eq_true rfl) rfl) ?_
    refine kO (B.alloc (t := (T.agg [(tN 0), (tN 0), (tN 0), (tS ByteArray.empty), T.nils, T.nils, (tN 0), (tS ByteArray.empty), (tN 0), (tN 0)])) (ts := [(tN 0), (tN 0), (tN 0), (tS ByteArray.empty), T.nils, T.nils, (tN 0), (tS ByteArray.empty), (tN 0), (tN 0)]) zo100 zc100 nofun (fun _ => .agg _ _ rfl (RLof (RL.cons (.int _ _) (RL.cons (.int _ _) (RL.cons (.int _ _) (RL.cons (.str _) (RL.cons (.nils) (RL.cons (.nils) (RL.cons (.int _ _) (RL.cons (.str _) (RL.cons (.int _ _) (RL.cons (.int _ _) (RL.nil _))))))))))))) rfl) ?_
    refine aO (tN i) rfl ?_
    refine cO (B.storeO (us := (eIssue false x1)) (ws := (eIssue false x1)) (tv (T.op 0 0) rfl) (tv (T.agg (eIssue false x1)) rfl) nofun rfl rfl (Nat.le_of_ble_eq_true rfl) if100 sz100 (ball_cons rfl (ball_cons rfl (ball_cons rfl (ball_cons rfl (ball_cons rfl (ball_cons rfl (ball_cons rfl (ball_cons rfl (ball_cons rfl (ball_cons rfl (ball_nil))))))))))) rfl) ?_
    refine nt ?_
    refine sr ?_
    refine mO (rd 10 eIssue b) rfl ?_
    refine mO (tN i) rfl ?_
    obtain ⟨x2, hx2⟩ : ∃ x, b[i]? = some x := ⟨_, List.getElem?_eq_getElem (by first | exact Nat.le_trans (zL_at hx1) hza | exact Nat.le_trans (zL_at hx2) hzb | omega)⟩
    refine fO (OF.indexAddrR (row := (eIssue false x2)) (i := i) (tv (rd 10 eIssue b) rfl) (tv (tN i) rfl) rfl (map_at _ hx2) Try.underlying48 sz100 if100) ?_
    refine lO (OL.loadRn (us := (eIssue false x2)) (tv (T.rp (eIssue false x2)) rfl) st100 sz100 (Nat.le_of_ble_eq_true rfl) rfl) ?_
    refine kO (B.alloc (t := (T.agg [(tN 0), (tN 0), (tN 0), (tS ByteArray.empty), T.nils, T.nils, (tN 0), (tS ByteArray.empty), (tN 0), (tN 0)])) (ts := [(tN 0), (tN 0), (tN 0), (tS ByteArray.empty), T.nils, T.nils, (tN 0), (tS ByteArray.empty), (tN 0), (tN 0)]) zo100 zc100 nofun (fun _ => .agg _ _ rfl (RLof (RL.cons (.int _ _) (RL.cons (.int _ _) (RL.cons (.int _ _) (RL.cons (.str _) (RL.cons (.nils) (RL.cons (.nils) (RL.cons (.int _ _) (RL.cons (.str _) (RL.cons (.int _ _) (RL.cons (.int _ _) (RL.nil _))))))))))))) rfl) ?_
    refine cO (B.storeO (us := (eIssue false x2)) (ws := (eIssue false x2)) (tv (T.op 1 0) rfl) (tv (T.agg (eIssue false x2)) rfl) nofun rfl rfl (Nat.le_of_ble_eq_true rfl) if100 sz100 (ball_cons rfl (ball_cons rfl (ball_cons rfl (ball_cons rfl (ball_cons rfl (ball_cons rfl (ball_cons rfl (ball_cons rfl (ball_cons rfl (ball_cons rfl (ball_nil))))))))))) rfl) ?_
    refine nt ?_
    refine sr ?_
    refine mO (T.fn 73 []) rfl ?_
    refine lO (OL.loadOn (us := (eIssue false x1)) (tv (T.op 0 0) rfl) rfl st100 sz100 (Nat.le_of_ble_eq_true rfl) rfl) ?_
    refine lO (OL.loadOn (us := (eIssue false x2)) (tv (T.op 1 0) rfl) rfl st100 sz100 (Nat.le_of_ble_eq_true rfl) rfl) ?_
    refine cO (OC.callv (us := [(T.agg (eIssue false x1)), (T.agg (eIssue false x2))]) (ucaps := []) (r := (tB (decide (x1 = x2)))) (r' := (tB (decide (x1 = x2)))) (objs := []) rfl rfl (vc (tv (T.agg (eIssue false x1)) rfl) (vc (tv (T.agg (eIssue false x2)) rfl) VEvs.nil)) (LendL.cons (lg okeIssue) (LendL.cons (lg okeIssue) (LendL.nil))) (LendL.nil) (W_impl_EqualIssues (n + 0) x1 x2 (by first | exact Nat.le_trans (zL_at hx1) hza | exact Nat.le_trans (zL_at hx2) hzb | assumption | omega) (by first | exact Nat.le_trans (zL_at hx1) hza | exact Nat.le_trans (zL_at hx2) hzb | assumption | omega)) rfl) ?_
    refine fO (B.not (c := (!(decide (x1 = x2)))) (tv (tB (decide (x1 = x2))) rfl) rfl) ?_
    refine nt ?_
    refine VRun.cond (tv (tB (!(decide (x1 = x2)))) rfl) (fun hc2 => ?_) (fun hc2 => ?_)
    · have fhc2 : ¬ (x1 = x2) := ndT hc2
      refine sr ?_
      refine fO (OF.assign (VEv.bool false)) ?_
      refine nt ?_
      refine rt ?_
      refine vinB.r ?_
      refine tr ?_
      refine tr ?_
      refine vinB.r ?_
      refine tr ?_
      refine vb (b' := false) rfl ?_
      symm; rw [decide_eq_false_iff_not]; exact agree_not hx1 hx2 fhc2
    have fhc2 : x1 = x2 := ndF hc2
    refine sk ?_
    refine vinB.n ?_
    refine tn ?_
    refine VRun.region ?_
    refine fO (B.add (n := (((i + 1) : Nat) : Int)) (tv (tN i) rfl) (VEv.int .i64 1) (by first | exact Nat.le_trans (zL_at hx1) hza | exact Nat.le_trans (zL_at hx2) hzb | rfl | (rw [wrap64 (by omega)]; omega) | (rw [wrap64 (by omega)]; done))) ?_
    refine mO (tN (i + 1)) rfl ?_
    refine VRunO.nil ?_
    refine tn ?_
    refine ⟨(i + 1 : Nat), ?_, ?_, Wk.mk (fun k => k) ?_ ?_ ?_⟩
    · exact agree_next hI' hx1 hx2 fhc2
    · first | omega | (simp only []; omega) | (show _ < _; omega) | (simp; omega)
    · exact (ball_cons ⟨rfl, rfl⟩ (ball_cons ⟨rfl, rfl⟩ (ball_cons ⟨rfl, rfl⟩ (ball_cons ⟨rfl, rfl⟩ (ball_cons ⟨rfl, rfl⟩ (ball_nil))))))
    · exact (ball_nil)
    · show List.Nodup ([] : List Nat)
      decide
  have fhc1 : ¬ (i < a.length) := of_decide_eq_false hc1
  refine VRun.exit ?_
  refine vthn.e ?_
  refine vthn.e ?_
  refine vinB.e ?_
  refine tn ?_
  refine sr ?_
  refine fO (OF.assign (VEv.bool true)) ?_
  refine nt ?_
  refine rt ?_
  refine vb (b' := true) rfl ?_
  symm; rw [decide_eq_true_eq]; exact agree_all hI' fhc0 fhc1
theorem W_impl_EqualHouses_1 (n : Nat) (a : D.Correction) (b : D.Correction) (hza : zCorrection a ≤ mx) (hzb : zCorrection b ≤ mx) : Pure (acall Try.prog (n + 3)) 76 [(T.agg (eCorrection false a)), (T.agg (eCorrection false b))] (tB (decide (a = b))) := by
  refine Pure.intro (rs := [ResultVar.tmp 4]) Try.func76 rfl rfl rfl (E0 := [(0, (T.agg (eCorrection false a))), (1, (T.agg (eCorrection false b)))]) rfl ?_
  have hlim : lim = 1099511627776 := rfl
  have hmx : mx = 1048576 := rfl
  have hmax : maxLen = 9223372036854775807 := rfl
  simp only [zCorrection] at hza hzb
  refine sr ?_
  refine kO (B.box (ts := (eCorrection false a)) (tv (T.agg (eCorrection false a)) rfl) nofun rfl) ?_
  refine kO (B.box (ts := (eCorrection false b)) (tv (T.agg (eCorrection false b)) rfl) nofun rfl) ?_
  refine fO (OF.assign (VEv.bool false)) ?_
  refine nt ?_
  refine sr ?_
  refine fO (OF.fieldAddrO (tv (T.op 0 0) rfl) fa102_0) ?_
  refine lO (OL.loadO1 (t := (tI a.Issue)) (tv (T.op 0 0) rfl) rfl rfl st3) ?_
  refine fO (OF.fieldAddrO (tv (T.op 1 0) rfl) fa102_0) ?_
  refine lO (OL.loadO1 (t := (tI b.Issue)) (tv (T.op 1 0) rfl) rfl rfl st3) ?_
  refine fO (B.eql (c := (decide (a.Issue = b.Issue))) (tv (tI a.Issue) rfl) (tv (tI b.Issue) rfl) rfl) ?_
  refine mO (tB (decide (a.Issue = b.Issue))) rfl ?_
  refine bool_way (decide (a.Issue = b.Issue)) (fun hg10_1 => ?_) (fun hg10_1 => ?_)
  · have fhg10_1 : a.Issue = b.Issue := of_decide_eq_true hg10_1
    refine gF hg10_1 rfl rfl (OF.fieldAddrO (tv (T.op 0 0) rfl) fa102_1) ?_
    refine gL hg10_1 rfl rfl (OL.loadO1 (t := (tI a.Slot)) (tv (T.op 0 1) rfl) rfl rfl st3) ?_
    refine gF hg10_1 rfl rfl (OF.fieldAddrO (tv (T.op 1 0) rfl) fa102_1) ?_
    refine gL hg10_1 rfl rfl (OL.loadO1 (t := (tI b.Slot)) (tv (T.op 1 1) rfl) rfl rfl st3) ?_
    refine gF hg10_1 rfl rfl (B.eql (c := (decide (a.Slot = b.Slot))) (tv (tI a.Slot) rfl) (tv (tI b.Slot) rfl) rfl) ?_
    refine fO (OF.pickT (VEv.tmpB (b := (decide (a.Issue = b.Issue))) rfl hg10_1) (tv (tB (decide (a.Slot = b.Slot))) rfl)) ?_
    refine mO (tB (decide (a.Slot = b.Slot))) rfl ?_
    refine bool_way (decide (a.Slot = b.Slot)) (fun hg17_2 => ?_) (fun hg17_2 => ?_)
    · have fhg17_2 : a.Slot = b.Slot := of_decide_eq_true hg17_2
      refine gF hg17_2 rfl rfl (OF.fieldAddrO (tv (T.op 0 0) rfl) fa102_3) ?_
      refine gL hg17_2 rfl rfl (OL.loadO1 (t := (tI a.Tick)) (tv (T.op 0 4) rfl) rfl rfl st3) ?_
      refine gF hg17_2 rfl rfl (OF.fieldAddrO (tv (T.op 1 0) rfl) fa102_3) ?_
      refine gL hg17_2 rfl rfl (OL.loadO1 (t := (tI b.Tick)) (tv (T.op 1 4) rfl) rfl rfl st3) ?_
      refine gF hg17_2 rfl rfl (B.eql (c := (decide (a.Tick = b.Tick))) (tv (tI a.Tick) rfl) (tv (tI b.Tick) rfl) rfl) ?_
      refine fO (OF.pickT (VEv.tmpB (b := (decide (a.Slot = b.Slot))) rfl hg17_2) (tv (tB (decide (a.Tick = b.Tick))) rfl)) ?_
      refine mO (tB (decide (a.Tick = b.Tick))) rfl ?_
      refine bool_way (decide (a.Tick = b.Tick)) (fun hg24_3 => ?_) (fun hg24_3 => ?_)
      · have fhg24_3 : a.Tick = b.Tick := of_decide_eq_true hg24_3
        refine gF hg24_3 rfl rfl (OF.fieldAddrO (tv (T.op 0 0) rfl) fa102_2) ?_
        refine gL hg24_3 rfl rfl (OL.loadOn (us := (eClue false a.Clue)) (tv (T.op 0 2) rfl) rfl st70 sz70 (Nat.le_of_ble_eq_true rfl) rfl) ?_
        refine gF hg24_3 rfl rfl (OF.fieldAddrO (tv (T.op 1 0) rfl) fa102_2) ?_
        refine gL hg24_3 rfl rfl (OL.loadOn (us := (eClue false b.Clue)) (tv (T.op 1 2) rfl) rfl st70 sz70 (Nat.le_of_ble_eq_true rfl) rfl) ?_
        refine VRunO.chain (VWant.on (b := (decide (a.Tick = b.Tick))) rfl rfl hg24_3) (cS (vc (tv (T.agg (eClue false a.Clue)) rfl) (vc (tv (T.agg (eClue false b.Clue)) rfl) VEvs.nil)) (LendL.cons (lg okeClue) (LendL.cons (lg okeClue) (LendL.nil))) (W_impl_sameClue (n + 0) a.Clue b.Clue (by first | assumption | omega) (by first | assumption | omega)) rfl rfl) ?_
        refine fO (OF.pickT (VEv.tmpB (b := (decide (a.Tick = b.Tick))) rfl hg24_3) (tv (tB (decide (a.Clue = b.Clue))) rfl)) ?_
        refine aO (tB (decide (a.Clue = b.Clue))) rfl ?_
        refine nt ?_
        refine rt ?_
        refine vb (b' := (decide (a.Clue = b.Clue))) rfl ?_
        obtain ⟨a1, a2, a3, a4⟩ := a
        obtain ⟨b1, b2, b3, b4⟩ := b
        simp_all <;> (try (exact decN (by constructor <;> simp_all)))
      have fhg24_3 : ¬ (a.Tick = b.Tick) := of_decide_eq_false hg24_3
      refine oO rfl rfl hg24_3 ?_
      refine oO rfl rfl hg24_3 ?_
      refine oO rfl rfl hg24_3 ?_
      refine oO rfl rfl hg24_3 ?_
      refine oO rfl rfl hg24_3 ?_
      refine fO (OF.pickF (VEv.tmpB (b := (decide (a.Tick = b.Tick))) rfl hg24_3) (VEv.bool false)) ?_
      refine aO (tB false) rfl ?_
      refine nt ?_
      refine rt ?_
      refine vb (b' := false) rfl ?_
      obtain ⟨a1, a2, a3, a4⟩ := a
      obtain ⟨b1, b2, b3, b4⟩ := b
      simp_all <;> (try (exact decN (by constructor <;> simp_all)))
    have fhg17_2 : ¬ (a.Slot = b.Slot) := of_decide_eq_false hg17_2
    refine oO rfl rfl hg17_2 ?_
    refine oO rfl rfl hg17_2 ?_
    refine oO rfl rfl hg17_2 ?_
    refine oO rfl rfl hg17_2 ?_
    refine oO rfl rfl hg17_2 ?_
    refine fO (OF.pickF (VEv.tmpB (b := (decide (a.Slot = b.Slot))) rfl hg17_2) (VEv.bool false)) ?_
    refine mO (tB false) rfl ?_
    refine VRunO.off (VWant.not (b := false) rfl rfl rfl) ?_
    refine VRunO.off (VWant.not (b := false) rfl rfl rfl) ?_
    refine VRunO.off (VWant.not (b := false) rfl rfl rfl) ?_
    refine VRunO.off (VWant.not (b := false) rfl rfl rfl) ?_
    refine VRunO.off (VWant.not (b := false) rfl rfl rfl) ?_
    refine fO (OF.pickF (tv (tB false) rfl) (VEv.bool false)) ?_
    refine aO (tB false) rfl ?_
    refine nt ?_
    refine rt ?_
    refine vb (b' := false) rfl ?_
    obtain ⟨a1, a2, a3, a4⟩ := a
    obtain ⟨b1, b2, b3, b4⟩ := b
    simp_all <;> (try (exact decN (by constructor <;> simp_all)))
  have fhg10_1 : ¬ (a.Issue = b.Issue) := of_decide_eq_false hg10_1
  refine oO rfl rfl hg10_1 ?_
  refine oO rfl rfl hg10_1 ?_
  refine oO rfl rfl hg10_1 ?_
  refine oO rfl rfl hg10_1 ?_
  refine oO rfl rfl hg10_1 ?_
  refine fO (OF.pickF (VEv.tmpB (b := (decide (a.Issue = b.Issue))) rfl hg10_1) (VEv.bool false)) ?_
  refine mO (tB false) rfl ?_
  refine VRunO.off (VWant.not (b := false) rfl rfl rfl) ?_
  refine VRunO.off (VWant.not (b := false) rfl rfl rfl) ?_
  refine VRunO.off (VWant.not (b := false) rfl rfl rfl) ?_
  refine VRunO.off (VWant.not (b := false) rfl rfl rfl) ?_
  refine VRunO.off (VWant.not (b := false) rfl rfl rfl) ?_
  refine fO (OF.pickF (tv (tB false) rfl) (VEv.bool false)) ?_
  refine mO (tB false) rfl ?_
  refine VRunO.off (VWant.not (b := false) rfl rfl rfl) ?_
  refine VRunO.off (VWant.not (b := false) rfl rfl rfl) ?_
  refine VRunO.off (VWant.not (b := false) rfl rfl rfl) ?_
  refine VRunO.off (VWant.not (b := false) rfl rfl rfl) ?_
  refine VRunO.off (VWant.not (b := false) rfl rfl rfl) ?_
  refine fO (OF.pickF (tv (tB false) rfl) (VEv.bool false)) ?_
  refine aO (tB false) rfl ?_
  refine nt ?_
  refine rt ?_
  refine vb (b' := false) rfl ?_
  obtain ⟨a1, a2, a3, a4⟩ := a
  obtain ⟨b1, b2, b3, b4⟩ := b
  simp_all <;> (try (exact decN (by constructor <;> simp_all)))
theorem W_slices_EqualFunc_impl_Correction_impl_Correction_impl_Correction_impl_Correction_impl_EqualHouses_1 (n : Nat) (a : List D.Correction) (b : List D.Correction) (hza : zL zCorrection a ≤ mx) (hzb : zL zCorrection b ≤ mx) : Pure (acall Try.prog (n + 4)) 75 [(rd 5 eCorrection a), (rd 5 eCorrection b), (T.fn 76 [])] (tB (decide (a = b))) := by
  refine Pure.intro (rs := [ResultVar.tmp 6]) Try.func75 rfl rfl rfl (E0 := [(0, (rd 5 eCorrection a)), (1, (rd 5 eCorrection b)), (2, (T.fn 76 []))]) rfl ?_
  have hlim : lim = 1099511627776 := rfl
  have hmx : mx = 1048576 := rfl
  have hmax : maxLen = 9223372036854775807 := rfl
  have hla := zL_len (z := zCorrection) a
  have hlb := zL_len (z := zCorrection) b
  refine sr ?_
  refine fO (OF.assign (VEv.bool false)) ?_
  refine nt ?_
  refine sq ?_
  refine sr ?_
  refine mO (rd 5 eCorrection a) rfl ?_
  refine lO (B.lenR (m := a.length) (tv (rd 5 eCorrection a) rfl) Try.underlying50 (List.length_map ..)) ?_
  refine mO (rd 5 eCorrection b) rfl ?_
  refine lO (B.lenR (m := b.length) (tv (rd 5 eCorrection b) rfl) Try.underlying50 (List.length_map ..)) ?_
  refine fO (B.neq (c := (!(decide (a.length = b.length)))) (tv (tN a.length) rfl) (tv (tN b.length) rfl) (by first | exact Nat.le_trans (zL_at hx1) hza | exact Nat.le_trans (zL_at hx2) hzb | (exact decNn (by omega)))) ?_
  refine nt ?_
  refine VRun.cond (tv (tB (!(decide (a.length = b.length)))) rfl) (fun hc0 => ?_) (fun hc0 => ?_)
  · have fhc0 : ¬ (a.length = b.length) := ndT hc0
    refine sr ?_
    refine fO (OF.assign (VEv.bool false)) ?_
    refine nt ?_
    refine rt ?_
    refine tr ?_
    refine vb (b' := false) rfl ?_
    symm; rw [decide_eq_false_iff_not]; rintro rfl; exact fhc0 rfl
  have fhc0 : a.length = b.length := ndF hc0
  refine sk ?_
  refine tn ?_
  refine sq ?_
  refine sr ?_
  refine mO (rd 5 eCorrection a) rfl ?_
  refine lO (B.lenR (m := a.length) (tv (rd 5 eCorrection a) rfl) Try.underlying50 (List.length_map ..)) ?_
  refine fO (OF.move (VEv.int .i64 0)) ?_
  refine nt ?_
  refine VRun.block ?_
  refine VRun.loop (A := Nat) (fun s_ => [(1, (rd 5 eCorrection b)), (2, (T.fn 76 [])), (15, (rd 5 eCorrection a)), (16, (tN a.length)), (17, (tN s_))]) (fun s_ => mkO []) 0 (fun s_ => s_ ≤ a.length ∧ ∀ j, j < s_ → a[j]? = b[j]?) (fun s_ => a.length - s_) (0 : Nat) ?_ (Wk.mk (fun k => k) ?_ ?_ ?_) ?_
  · first | trivial | (simp; done) | omega | (constructor <;> simp)
  · exact (ball_cons ⟨rfl, rfl⟩ (ball_cons ⟨rfl, rfl⟩ (ball_cons ⟨rfl, rfl⟩ (ball_cons ⟨rfl, rfl⟩ (ball_cons ⟨rfl, rfl⟩ (ball_nil))))))
  · exact (ball_nil)
  · show List.Nodup ([] : List Nat)
    decide
  rintro i hI
  have hI' : i ≤ a.length ∧ ∀ j, j < i → a[j]? = b[j]? := hI
  clear hI
  show VRun _ _ _ [(1, (rd 5 eCorrection b)), (2, (T.fn 76 [])), (15, (rd 5 eCorrection a)), (16, (tN a.length)), (17, (tN i))] (mkO []) 0 _
  refine sr ?_
  refine fO (B.lss (c := (decide (i < a.length))) (tv (tN i) rfl) (tv (tN a.length) rfl) (by first | exact Nat.le_trans (zL_at hx1) hza | exact Nat.le_trans (zL_at hx2) hzb | (exact decN (by omega)))) ?_
  refine nt ?_
  refine sq ?_
  refine VRun.cond (tv (tB (decide (i < a.length))) rfl) (fun hc1 => ?_) (fun hc1 => ?_)
  · have fhc1 : i < a.length := of_decide_eq_true hc1
    refine sk ?_
    refine tn ?_
    refine sq ?_
    refine VRun.block ?_
    refine sr ?_
    refine mO (tN i) rfl ?_
    obtain ⟨x1, hx1⟩ : ∃ x, a[i]? = some x := ⟨_, List.getElem?_eq_getElem (by first | exact Nat.le_trans (zL_at hx1) hza | exact Nat.le_trans (zL_at hx2) hzb | omega)⟩
    refine fO (OF.indexAddrR (row := (eCorrection false x1)) (i := i) (tv (rd 5 eCorrection a) rfl) (tv (tN i) rfl) rfl (map_at _ hx1) Try.underlying50 sz102 if102) ?_
    refine lO (OL.loadRn (us := (eCorrection false x1)) (tv (T.rp (eCorrection false x1)) rfl) st102 sz102 (Nat.le_of_ble_eq_true rfl) rfl) ?_
    refine kO (B.alloc (t := (T.agg [(tN 0), (tN 0), (tN 0), T.nils, (tN 0)])) (ts := [(tN 0), (tN 0), (tN 0), T.nils, (tN 0)]) zo102 zc102 nofun (fun _ => .agg _ _ rfl (RLof (RL.cons (.int _ _) (RL.cons (.int _ _) (RL.cons (.int _ _) (RL.cons (.nils) (RL.cons (.int _ _) (RL.nil _)))))))) rfl) ?_
    refine aO (tN i) rfl ?_
    refine cO (B.storeO (us := (eCorrection false x1)) (ws := (eCorrection false x1)) (tv (T.op 0 0) rfl) (tv (T.agg (eCorrection false x1)) rfl) nofun rfl rfl (Nat.le_of_ble_eq_true rfl) if102 sz102 (ball_cons rfl (ball_cons rfl (ball_cons rfl (ball_cons rfl (ball_cons rfl (ball_nil)))))) rfl) ?_
    refine nt ?_
    refine sr ?_
    refine mO (rd 5 eCorrection b) rfl ?_
    refine mO (tN i) rfl ?_
    obtain ⟨x2, hx2⟩ : ∃ x, b[i]? = some x := ⟨_, List.getElem?_eq_getElem (by first | exact Nat.le_trans (zL_at hx1) hza | exact Nat.le_trans (zL_at hx2) hzb | omega)⟩
    refine fO (OF.indexAddrR (row := (eCorrection false x2)) (i := i) (tv (rd 5 eCorrection b) rfl) (tv (tN i) rfl) rfl (map_at _ hx2) Try.underlying50 sz102 if102) ?_
    refine lO (OL.loadRn (us := (eCorrection false x2)) (tv (T.rp (eCorrection false x2)) rfl) st102 sz102 (Nat.le_of_ble_eq_true rfl) rfl) ?_
    refine kO (B.alloc (t := (T.agg [(tN 0), (tN 0), (tN 0), T.nils, (tN 0)])) (ts := [(tN 0), (tN 0), (tN 0), T.nils, (tN 0)]) zo102 zc102 nofun (fun _ => .agg _ _ rfl (RLof (RL.cons (.int _ _) (RL.cons (.int _ _) (RL.cons (.int _ _) (RL.cons (.nils) (RL.cons (.int _ _) (RL.nil _)))))))) rfl) ?_
    refine cO (B.storeO (us := (eCorrection false x2)) (ws := (eCorrection false x2)) (tv (T.op 1 0) rfl) (tv (T.agg (eCorrection false x2)) rfl) nofun rfl rfl (Nat.le_of_ble_eq_true rfl) if102 sz102 (ball_cons rfl (ball_cons rfl (ball_cons rfl (ball_cons rfl (ball_cons rfl (ball_nil)))))) rfl) ?_
    refine nt ?_
    refine sr ?_
    refine mO (T.fn 76 []) rfl ?_
    refine lO (OL.loadOn (us := (eCorrection false x1)) (tv (T.op 0 0) rfl) rfl st102 sz102 (Nat.le_of_ble_eq_true rfl) rfl) ?_
    refine lO (OL.loadOn (us := (eCorrection false x2)) (tv (T.op 1 0) rfl) rfl st102 sz102 (Nat.le_of_ble_eq_true rfl) rfl) ?_
    refine cO (OC.callv (us := [(T.agg (eCorrection false x1)), (T.agg (eCorrection false x2))]) (ucaps := []) (r := (tB (decide (x1 = x2)))) (r' := (tB (decide (x1 = x2)))) (objs := []) rfl rfl (vc (tv (T.agg (eCorrection false x1)) rfl) (vc (tv (T.agg (eCorrection false x2)) rfl) VEvs.nil)) (LendL.cons (lg okeCorrection) (LendL.cons (lg okeCorrection) (LendL.nil))) (LendL.nil) (W_impl_EqualHouses_1 (n + 0) x1 x2 (by first | exact Nat.le_trans (zL_at hx1) hza | exact Nat.le_trans (zL_at hx2) hzb | assumption | omega) (by first | exact Nat.le_trans (zL_at hx1) hza | exact Nat.le_trans (zL_at hx2) hzb | assumption | omega)) rfl) ?_
    refine fO (B.not (c := (!(decide (x1 = x2)))) (tv (tB (decide (x1 = x2))) rfl) rfl) ?_
    refine nt ?_
    refine VRun.cond (tv (tB (!(decide (x1 = x2)))) rfl) (fun hc2 => ?_) (fun hc2 => ?_)
    · have fhc2 : ¬ (x1 = x2) := ndT hc2
      refine sr ?_
      refine fO (OF.assign (VEv.bool false)) ?_
      refine nt ?_
      refine rt ?_
      refine vinB.r ?_
      refine tr ?_
      refine tr ?_
      refine vinB.r ?_
      refine tr ?_
      refine vb (b' := false) rfl ?_
      symm; rw [decide_eq_false_iff_not]; exact agree_not hx1 hx2 fhc2
    have fhc2 : x1 = x2 := ndF hc2
    refine sk ?_
    refine vinB.n ?_
    refine tn ?_
    refine VRun.region ?_
    refine fO (B.add (n := (((i + 1) : Nat) : Int)) (tv (tN i) rfl) (VEv.int .i64 1) (by first | exact Nat.le_trans (zL_at hx1) hza | exact Nat.le_trans (zL_at hx2) hzb | rfl | (rw [wrap64 (by omega)]; omega) | (rw [wrap64 (by omega)]; done))) ?_
    refine mO (tN (i + 1)) rfl ?_
    refine VRunO.nil ?_
    refine tn ?_
    refine ⟨(i + 1 : Nat), ?_, ?_, Wk.mk (fun k => k) ?_ ?_ ?_⟩
    · exact agree_next hI' hx1 hx2 fhc2
    · first | omega | (simp only []; omega) | (show _ < _; omega) | (simp; omega)
    · exact (ball_cons ⟨rfl, rfl⟩ (ball_cons ⟨rfl, rfl⟩ (ball_cons ⟨rfl, rfl⟩ (ball_cons ⟨rfl, rfl⟩ (ball_cons ⟨rfl, rfl⟩ (ball_nil))))))
    · exact (ball_nil)
    · show List.Nodup ([] : List Nat)
      decide
  have fhc1 : ¬ (i < a.length) := of_decide_eq_false hc1
  refine VRun.exit ?_
  refine vthn.e ?_
  refine vthn.e ?_
  refine vinB.e ?_
  refine tn ?_
  refine sr ?_
  refine fO (OF.assign (VEv.bool true)) ?_
  refine nt ?_
  refine rt ?_
  refine vb (b' := true) rfl ?_
  symm; rw [decide_eq_true_eq]; exact agree_all hI' fhc0 fhc1
theorem W_impl_EqualHouses (n : Nat) (a : D.House) (b : D.House) (hza : zHouse a ≤ mx) (hzb : zHouse b ≤ mx) : Pure (acall Try.prog (n + 7)) 16 [(T.agg (eHouse false a)), (T.agg (eHouse false b))] (tB (decide (a = b))) := by
  refine Pure.intro (rs := [ResultVar.tmp 4]) Try.func16 rfl rfl rfl (E0 := [(0, (T.agg (eHouse false a))), (1, (T.agg (eHouse false b)))]) rfl ?_
  have hlim : lim = 1099511627776 := rfl
  have hmx : mx = 1048576 := rfl
  have hmax : maxLen = 9223372036854775807 := rfl
  simp only [zHouse] at hza hzb
  have hlaList := zL_len (z := zListed) a.List
  have hlaDict := zL_len (z := zMeaning) a.Dict
  have hlaIssues := zL_len (z := zIssue) a.Issues
  have hlaUses := zL_len (z := zUsed) a.Uses
  have hlaCorrections := zL_len (z := zCorrection) a.Corrections
  have hlaEntries := zL_len (z := zEntry) a.Entries
  have hlbList := zL_len (z := zListed) b.List
  have hlbDict := zL_len (z := zMeaning) b.Dict
  have hlbIssues := zL_len (z := zIssue) b.Issues
  have hlbUses := zL_len (z := zUsed) b.Uses
  have hlbCorrections := zL_len (z := zCorrection) b.Corrections
  have hlbEntries := zL_len (z := zEntry) b.Entries
  refine sr ?_
  refine kO (B.box (ts := (eHouse false a)) (tv (T.agg (eHouse false a)) rfl) nofun rfl) ?_
  refine kO (B.box (ts := (eHouse false b)) (tv (T.agg (eHouse false b)) rfl) nofun rfl) ?_
  refine fO (OF.assign (VEv.bool false)) ?_
  refine nt ?_
  refine sr ?_
  refine fO (OF.fieldAddrO (tv (T.op 0 0) rfl) fa53_0) ?_
  refine lO (OL.loadO1 (t := (rd 4 eListed a.List)) (tv (T.op 0 0) rfl) rfl rfl st46) ?_
  refine fO (OF.fieldAddrO (tv (T.op 1 0) rfl) fa53_0) ?_
  refine lO (OL.loadO1 (t := (rd 4 eListed b.List)) (tv (T.op 1 0) rfl) rfl rfl st46) ?_
  refine cO (cS (vc (tv (rd 4 eListed a.List) rfl) (vc (tv (rd 4 eListed b.List) rfl) VEvs.nil)) (lp rfl (lp rfl (LendL.nil))) (W_slices_Equal_impl_Listed_impl_Listed_ (n + 5) a.List b.List (by first | assumption | omega) (by first | assumption | omega)) rfl rfl) ?_
  refine mO (tB (decide (a.List = b.List))) rfl ?_
  refine bool_way (decide (a.List = b.List)) (fun hg10_1 => ?_) (fun hg10_1 => ?_)
  · have fhg10_1 : a.List = b.List := of_decide_eq_true hg10_1
    refine gF hg10_1 rfl rfl (OF.fieldAddrO (tv (T.op 0 0) rfl) fa53_1) ?_
    refine gL hg10_1 rfl rfl (OL.loadO1 (t := (rd 2 eMeaning a.Dict)) (tv (T.op 0 1) rfl) rfl rfl st47) ?_
    refine gF hg10_1 rfl rfl (OF.fieldAddrO (tv (T.op 1 0) rfl) fa53_1) ?_
    refine gL hg10_1 rfl rfl (OL.loadO1 (t := (rd 2 eMeaning b.Dict)) (tv (T.op 1 1) rfl) rfl rfl st47) ?_
    refine VRunO.chain (VWant.on (b := (decide (a.List = b.List))) rfl rfl hg10_1) (cS (vc (tv (rd 2 eMeaning a.Dict) rfl) (vc (tv (rd 2 eMeaning b.Dict) rfl) VEvs.nil)) (lp rfl (lp rfl (LendL.nil))) (W_slices_Equal_impl_Meaning_impl_Meaning_ (n + 5) a.Dict b.Dict (by first | assumption | omega) (by first | assumption | omega)) rfl rfl) ?_
    refine fO (OF.pickT (VEv.tmpB (b := (decide (a.List = b.List))) rfl hg10_1) (tv (tB (decide (a.Dict = b.Dict))) rfl)) ?_
    refine mO (tB (decide (a.Dict = b.Dict))) rfl ?_
    refine bool_way (decide (a.Dict = b.Dict)) (fun hg17_2 => ?_) (fun hg17_2 => ?_)
    · have fhg17_2 : a.Dict = b.Dict := of_decide_eq_true hg17_2
      refine gF hg17_2 rfl rfl (OF.fieldAddrO (tv (T.op 0 0) rfl) fa53_2) ?_
      refine gL hg17_2 rfl rfl (OL.loadOn (us := (eDraft false a.Desk)) (tv (T.op 0 2) rfl) rfl st32 sz32 (Nat.le_of_ble_eq_true rfl) rfl) ?_
      refine gF hg17_2 rfl rfl (OF.fieldAddrO (tv (T.op 1 0) rfl) fa53_2) ?_
      refine gL hg17_2 rfl rfl (OL.loadOn (us := (eDraft false b.Desk)) (tv (T.op 1 2) rfl) rfl st32 sz32 (Nat.le_of_ble_eq_true rfl) rfl) ?_
      refine VRunO.chain (VWant.on (b := (decide (a.Dict = b.Dict))) rfl rfl hg17_2) (cS (vc (tv (T.agg (eDraft false a.Desk)) rfl) (vc (tv (T.agg (eDraft false b.Desk)) rfl) VEvs.nil)) (LendL.cons (lg okeDraft) (LendL.cons (lg okeDraft) (LendL.nil))) (W_impl_EqualDrafts (n + 2) a.Desk b.Desk (by first | assumption | omega) (by first | assumption | omega)) rfl rfl) ?_
      refine fO (OF.pickT (VEv.tmpB (b := (decide (a.Dict = b.Dict))) rfl hg17_2) (tv (tB (decide (a.Desk = b.Desk))) rfl)) ?_
      refine mO (tB (decide (a.Desk = b.Desk))) rfl ?_
      refine bool_way (decide (a.Desk = b.Desk)) (fun hg24_3 => ?_) (fun hg24_3 => ?_)
      · have fhg24_3 : a.Desk = b.Desk := of_decide_eq_true hg24_3
        refine gF hg24_3 rfl rfl (OF.fieldAddrO (tv (T.op 0 0) rfl) fa53_3) ?_
        refine gL hg24_3 rfl rfl (OL.loadO1 (t := (rd 10 eIssue a.Issues)) (tv (T.op 0 8) rfl) rfl rfl st48) ?_
        refine gF hg24_3 rfl rfl (OF.fieldAddrO (tv (T.op 1 0) rfl) fa53_3) ?_
        refine gL hg24_3 rfl rfl (OL.loadO1 (t := (rd 10 eIssue b.Issues)) (tv (T.op 1 8) rfl) rfl rfl st48) ?_
        refine VRunO.chain (VWant.on (b := (decide (a.Desk = b.Desk))) rfl rfl hg24_3) (cS (us := [(rd 10 eIssue a.Issues), (rd 10 eIssue b.Issues), (T.fn 73 [])]) (vc (tv (rd 10 eIssue a.Issues) rfl) (vc (tv (rd 10 eIssue b.Issues) rfl) (vc (VEv.func 73) VEvs.nil))) (lp rfl (lp rfl (LendL.cons (Lend.fn (LendL.nil)) (LendL.nil)))) (W_slices_EqualFunc_impl_Issue_impl_Issue_impl_Issue_impl_Issue_impl_EqualIssues (n + 0) a.Issues b.Issues (by first | assumption | omega) (by first | assumption | omega)) rfl rfl) ?_
        refine fO (OF.pickT (VEv.tmpB (b := (decide (a.Desk = b.Desk))) rfl hg24_3) (tv (tB (decide (a.Issues = b.Issues))) rfl)) ?_
        refine mO (tB (decide (a.Issues = b.Issues))) rfl ?_
        refine bool_way (decide (a.Issues = b.Issues)) (fun hg31_4 => ?_) (fun hg31_4 => ?_)
        · have fhg31_4 : a.Issues = b.Issues := of_decide_eq_true hg31_4
          refine gF hg31_4 rfl rfl (OF.fieldAddrO (tv (T.op 0 0) rfl) fa53_4) ?_
          refine gL hg31_4 rfl rfl (OL.loadO1 (t := (rd 2 eUsed a.Uses)) (tv (T.op 0 9) rfl) rfl rfl st49) ?_
          refine gF hg31_4 rfl rfl (OF.fieldAddrO (tv (T.op 1 0) rfl) fa53_4) ?_
          refine gL hg31_4 rfl rfl (OL.loadO1 (t := (rd 2 eUsed b.Uses)) (tv (T.op 1 9) rfl) rfl rfl st49) ?_
          refine VRunO.chain (VWant.on (b := (decide (a.Issues = b.Issues))) rfl rfl hg31_4) (cS (vc (tv (rd 2 eUsed a.Uses) rfl) (vc (tv (rd 2 eUsed b.Uses) rfl) VEvs.nil)) (lp rfl (lp rfl (LendL.nil))) (W_slices_Equal_impl_Used_impl_Used_ (n + 5) a.Uses b.Uses (by first | assumption | omega) (by first | assumption | omega)) rfl rfl) ?_
          refine fO (OF.pickT (VEv.tmpB (b := (decide (a.Issues = b.Issues))) rfl hg31_4) (tv (tB (decide (a.Uses = b.Uses))) rfl)) ?_
          refine mO (tB (decide (a.Uses = b.Uses))) rfl ?_
          refine bool_way (decide (a.Uses = b.Uses)) (fun hg38_5 => ?_) (fun hg38_5 => ?_)
          · have fhg38_5 : a.Uses = b.Uses := of_decide_eq_true hg38_5
            refine gF hg38_5 rfl rfl (OF.fieldAddrO (tv (T.op 0 0) rfl) fa53_5) ?_
            refine gL hg38_5 rfl rfl (OL.loadO1 (t := (rd 5 eCorrection a.Corrections)) (tv (T.op 0 10) rfl) rfl rfl st50) ?_
            refine gF hg38_5 rfl rfl (OF.fieldAddrO (tv (T.op 1 0) rfl) fa53_5) ?_
            refine gL hg38_5 rfl rfl (OL.loadO1 (t := (rd 5 eCorrection b.Corrections)) (tv (T.op 1 10) rfl) rfl rfl st50) ?_
            refine VRunO.chain (VWant.on (b := (decide (a.Uses = b.Uses))) rfl rfl hg38_5) (cS (us := [(rd 5 eCorrection a.Corrections), (rd 5 eCorrection b.Corrections), (T.fn 76 [])]) (vc (tv (rd 5 eCorrection a.Corrections) rfl) (vc (tv (rd 5 eCorrection b.Corrections) rfl) (vc (VEv.func 76) VEvs.nil))) (lp rfl (lp rfl (LendL.cons (Lend.fn (LendL.nil)) (LendL.nil)))) (W_slices_EqualFunc_impl_Correction_impl_Correction_impl_Correction_impl_Correction_impl_EqualHouses_1 (n + 2) a.Corrections b.Corrections (by first | assumption | omega) (by first | assumption | omega)) rfl rfl) ?_
            refine fO (OF.pickT (VEv.tmpB (b := (decide (a.Uses = b.Uses))) rfl hg38_5) (tv (tB (decide (a.Corrections = b.Corrections))) rfl)) ?_
            refine mO (tB (decide (a.Corrections = b.Corrections))) rfl ?_
            refine bool_way (decide (a.Corrections = b.Corrections)) (fun hg45_6 => ?_) (fun hg45_6 => ?_)
            · have fhg45_6 : a.Corrections = b.Corrections := of_decide_eq_true hg45_6
              refine gF hg45_6 rfl rfl (OF.fieldAddrO (tv (T.op 0 0) rfl) fa53_6) ?_
              refine gL hg45_6 rfl rfl (OL.loadO1 (t := (rd 4 eEntry a.Entries)) (tv (T.op 0 11) rfl) rfl rfl st51) ?_
              refine gF hg45_6 rfl rfl (OF.fieldAddrO (tv (T.op 1 0) rfl) fa53_6) ?_
              refine gL hg45_6 rfl rfl (OL.loadO1 (t := (rd 4 eEntry b.Entries)) (tv (T.op 1 11) rfl) rfl rfl st51) ?_
              refine VRunO.chain (VWant.on (b := (decide (a.Corrections = b.Corrections))) rfl rfl hg45_6) (cS (vc (tv (rd 4 eEntry a.Entries) rfl) (vc (tv (rd 4 eEntry b.Entries) rfl) VEvs.nil)) (lp rfl (lp rfl (LendL.nil))) (W_slices_Equal_impl_Entry_impl_Entry_ (n + 5) a.Entries b.Entries (by first | assumption | omega) (by first | assumption | omega)) rfl rfl) ?_
              refine fO (OF.pickT (VEv.tmpB (b := (decide (a.Corrections = b.Corrections))) rfl hg45_6) (tv (tB (decide (a.Entries = b.Entries))) rfl)) ?_
              refine mO (tB (decide (a.Entries = b.Entries))) rfl ?_
              refine bool_way (decide (a.Entries = b.Entries)) (fun hg52_7 => ?_) (fun hg52_7 => ?_)
              · have fhg52_7 : a.Entries = b.Entries := of_decide_eq_true hg52_7
                refine gF hg52_7 rfl rfl (OF.fieldAddrO (tv (T.op 0 0) rfl) fa53_7) ?_
                refine gL hg52_7 rfl rfl (OL.loadO1 (t := (tI a.Now)) (tv (T.op 0 12) rfl) rfl rfl st3) ?_
                refine gF hg52_7 rfl rfl (OF.fieldAddrO (tv (T.op 1 0) rfl) fa53_7) ?_
                refine gL hg52_7 rfl rfl (OL.loadO1 (t := (tI b.Now)) (tv (T.op 1 12) rfl) rfl rfl st3) ?_
                refine gF hg52_7 rfl rfl (B.eql (c := (decide (a.Now = b.Now))) (tv (tI a.Now) rfl) (tv (tI b.Now) rfl) rfl) ?_
                refine fO (OF.pickT (VEv.tmpB (b := (decide (a.Entries = b.Entries))) rfl hg52_7) (tv (tB (decide (a.Now = b.Now))) rfl)) ?_
                refine aO (tB (decide (a.Now = b.Now))) rfl ?_
                refine nt ?_
                refine rt ?_
                refine vb (b' := (decide (a.Now = b.Now))) rfl ?_
                obtain ⟨a1, a2, a3, a4, a5, a6, a7, a8⟩ := a
                obtain ⟨b1, b2, b3, b4, b5, b6, b7, b8⟩ := b
                simp_all
              have fhg52_7 : ¬ (a.Entries = b.Entries) := of_decide_eq_false hg52_7
              refine oO rfl rfl hg52_7 ?_
              refine oO rfl rfl hg52_7 ?_
              refine oO rfl rfl hg52_7 ?_
              refine oO rfl rfl hg52_7 ?_
              refine oO rfl rfl hg52_7 ?_
              refine fO (OF.pickF (VEv.tmpB (b := (decide (a.Entries = b.Entries))) rfl hg52_7) (VEv.bool false)) ?_
              refine aO (tB false) rfl ?_
              refine nt ?_
              refine rt ?_
              refine vb (b' := false) rfl ?_
              obtain ⟨a1, a2, a3, a4, a5, a6, a7, a8⟩ := a
              obtain ⟨b1, b2, b3, b4, b5, b6, b7, b8⟩ := b
              simp_all
            have fhg45_6 : ¬ (a.Corrections = b.Corrections) := of_decide_eq_false hg45_6
            refine oO rfl rfl hg45_6 ?_
            refine oO rfl rfl hg45_6 ?_
            refine oO rfl rfl hg45_6 ?_
            refine oO rfl rfl hg45_6 ?_
            refine oO rfl rfl hg45_6 ?_
            refine fO (OF.pickF (VEv.tmpB (b := (decide (a.Corrections = b.Corrections))) rfl hg45_6) (VEv.bool false)) ?_
            refine mO (tB false) rfl ?_
            refine VRunO.off (VWant.not (b := false) rfl rfl rfl) ?_
            refine VRunO.off (VWant.not (b := false) rfl rfl rfl) ?_
            refine VRunO.off (VWant.not (b := false) rfl rfl rfl) ?_
            refine VRunO.off (VWant.not (b := false) rfl rfl rfl) ?_
            refine VRunO.off (VWant.not (b := false) rfl rfl rfl) ?_
            refine fO (OF.pickF (tv (tB false) rfl) (VEv.bool false)) ?_
            refine aO (tB false) rfl ?_
            refine nt ?_
            refine rt ?_
            refine vb (b' := false) rfl ?_
            obtain ⟨a1, a2, a3, a4, a5, a6, a7, a8⟩ := a
            obtain ⟨b1, b2, b3, b4, b5, b6, b7, b8⟩ := b
            simp_all
          have fhg38_5 : ¬ (a.Uses = b.Uses) := of_decide_eq_false hg38_5
          refine oO rfl rfl hg38_5 ?_
          refine oO rfl rfl hg38_5 ?_
          refine oO rfl rfl hg38_5 ?_
          refine oO rfl rfl hg38_5 ?_
          refine oO rfl rfl hg38_5 ?_
          refine fO (OF.pickF (VEv.tmpB (b := (decide (a.Uses = b.Uses))) rfl hg38_5) (VEv.bool false)) ?_
          refine mO (tB false) rfl ?_
          refine VRunO.off (VWant.not (b := false) rfl rfl rfl) ?_
          refine VRunO.off (VWant.not (b := false) rfl rfl rfl) ?_
          refine VRunO.off (VWant.not (b := false) rfl rfl rfl) ?_
          refine VRunO.off (VWant.not (b := false) rfl rfl rfl) ?_
          refine VRunO.off (VWant.not (b := false) rfl rfl rfl) ?_
          refine fO (OF.pickF (tv (tB false) rfl) (VEv.bool false)) ?_
          refine mO (tB false) rfl ?_
          refine VRunO.off (VWant.not (b := false) rfl rfl rfl) ?_
          refine VRunO.off (VWant.not (b := false) rfl rfl rfl) ?_
          refine VRunO.off (VWant.not (b := false) rfl rfl rfl) ?_
          refine VRunO.off (VWant.not (b := false) rfl rfl rfl) ?_
          refine VRunO.off (VWant.not (b := false) rfl rfl rfl) ?_
          refine fO (OF.pickF (tv (tB false) rfl) (VEv.bool false)) ?_
          refine aO (tB false) rfl ?_
          refine nt ?_
          refine rt ?_
          refine vb (b' := false) rfl ?_
          obtain ⟨a1, a2, a3, a4, a5, a6, a7, a8⟩ := a
          obtain ⟨b1, b2, b3, b4, b5, b6, b7, b8⟩ := b
          simp_all
        have fhg31_4 : ¬ (a.Issues = b.Issues) := of_decide_eq_false hg31_4
        refine oO rfl rfl hg31_4 ?_
        refine oO rfl rfl hg31_4 ?_
        refine oO rfl rfl hg31_4 ?_
        refine oO rfl rfl hg31_4 ?_
        refine oO rfl rfl hg31_4 ?_
        refine fO (OF.pickF (VEv.tmpB (b := (decide (a.Issues = b.Issues))) rfl hg31_4) (VEv.bool false)) ?_
        refine mO (tB false) rfl ?_
        refine VRunO.off (VWant.not (b := false) rfl rfl rfl) ?_
        refine VRunO.off (VWant.not (b := false) rfl rfl rfl) ?_
        refine VRunO.off (VWant.not (b := false) rfl rfl rfl) ?_
        refine VRunO.off (VWant.not (b := false) rfl rfl rfl) ?_
        refine VRunO.off (VWant.not (b := false) rfl rfl rfl) ?_
        refine fO (OF.pickF (tv (tB false) rfl) (VEv.bool false)) ?_
        refine mO (tB false) rfl ?_
        refine VRunO.off (VWant.not (b := false) rfl rfl rfl) ?_
        refine VRunO.off (VWant.not (b := false) rfl rfl rfl) ?_
        refine VRunO.off (VWant.not (b := false) rfl rfl rfl) ?_
        refine VRunO.off (VWant.not (b := false) rfl rfl rfl) ?_
        refine VRunO.off (VWant.not (b := false) rfl rfl rfl) ?_
        refine fO (OF.pickF (tv (tB false) rfl) (VEv.bool false)) ?_
        refine mO (tB false) rfl ?_
        refine VRunO.off (VWant.not (b := false) rfl rfl rfl) ?_
        refine VRunO.off (VWant.not (b := false) rfl rfl rfl) ?_
        refine VRunO.off (VWant.not (b := false) rfl rfl rfl) ?_
        refine VRunO.off (VWant.not (b := false) rfl rfl rfl) ?_
        refine VRunO.off (VWant.not (b := false) rfl rfl rfl) ?_
        refine fO (OF.pickF (tv (tB false) rfl) (VEv.bool false)) ?_
        refine aO (tB false) rfl ?_
        refine nt ?_
        refine rt ?_
        refine vb (b' := false) rfl ?_
        obtain ⟨a1, a2, a3, a4, a5, a6, a7, a8⟩ := a
        obtain ⟨b1, b2, b3, b4, b5, b6, b7, b8⟩ := b
        simp_all
      have fhg24_3 : ¬ (a.Desk = b.Desk) := of_decide_eq_false hg24_3
      refine oO rfl rfl hg24_3 ?_
      refine oO rfl rfl hg24_3 ?_
      refine oO rfl rfl hg24_3 ?_
      refine oO rfl rfl hg24_3 ?_
      refine oO rfl rfl hg24_3 ?_
      refine fO (OF.pickF (VEv.tmpB (b := (decide (a.Desk = b.Desk))) rfl hg24_3) (VEv.bool false)) ?_
      refine mO (tB false) rfl ?_
      refine VRunO.off (VWant.not (b := false) rfl rfl rfl) ?_
      refine VRunO.off (VWant.not (b := false) rfl rfl rfl) ?_
      refine VRunO.off (VWant.not (b := false) rfl rfl rfl) ?_
      refine VRunO.off (VWant.not (b := false) rfl rfl rfl) ?_
      refine VRunO.off (VWant.not (b := false) rfl rfl rfl) ?_
      refine fO (OF.pickF (tv (tB false) rfl) (VEv.bool false)) ?_
      refine mO (tB false) rfl ?_
      refine VRunO.off (VWant.not (b := false) rfl rfl rfl) ?_
      refine VRunO.off (VWant.not (b := false) rfl rfl rfl) ?_
      refine VRunO.off (VWant.not (b := false) rfl rfl rfl) ?_
      refine VRunO.off (VWant.not (b := false) rfl rfl rfl) ?_
      refine VRunO.off (VWant.not (b := false) rfl rfl rfl) ?_
      refine fO (OF.pickF (tv (tB false) rfl) (VEv.bool false)) ?_
      refine mO (tB false) rfl ?_
      refine VRunO.off (VWant.not (b := false) rfl rfl rfl) ?_
      refine VRunO.off (VWant.not (b := false) rfl rfl rfl) ?_
      refine VRunO.off (VWant.not (b := false) rfl rfl rfl) ?_
      refine VRunO.off (VWant.not (b := false) rfl rfl rfl) ?_
      refine VRunO.off (VWant.not (b := false) rfl rfl rfl) ?_
      refine fO (OF.pickF (tv (tB false) rfl) (VEv.bool false)) ?_
      refine mO (tB false) rfl ?_
      refine VRunO.off (VWant.not (b := false) rfl rfl rfl) ?_
      refine VRunO.off (VWant.not (b := false) rfl rfl rfl) ?_
      refine VRunO.off (VWant.not (b := false) rfl rfl rfl) ?_
      refine VRunO.off (VWant.not (b := false) rfl rfl rfl) ?_
      refine VRunO.off (VWant.not (b := false) rfl rfl rfl) ?_
      refine fO (OF.pickF (tv (tB false) rfl) (VEv.bool false)) ?_
      refine aO (tB false) rfl ?_
      refine nt ?_
      refine rt ?_
      refine vb (b' := false) rfl ?_
      obtain ⟨a1, a2, a3, a4, a5, a6, a7, a8⟩ := a
      obtain ⟨b1, b2, b3, b4, b5, b6, b7, b8⟩ := b
      simp_all
    have fhg17_2 : ¬ (a.Dict = b.Dict) := of_decide_eq_false hg17_2
    refine oO rfl rfl hg17_2 ?_
    refine oO rfl rfl hg17_2 ?_
    refine oO rfl rfl hg17_2 ?_
    refine oO rfl rfl hg17_2 ?_
    refine oO rfl rfl hg17_2 ?_
    refine fO (OF.pickF (VEv.tmpB (b := (decide (a.Dict = b.Dict))) rfl hg17_2) (VEv.bool false)) ?_
    refine mO (tB false) rfl ?_
    refine VRunO.off (VWant.not (b := false) rfl rfl rfl) ?_
    refine VRunO.off (VWant.not (b := false) rfl rfl rfl) ?_
    refine VRunO.off (VWant.not (b := false) rfl rfl rfl) ?_
    refine VRunO.off (VWant.not (b := false) rfl rfl rfl) ?_
    refine VRunO.off (VWant.not (b := false) rfl rfl rfl) ?_
    refine fO (OF.pickF (tv (tB false) rfl) (VEv.bool false)) ?_
    refine mO (tB false) rfl ?_
    refine VRunO.off (VWant.not (b := false) rfl rfl rfl) ?_
    refine VRunO.off (VWant.not (b := false) rfl rfl rfl) ?_
    refine VRunO.off (VWant.not (b := false) rfl rfl rfl) ?_
    refine VRunO.off (VWant.not (b := false) rfl rfl rfl) ?_
    refine VRunO.off (VWant.not (b := false) rfl rfl rfl) ?_
    refine fO (OF.pickF (tv (tB false) rfl) (VEv.bool false)) ?_
    refine mO (tB false) rfl ?_
    refine VRunO.off (VWant.not (b := false) rfl rfl rfl) ?_
    refine VRunO.off (VWant.not (b := false) rfl rfl rfl) ?_
    refine VRunO.off (VWant.not (b := false) rfl rfl rfl) ?_
    refine VRunO.off (VWant.not (b := false) rfl rfl rfl) ?_
    refine VRunO.off (VWant.not (b := false) rfl rfl rfl) ?_
    refine fO (OF.pickF (tv (tB false) rfl) (VEv.bool false)) ?_
    refine mO (tB false) rfl ?_
    refine VRunO.off (VWant.not (b := false) rfl rfl rfl) ?_
    refine VRunO.off (VWant.not (b := false) rfl rfl rfl) ?_
    refine VRunO.off (VWant.not (b := false) rfl rfl rfl) ?_
    refine VRunO.off (VWant.not (b := false) rfl rfl rfl) ?_
    refine VRunO.off (VWant.not (b := false) rfl rfl rfl) ?_
    refine fO (OF.pickF (tv (tB false) rfl) (VEv.bool false)) ?_
    refine mO (tB false) rfl ?_
    refine VRunO.off (VWant.not (b := false) rfl rfl rfl) ?_
    refine VRunO.off (VWant.not (b := false) rfl rfl rfl) ?_
    refine VRunO.off (VWant.not (b := false) rfl rfl rfl) ?_
    refine VRunO.off (VWant.not (b := false) rfl rfl rfl) ?_
    refine VRunO.off (VWant.not (b := false) rfl rfl rfl) ?_
    refine fO (OF.pickF (tv (tB false) rfl) (VEv.bool false)) ?_
    refine aO (tB false) rfl ?_
    refine nt ?_
    refine rt ?_
    refine vb (b' := false) rfl ?_
    obtain ⟨a1, a2, a3, a4, a5, a6, a7, a8⟩ := a
    obtain ⟨b1, b2, b3, b4, b5, b6, b7, b8⟩ := b
    simp_all
  have fhg10_1 : ¬ (a.List = b.List) := of_decide_eq_false hg10_1
  refine oO rfl rfl hg10_1 ?_
  refine oO rfl rfl hg10_1 ?_
  refine oO rfl rfl hg10_1 ?_
  refine oO rfl rfl hg10_1 ?_
  refine oO rfl rfl hg10_1 ?_
  refine fO (OF.pickF (VEv.tmpB (b := (decide (a.List = b.List))) rfl hg10_1) (VEv.bool false)) ?_
  refine mO (tB false) rfl ?_
  refine VRunO.off (VWant.not (b := false) rfl rfl rfl) ?_
  refine VRunO.off (VWant.not (b := false) rfl rfl rfl) ?_
  refine VRunO.off (VWant.not (b := false) rfl rfl rfl) ?_
  refine VRunO.off (VWant.not (b := false) rfl rfl rfl) ?_
  refine VRunO.off (VWant.not (b := false) rfl rfl rfl) ?_
  refine fO (OF.pickF (tv (tB false) rfl) (VEv.bool false)) ?_
  refine mO (tB false) rfl ?_
  refine VRunO.off (VWant.not (b := false) rfl rfl rfl) ?_
  refine VRunO.off (VWant.not (b := false) rfl rfl rfl) ?_
  refine VRunO.off (VWant.not (b := false) rfl rfl rfl) ?_
  refine VRunO.off (VWant.not (b := false) rfl rfl rfl) ?_
  refine VRunO.off (VWant.not (b := false) rfl rfl rfl) ?_
  refine fO (OF.pickF (tv (tB false) rfl) (VEv.bool false)) ?_
  refine mO (tB false) rfl ?_
  refine VRunO.off (VWant.not (b := false) rfl rfl rfl) ?_
  refine VRunO.off (VWant.not (b := false) rfl rfl rfl) ?_
  refine VRunO.off (VWant.not (b := false) rfl rfl rfl) ?_
  refine VRunO.off (VWant.not (b := false) rfl rfl rfl) ?_
  refine VRunO.off (VWant.not (b := false) rfl rfl rfl) ?_
  refine fO (OF.pickF (tv (tB false) rfl) (VEv.bool false)) ?_
  refine mO (tB false) rfl ?_
  refine VRunO.off (VWant.not (b := false) rfl rfl rfl) ?_
  refine VRunO.off (VWant.not (b := false) rfl rfl rfl) ?_
  refine VRunO.off (VWant.not (b := false) rfl rfl rfl) ?_
  refine VRunO.off (VWant.not (b := false) rfl rfl rfl) ?_
  refine VRunO.off (VWant.not (b := false) rfl rfl rfl) ?_
  refine fO (OF.pickF (tv (tB false) rfl) (VEv.bool false)) ?_
  refine mO (tB false) rfl ?_
  refine VRunO.off (VWant.not (b := false) rfl rfl rfl) ?_
  refine VRunO.off (VWant.not (b := false) rfl rfl rfl) ?_
  refine VRunO.off (VWant.not (b := false) rfl rfl rfl) ?_
  refine VRunO.off (VWant.not (b := false) rfl rfl rfl) ?_
  refine VRunO.off (VWant.not (b := false) rfl rfl rfl) ?_
  refine fO (OF.pickF (tv (tB false) rfl) (VEv.bool false)) ?_
  refine mO (tB false) rfl ?_
  refine VRunO.off (VWant.not (b := false) rfl rfl rfl) ?_
  refine VRunO.off (VWant.not (b := false) rfl rfl rfl) ?_
  refine VRunO.off (VWant.not (b := false) rfl rfl rfl) ?_
  refine VRunO.off (VWant.not (b := false) rfl rfl rfl) ?_
  refine VRunO.off (VWant.not (b := false) rfl rfl rfl) ?_
  refine fO (OF.pickF (tv (tB false) rfl) (VEv.bool false)) ?_
  refine aO (tB false) rfl ?_
  refine nt ?_
  refine rt ?_
  refine vb (b' := false) rfl ?_
  obtain ⟨a1, a2, a3, a4, a5, a6, a7, a8⟩ := a
  obtain ⟨b1, b2, b3, b4, b5, b6, b7, b8⟩ := b
  simp_all
theorem W_spec_l33Lists (n : Nat) (a : D.House) (b : D.House) (hza : zHouse a ≤ mx) (hzb : zHouse b ≤ mx) : Pure (acall Try.prog (n + 1)) 59 [(T.agg (eHouse false a)), (T.agg (eHouse false b))] (tB (decide (a.List = b.List ∧ a.Dict = b.Dict ∧ a.Uses = b.Uses ∧ a.Entries = b.Entries))) := by
  refine Pure.intro (rs := [ResultVar.tmp 4]) Try.func59 rfl rfl rfl (E0 := [(0, (T.agg (eHouse false a))), (1, (T.agg (eHouse false b)))]) rfl ?_
  have hlim : lim = 1099511627776 := rfl
  have hmx : mx = 1048576 := rfl
  have hmax : maxLen = 9223372036854775807 := rfl
  simp only [zHouse] at hza hzb
  have hlaList := zL_len (z := zListed) a.List
  have hlaDict := zL_len (z := zMeaning) a.Dict
  have hlaIssues := zL_len (z := zIssue) a.Issues
  have hlaUses := zL_len (z := zUsed) a.Uses
  have hlaCorrections := zL_len (z := zCorrection) a.Corrections
  have hlaEntries := zL_len (z := zEntry) a.Entries
  have hlbList := zL_len (z := zListed) b.List
  have hlbDict := zL_len (z := zMeaning) b.Dict
  have hlbIssues := zL_len (z := zIssue) b.Issues
  have hlbUses := zL_len (z := zUsed) b.Uses
  have hlbCorrections := zL_len (z := zCorrection) b.Corrections
  have hlbEntries := zL_len (z := zEntry) b.Entries
  refine sr ?_
  refine kO (B.box (ts := (eHouse false a)) (tv (T.agg (eHouse false a)) rfl) nofun rfl) ?_
  refine kO (B.box (ts := (eHouse false b)) (tv (T.agg (eHouse false b)) rfl) nofun rfl) ?_
  refine fO (OF.assign (VEv.bool false)) ?_
  refine nt ?_
  refine sq ?_
  refine sr ?_
  refine fO (OF.fieldAddrO (tv (T.op 0 0) rfl) fa53_0) ?_
  refine lO (OL.loadO1 (t := (rd 4 eListed a.List)) (tv (T.op 0 0) rfl) rfl rfl st46) ?_
  refine lO (B.lenR (m := a.List.length) (tv (rd 4 eListed a.List) rfl) Try.underlying46 (List.length_map ..)) ?_
  refine fO (OF.fieldAddrO (tv (T.op 1 0) rfl) fa53_0) ?_
  refine lO (OL.loadO1 (t := (rd 4 eListed b.List)) (tv (T.op 1 0) rfl) rfl rfl st46) ?_
  refine lO (B.lenR (m := b.List.length) (tv (rd 4 eListed b.List) rfl) Try.underlying46 (List.length_map ..)) ?_
  refine fO (B.neq (c := (!(decide (a.List.length = b.List.length)))) (tv (tN a.List.length) rfl) (tv (tN b.List.length) rfl) (by first | (exact decNn (by omega)))) ?_
  refine mO (tB (!(decide (a.List.length = b.List.length)))) rfl ?_
  refine bool_way (!(decide (a.List.length = b.List.length))) (fun hg16_1 => ?_) (fun hg16_1 => ?_)
  · have fhg16_1 : ¬ (a.List.length = b.List.length) := ndT hg16_1
    refine oO rfl rfl hg16_1 ?_
    refine oO rfl rfl hg16_1 ?_
    refine oO rfl rfl hg16_1 ?_
    refine oO rfl rfl hg16_1 ?_
    refine oO rfl rfl hg16_1 ?_
    refine oO rfl rfl hg16_1 ?_
    refine oO rfl rfl hg16_1 ?_
    refine fO (OF.pickT (VEv.tmpB (b := (!(decide (a.List.length = b.List.length)))) rfl hg16_1) (VEv.bool true)) ?_
    refine mO (tB true) rfl ?_
    refine VRunO.off (VWant.not (b := true) rfl rfl rfl) ?_
    refine VRunO.off (VWant.not (b := true) rfl rfl rfl) ?_
    refine VRunO.off (VWant.not (b := true) rfl rfl rfl) ?_
    refine VRunO.off (VWant.not (b := true) rfl rfl rfl) ?_
    refine VRunO.off (VWant.not (b := true) rfl rfl rfl) ?_
    refine VRunO.off (VWant.not (b := true) rfl rfl rfl) ?_
    refine VRunO.off (VWant.not (b := true) rfl rfl rfl) ?_
    refine fO (OF.pickT (tv (tB true) rfl) (VEv.bool true)) ?_
    refine mO (tB true) rfl ?_
    refine VRunO.off (VWant.not (b := true) rfl rfl rfl) ?_
    refine VRunO.off (VWant.not (b := true) rfl rfl rfl) ?_
    refine VRunO.off (VWant.not (b := true) rfl rfl rfl) ?_
    refine VRunO.off (VWant.not (b := true) rfl rfl rfl) ?_
    refine VRunO.off (VWant.not (b := true) rfl rfl rfl) ?_
    refine VRunO.off (VWant.not (b := true) rfl rfl rfl) ?_
    refine VRunO.off (VWant.not (b := true) rfl rfl rfl) ?_
    refine fO (OF.pickT (tv (tB true) rfl) (VEv.bool true)) ?_
    refine nt ?_
    refine VRun.cond (tv (tB true) rfl) (fun hk2 => ?_) (fun hk2 => ?_)
    · skip
      refine sr ?_
      refine fO (OF.assign (VEv.bool false)) ?_
      refine nt ?_
      refine rt ?_
      refine tr ?_
      refine vb (b' := false) rfl ?_
      first | (symm; rw [decide_eq_true_eq]; exact ⟨e1, e3, e5, e7⟩) | (symm; rw [decide_eq_false_iff_not]; rintro ⟨h1, h2, h3, h4⟩; simp only [h1, h2, h3, h4] at *; first | omega | (rw [hx1] at hx2; exact absurd (Option.some.inj hx2) (by assumption)) | (simp_all; done))
    · exact absurd (rfl.symm.trans hk2) (by decide)
  have fhg16_1 : a.List.length = b.List.length := ndF hg16_1
  refine gF hg16_1 rfl rfl (OF.fieldAddrO (tv (T.op 0 0) rfl) fa53_1) ?_
  refine gL hg16_1 rfl rfl (OL.loadO1 (t := (rd 2 eMeaning a.Dict)) (tv (T.op 0 1) rfl) rfl rfl st47) ?_
  refine gL hg16_1 rfl rfl (B.lenR (m := a.Dict.length) (tv (rd 2 eMeaning a.Dict) rfl) Try.underlying47 (List.length_map ..)) ?_
  refine gF hg16_1 rfl rfl (OF.fieldAddrO (tv (T.op 1 0) rfl) fa53_1) ?_
  refine gL hg16_1 rfl rfl (OL.loadO1 (t := (rd 2 eMeaning b.Dict)) (tv (T.op 1 1) rfl) rfl rfl st47) ?_
  refine gL hg16_1 rfl rfl (B.lenR (m := b.Dict.length) (tv (rd 2 eMeaning b.Dict) rfl) Try.underlying47 (List.length_map ..)) ?_
  refine gF hg16_1 rfl rfl (B.neq (c := (!(decide (a.Dict.length = b.Dict.length)))) (tv (tN a.Dict.length) rfl) (tv (tN b.Dict.length) rfl) (by first | (exact decNn (by omega)))) ?_
  refine fO (OF.pickF (VEv.tmpB (b := (!(decide (a.List.length = b.List.length)))) rfl hg16_1) (tv (tB (!(decide (a.Dict.length = b.Dict.length)))) rfl)) ?_
  refine mO (tB (!(decide (a.Dict.length = b.Dict.length)))) rfl ?_
  refine bool_way (!(decide (a.Dict.length = b.Dict.length))) (fun hg25_3 => ?_) (fun hg25_3 => ?_)
  · have fhg25_3 : ¬ (a.Dict.length = b.Dict.length) := ndT hg25_3
    refine oO rfl rfl hg25_3 ?_
    refine oO rfl rfl hg25_3 ?_
    refine oO rfl rfl hg25_3 ?_
    refine oO rfl rfl hg25_3 ?_
    refine oO rfl rfl hg25_3 ?_
    refine oO rfl rfl hg25_3 ?_
    refine oO rfl rfl hg25_3 ?_
    refine fO (OF.pickT (VEv.tmpB (b := (!(decide (a.Dict.length = b.Dict.length)))) rfl hg25_3) (VEv.bool true)) ?_
    refine mO (tB true) rfl ?_
    refine VRunO.off (VWant.not (b := true) rfl rfl rfl) ?_
    refine VRunO.off (VWant.not (b := true) rfl rfl rfl) ?_
    refine VRunO.off (VWant.not (b := true) rfl rfl rfl) ?_
    refine VRunO.off (VWant.not (b := true) rfl rfl rfl) ?_
    refine VRunO.off (VWant.not (b := true) rfl rfl rfl) ?_
    refine VRunO.off (VWant.not (b := true) rfl rfl rfl) ?_
    refine VRunO.off (VWant.not (b := true) rfl rfl rfl) ?_
    refine fO (OF.pickT (tv (tB true) rfl) (VEv.bool true)) ?_
    refine nt ?_
    refine VRun.cond (tv (tB true) rfl) (fun hk4 => ?_) (fun hk4 => ?_)
    · skip
      refine sr ?_
      refine fO (OF.assign (VEv.bool false)) ?_
      refine nt ?_
      refine rt ?_
      refine tr ?_
      refine vb (b' := false) rfl ?_
      first | (symm; rw [decide_eq_true_eq]; exact ⟨e1, e3, e5, e7⟩) | (symm; rw [decide_eq_false_iff_not]; rintro ⟨h1, h2, h3, h4⟩; simp only [h1, h2, h3, h4] at *; first | omega | (rw [hx1] at hx2; exact absurd (Option.some.inj hx2) (by assumption)) | (simp_all; done))
    · exact absurd (rfl.symm.trans hk4) (by decide)
  have fhg25_3 : a.Dict.length = b.Dict.length := ndF hg25_3
  refine gF hg25_3 rfl rfl (OF.fieldAddrO (tv (T.op 0 0) rfl) fa53_4) ?_
  refine gL hg25_3 rfl rfl (OL.loadO1 (t := (rd 2 eUsed a.Uses)) (tv (T.op 0 9) rfl) rfl rfl st49) ?_
  refine gL hg25_3 rfl rfl (B.lenR (m := a.Uses.length) (tv (rd 2 eUsed a.Uses) rfl) Try.underlying49 (List.length_map ..)) ?_
  refine gF hg25_3 rfl rfl (OF.fieldAddrO (tv (T.op 1 0) rfl) fa53_4) ?_
  refine gL hg25_3 rfl rfl (OL.loadO1 (t := (rd 2 eUsed b.Uses)) (tv (T.op 1 9) rfl) rfl rfl st49) ?_
  refine gL hg25_3 rfl rfl (B.lenR (m := b.Uses.length) (tv (rd 2 eUsed b.Uses) rfl) Try.underlying49 (List.length_map ..)) ?_
  refine gF hg25_3 rfl rfl (B.neq (c := (!(decide (a.Uses.length = b.Uses.length)))) (tv (tN a.Uses.length) rfl) (tv (tN b.Uses.length) rfl) (by first | (exact decNn (by omega)))) ?_
  refine fO (OF.pickF (VEv.tmpB (b := (!(decide (a.Dict.length = b.Dict.length)))) rfl hg25_3) (tv (tB (!(decide (a.Uses.length = b.Uses.length)))) rfl)) ?_
  refine mO (tB (!(decide (a.Uses.length = b.Uses.length)))) rfl ?_
  refine bool_way (!(decide (a.Uses.length = b.Uses.length))) (fun hg34_5 => ?_) (fun hg34_5 => ?_)
  · have fhg34_5 : ¬ (a.Uses.length = b.Uses.length) := ndT hg34_5
    refine oO rfl rfl hg34_5 ?_
    refine oO rfl rfl hg34_5 ?_
    refine oO rfl rfl hg34_5 ?_
    refine oO rfl rfl hg34_5 ?_
    refine oO rfl rfl hg34_5 ?_
    refine oO rfl rfl hg34_5 ?_
    refine oO rfl rfl hg34_5 ?_
    refine fO (OF.pickT (VEv.tmpB (b := (!(decide (a.Uses.length = b.Uses.length)))) rfl hg34_5) (VEv.bool true)) ?_
    refine nt ?_
    refine VRun.cond (tv (tB true) rfl) (fun hk6 => ?_) (fun hk6 => ?_)
    · skip
      refine sr ?_
      refine fO (OF.assign (VEv.bool false)) ?_
      refine nt ?_
      refine rt ?_
      refine tr ?_
      refine vb (b' := false) rfl ?_
      first | (symm; rw [decide_eq_true_eq]; exact ⟨e1, e3, e5, e7⟩) | (symm; rw [decide_eq_false_iff_not]; rintro ⟨h1, h2, h3, h4⟩; simp only [h1, h2, h3, h4] at *; first | omega | (rw [hx1] at hx2; exact absurd (Option.some.inj hx2) (by assumption)) | (simp_all; done))
    · exact absurd (rfl.symm.trans hk6) (by decide)
  have fhg34_5 : a.Uses.length = b.Uses.length := ndF hg34_5
  refine gF hg34_5 rfl rfl (OF.fieldAddrO (tv (T.op 0 0) rfl) fa53_6) ?_
  refine gL hg34_5 rfl rfl (OL.loadO1 (t := (rd 4 eEntry a.Entries)) (tv (T.op 0 11) rfl) rfl rfl st51) ?_
  refine gL hg34_5 rfl rfl (B.lenR (m := a.Entries.length) (tv (rd 4 eEntry a.Entries) rfl) Try.underlying51 (List.length_map ..)) ?_
  refine gF hg34_5 rfl rfl (OF.fieldAddrO (tv (T.op 1 0) rfl) fa53_6) ?_
  refine gL hg34_5 rfl rfl (OL.loadO1 (t := (rd 4 eEntry b.Entries)) (tv (T.op 1 11) rfl) rfl rfl st51) ?_
  refine gL hg34_5 rfl rfl (B.lenR (m := b.Entries.length) (tv (rd 4 eEntry b.Entries) rfl) Try.underlying51 (List.length_map ..)) ?_
  refine gF hg34_5 rfl rfl (B.neq (c := (!(decide (a.Entries.length = b.Entries.length)))) (tv (tN a.Entries.length) rfl) (tv (tN b.Entries.length) rfl) (by first | (exact decNn (by omega)))) ?_
  refine fO (OF.pickF (VEv.tmpB (b := (!(decide (a.Uses.length = b.Uses.length)))) rfl hg34_5) (tv (tB (!(decide (a.Entries.length = b.Entries.length)))) rfl)) ?_
  refine nt ?_
  refine VRun.cond (tv (tB (!(decide (a.Entries.length = b.Entries.length)))) rfl) (fun hc0 => ?_) (fun hc0 => ?_)
  · have fhc0 : ¬ (a.Entries.length = b.Entries.length) := ndT hc0
    refine sr ?_
    refine fO (OF.assign (VEv.bool false)) ?_
    refine nt ?_
    refine rt ?_
    refine tr ?_
    refine vb (b' := false) rfl ?_
    first | (symm; rw [decide_eq_true_eq]; exact ⟨e1, e3, e5, e7⟩) | (symm; rw [decide_eq_false_iff_not]; rintro ⟨h1, h2, h3, h4⟩; simp only [h1, h2, h3, h4] at *; first | omega | (rw [hx1] at hx2; exact absurd (Option.some.inj hx2) (by assumption)) | (simp_all; done))
  have fhc0 : a.Entries.length = b.Entries.length := ndF hc0
  refine sk ?_
  refine tn ?_
  refine sq ?_
  refine sr ?_
  refine fO (OF.assign (VEv.int .i64 0)) ?_
  refine nt ?_
  refine VRun.block ?_
  refine VRun.loop (A := Nat) (fun s_ => [(2, (T.op 0 0)), (3, (T.op 1 0)), (5, (tN s_))]) (fun s_ => mkO [(0, (Obj.cells (eHouse false a))), (1, (Obj.cells (eHouse false b)))]) 2 (fun s_ => s_ ≤ a.List.length ∧ ∀ j, j < s_ → a.List[j]? = b.List[j]?) (fun s_ => a.List.length - s_) (0 : Nat) ?_ (Wk.mk (fun k => k) ?_ ?_ ?_) ?_
  · first | trivial | (simp; done) | omega | (constructor <;> simp)
  · exact (ball_cons ⟨rfl, rfl⟩ (ball_cons ⟨rfl, rfl⟩ (ball_cons ⟨rfl, rfl⟩ (ball_nil))))
  · exact (ball_cons ⟨rfl, (Nat.le_of_ble_eq_true rfl), rfl⟩ (ball_cons ⟨rfl, (Nat.le_of_ble_eq_true rfl), rfl⟩ (ball_nil)))
  · show List.Nodup ([0, 1] : List Nat)
    decide
  rintro i hI
  have hI' : i ≤ a.List.length ∧ ∀ j, j < i → a.List[j]? = b.List[j]? := hI
  clear hI
  show VRun _ _ _ [(2, (T.op 0 0)), (3, (T.op 1 0)), (5, (tN i))] (mkO [(0, (Obj.cells (eHouse false a))), (1, (Obj.cells (eHouse false b)))]) 2 _
  refine sq ?_
  refine sr ?_
  refine mO (tN i) rfl ?_
  refine fO (OF.fieldAddrO (tv (T.op 0 0) rfl) fa53_0) ?_
  refine lO (OL.loadO1 (t := (rd 4 eListed a.List)) (tv (T.op 0 0) rfl) rfl rfl st46) ?_
  refine lO (B.lenR (m := a.List.length) (tv (rd 4 eListed a.List) rfl) Try.underlying46 (List.length_map ..)) ?_
  refine fO (B.lss (c := (decide (i < a.List.length))) (tv (tN i) rfl) (tv (tN a.List.length) rfl) (by first | (exact decN (by omega)))) ?_
  refine nt ?_
  refine VRun.cond (tv (tB (decide (i < a.List.length))) rfl) (fun hc1 => ?_) (fun hc1 => ?_)
  · have fhc1 : i < a.List.length := of_decide_eq_true hc1
    refine sk ?_
    refine tn ?_
    refine sq ?_
    refine VRun.block ?_
    refine sq ?_
    refine VRun.draw (B := [[], [0], [], [2, 0, 1], [1, 0, 2, 3], [], [5], [], [7, 5, 6], [6, 5, 7, 8], [8, 7, 5, 6, 9, 3, 2, 0, 1, 4]]) (by kernel_rfl) (by kernel_rfl) ?_
    refine fD (OF.fieldAddrO (tv (T.op 0 0) rfl) fa53_0) rfl rfl ?_
    refine lD (OL.loadO1 (t := (rd 4 eListed a.List)) (tv (T.op 0 0) rfl) rfl rfl st46) rfl rfl ?_
    refine mD (tN i) rfl rfl ?_
    obtain ⟨x1, hx1⟩ : ∃ x, a.List[i]? = some x := ⟨_, List.getElem?_eq_getElem (by first | omega)⟩
    refine fD (OF.indexAddrR (row := (eListed false x1)) (i := i) (tv (rd 4 eListed a.List) rfl) (tv (tN i) rfl) rfl (map_at _ hx1) Try.underlying46 sz111 if111) rfl rfl ?_
    refine lD (OL.loadRn (us := (eListed false x1)) (tv (T.rp (eListed false x1)) rfl) st111 sz111 (Nat.le_of_ble_eq_true rfl) rfl) rfl rfl ?_
    refine fD (OF.fieldAddrO (tv (T.op 1 0) rfl) fa53_0) rfl rfl ?_
    refine lD (OL.loadO1 (t := (rd 4 eListed b.List)) (tv (T.op 1 0) rfl) rfl rfl st46) rfl rfl ?_
    refine mD (tN i) rfl rfl ?_
    obtain ⟨x2, hx2⟩ : ∃ x, b.List[i]? = some x := ⟨_, List.getElem?_eq_getElem (by first | omega)⟩
    refine fD (OF.indexAddrR (row := (eListed false x2)) (i := i) (tv (rd 4 eListed b.List) rfl) (tv (tN i) rfl) rfl (map_at _ hx2) Try.underlying46 sz111 if111) rfl rfl ?_
    refine lD (OL.loadRn (us := (eListed false x2)) (tv (T.rp (eListed false x2)) rfl) st111 sz111 (Nat.le_of_ble_eq_true rfl) rfl) rfl rfl ?_
    refine fD (B.neq111 (a := x1) (b := x2) (m := false) (m' := false) (tv (T.agg (eListed false x1)) rfl) (tv (T.agg (eListed false x2)) rfl)) rfl rfl ?_
    refine VRunD.nil ?_
    refine tn ?_
    refine VRun.cond (tv (tB (!(decide (x1 = x2)))) rfl) (fun hc2 => ?_) (fun hc2 => ?_)
    · have fhc2 : ¬ (x1 = x2) := ndT hc2
      refine sr ?_
      refine fO (OF.assign (VEv.bool false)) ?_
      refine nt ?_
      refine rt ?_
      refine vinB.r ?_
      refine tr ?_
      refine tr ?_
      refine vinB.r ?_
      refine tr ?_
      refine vb (b' := false) rfl ?_
      first | (symm; rw [decide_eq_true_eq]; exact ⟨e1, e3, e5, e7⟩) | (symm; rw [decide_eq_false_iff_not]; rintro ⟨h1, h2, h3, h4⟩; simp only [h1, h2, h3, h4] at *; first | omega | (rw [hx1] at hx2; exact absurd (Option.some.inj hx2) (by assumption)) | (simp_all; done))
    have fhc2 : x1 = x2 := ndF hc2
    refine sk ?_
    refine vinB.n ?_
    refine tn ?_
    refine VRun.region ?_
    refine mO (tN i) rfl ?_
    refine fO (B.add (n := (((i + 1) : Nat) : Int)) (tv (tN i) rfl) (VEv.int .i64 1) (by first | rfl | (rw [wrap64 (by omega)]; omega) | (rw [wrap64 (by omega)]; done))) ?_
    refine aO (tN (i + 1)) rfl ?_
    refine VRunO.nil ?_
    refine tn ?_
    refine ⟨(i + 1 : Nat), ?_, ?_, Wk.mk (fun k => k) ?_ ?_ ?_⟩
    · refine agree_next hI' hx1 hx2 ?_; first | assumption | (obtain ⟨c1, c2, c3, c4⟩ := x1; obtain ⟨d1, d2, d3, d4⟩ := x2; simp_all; done)
    · first | omega | (simp only []; omega) | (show _ < _; omega) | (simp; omega)
    · exact (ball_cons ⟨rfl, rfl⟩ (ball_cons ⟨rfl, rfl⟩ (ball_cons ⟨rfl, rfl⟩ (ball_nil))))
    · exact (ball_cons ⟨rfl, (Nat.le_of_ble_eq_true rfl), rfl⟩ (ball_cons ⟨rfl, (Nat.le_of_ble_eq_true rfl), rfl⟩ (ball_nil)))
    · show List.Nodup ([0, 1] : List Nat)
      decide
  have fhc1 : ¬ (i < a.List.length) := of_decide_eq_false hc1
  have e1 := agree_all hI' (by omega) fhc1
  refine VRun.exit ?_
  refine vthn.e ?_
  refine vthn.e ?_
  refine vinB.e ?_
  refine tn ?_
  refine sq ?_
  refine sr ?_
  refine fO (OF.assign (VEv.int .i64 0)) ?_
  refine nt ?_
  refine VRun.block ?_
  refine VRun.loop (A := Nat) (fun s_ => [(2, (T.op 0 0)), (3, (T.op 1 0)), (6, (tN s_))]) (fun s_ => mkO [(0, (Obj.cells (eHouse false a))), (1, (Obj.cells (eHouse false b)))]) 2 (fun s_ => s_ ≤ a.Dict.length ∧ ∀ j, j < s_ → a.Dict[j]? = b.Dict[j]?) (fun s_ => a.Dict.length - s_) (0 : Nat) ?_ (Wk.mk (fun k => k) ?_ ?_ ?_) ?_
  · first | trivial | (simp; done) | omega | (constructor <;> simp)
  · exact (ball_cons ⟨rfl, rfl⟩ (ball_cons ⟨rfl, rfl⟩ (ball_cons ⟨rfl, rfl⟩ (ball_nil))))
  · exact (ball_cons ⟨rfl, (Nat.le_of_ble_eq_true rfl), rfl⟩ (ball_cons ⟨rfl, (Nat.le_of_ble_eq_true rfl), rfl⟩ (ball_nil)))
  · show List.Nodup ([0, 1] : List Nat)
    decide
  rintro i hI
  have hI' : i ≤ a.Dict.length ∧ ∀ j, j < i → a.Dict[j]? = b.Dict[j]? := hI
  clear hI
  show VRun _ _ _ [(2, (T.op 0 0)), (3, (T.op 1 0)), (6, (tN i))] (mkO [(0, (Obj.cells (eHouse false a))), (1, (Obj.cells (eHouse false b)))]) 2 _
  refine sq ?_
  refine sr ?_
  refine mO (tN i) rfl ?_
  refine fO (OF.fieldAddrO (tv (T.op 0 0) rfl) fa53_1) ?_
  refine lO (OL.loadO1 (t := (rd 2 eMeaning a.Dict)) (tv (T.op 0 1) rfl) rfl rfl st47) ?_
  refine lO (B.lenR (m := a.Dict.length) (tv (rd 2 eMeaning a.Dict) rfl) Try.underlying47 (List.length_map ..)) ?_
  refine fO (B.lss (c := (decide (i < a.Dict.length))) (tv (tN i) rfl) (tv (tN a.Dict.length) rfl) (by first | (exact decN (by omega)))) ?_
  refine nt ?_
  refine VRun.cond (tv (tB (decide (i < a.Dict.length))) rfl) (fun hc3 => ?_) (fun hc3 => ?_)
  · have fhc3 : i < a.Dict.length := of_decide_eq_true hc3
    refine sk ?_
    refine tn ?_
    refine sq ?_
    refine VRun.block ?_
    refine sq ?_
    refine VRun.draw (B := [[], [0], [], [2, 0, 1], [1, 0, 2, 3], [], [5], [], [7, 5, 6], [6, 5, 7, 8], [8, 7, 5, 6, 9, 3, 2, 0, 1, 4]]) (by kernel_rfl) (by kernel_rfl) ?_
    refine fD (OF.fieldAddrO (tv (T.op 0 0) rfl) fa53_1) rfl rfl ?_
    refine lD (OL.loadO1 (t := (rd 2 eMeaning a.Dict)) (tv (T.op 0 1) rfl) rfl rfl st47) rfl rfl ?_
    refine mD (tN i) rfl rfl ?_
    obtain ⟨x1, hx1⟩ : ∃ x, a.Dict[i]? = some x := ⟨_, List.getElem?_eq_getElem (by first | omega)⟩
    refine fD (OF.indexAddrR (row := (eMeaning false x1)) (i := i) (tv (rd 2 eMeaning a.Dict) rfl) (tv (tN i) rfl) rfl (map_at _ hx1) Try.underlying47 sz114 if114) rfl rfl ?_
    refine lD (OL.loadRn (us := (eMeaning false x1)) (tv (T.rp (eMeaning false x1)) rfl) st114 sz114 (Nat.le_of_ble_eq_true rfl) rfl) rfl rfl ?_
    refine fD (OF.fieldAddrO (tv (T.op 1 0) rfl) fa53_1) rfl rfl ?_
    refine lD (OL.loadO1 (t := (rd 2 eMeaning b.Dict)) (tv (T.op 1 1) rfl) rfl rfl st47) rfl rfl ?_
    refine mD (tN i) rfl rfl ?_
    obtain ⟨x2, hx2⟩ : ∃ x, b.Dict[i]? = some x := ⟨_, List.getElem?_eq_getElem (by first | omega)⟩
    refine fD (OF.indexAddrR (row := (eMeaning false x2)) (i := i) (tv (rd 2 eMeaning b.Dict) rfl) (tv (tN i) rfl) rfl (map_at _ hx2) Try.underlying47 sz114 if114) rfl rfl ?_
    refine lD (OL.loadRn (us := (eMeaning false x2)) (tv (T.rp (eMeaning false x2)) rfl) st114 sz114 (Nat.le_of_ble_eq_true rfl) rfl) rfl rfl ?_
    refine fD (B.neq114 (a := x1) (b := x2) (m := false) (m' := false) (tv (T.agg (eMeaning false x1)) rfl) (tv (T.agg (eMeaning false x2)) rfl)) rfl rfl ?_
    refine VRunD.nil ?_
    refine tn ?_
    refine VRun.cond (tv (tB (!(decide (x1 = x2)))) rfl) (fun hc4 => ?_) (fun hc4 => ?_)
    · have fhc4 : ¬ (x1 = x2) := ndT hc4
      refine sr ?_
      refine fO (OF.assign (VEv.bool false)) ?_
      refine nt ?_
      refine rt ?_
      refine vinB.r ?_
      refine tr ?_
      refine tr ?_
      refine vinB.r ?_
      refine tr ?_
      refine vb (b' := false) rfl ?_
      first | (symm; rw [decide_eq_true_eq]; exact ⟨e1, e3, e5, e7⟩) | (symm; rw [decide_eq_false_iff_not]; rintro ⟨h1, h2, h3, h4⟩; simp only [h1, h2, h3, h4] at *; first | omega | (rw [hx1] at hx2; exact absurd (Option.some.inj hx2) (by assumption)) | (simp_all; done))
    have fhc4 : x1 = x2 := ndF hc4
    refine sk ?_
    refine vinB.n ?_
    refine tn ?_
    refine VRun.region ?_
    refine mO (tN i) rfl ?_
    refine fO (B.add (n := (((i + 1) : Nat) : Int)) (tv (tN i) rfl) (VEv.int .i64 1) (by first | rfl | (rw [wrap64 (by omega)]; omega) | (rw [wrap64 (by omega)]; done))) ?_
    refine aO (tN (i + 1)) rfl ?_
    refine VRunO.nil ?_
    refine tn ?_
    refine ⟨(i + 1 : Nat), ?_, ?_, Wk.mk (fun k => k) ?_ ?_ ?_⟩
    · refine agree_next hI' hx1 hx2 ?_; first | assumption | (obtain ⟨c1, c2, c3, c4⟩ := x1; obtain ⟨d1, d2, d3, d4⟩ := x2; simp_all; done)
    · first | omega | (simp only []; omega) | (show _ < _; omega) | (simp; omega)
    · exact (ball_cons ⟨rfl, rfl⟩ (ball_cons ⟨rfl, rfl⟩ (ball_cons ⟨rfl, rfl⟩ (ball_nil))))
    · exact (ball_cons ⟨rfl, (Nat.le_of_ble_eq_true rfl), rfl⟩ (ball_cons ⟨rfl, (Nat.le_of_ble_eq_true rfl), rfl⟩ (ball_nil)))
    · show List.Nodup ([0, 1] : List Nat)
      decide
  have fhc3 : ¬ (i < a.Dict.length) := of_decide_eq_false hc3
  have e3 := agree_all hI' (by omega) fhc3
  refine VRun.exit ?_
  refine vthn.e ?_
  refine vthn.e ?_
  refine vinB.e ?_
  refine tn ?_
  refine sq ?_
  refine sr ?_
  refine fO (OF.assign (VEv.int .i64 0)) ?_
  refine nt ?_
  refine VRun.block ?_
  refine VRun.loop (A := Nat) (fun s_ => [(2, (T.op 0 0)), (3, (T.op 1 0)), (7, (tN s_))]) (fun s_ => mkO [(0, (Obj.cells (eHouse false a))), (1, (Obj.cells (eHouse false b)))]) 2 (fun s_ => s_ ≤ a.Uses.length ∧ ∀ j, j < s_ → a.Uses[j]? = b.Uses[j]?) (fun s_ => a.Uses.length - s_) (0 : Nat) ?_ (Wk.mk (fun k => k) ?_ ?_ ?_) ?_
  · first | trivial | (simp; done) | omega | (constructor <;> simp)
  · exact (ball_cons ⟨rfl, rfl⟩ (ball_cons ⟨rfl, rfl⟩ (ball_cons ⟨rfl, rfl⟩ (ball_nil))))
  · exact (ball_cons ⟨rfl, (Nat.le_of_ble_eq_true rfl), rfl⟩ (ball_cons ⟨rfl, (Nat.le_of_ble_eq_true rfl), rfl⟩ (ball_nil)))
  · show List.Nodup ([0, 1] : List Nat)
    decide
  rintro i hI
  have hI' : i ≤ a.Uses.length ∧ ∀ j, j < i → a.Uses[j]? = b.Uses[j]? := hI
  clear hI
  show VRun _ _ _ [(2, (T.op 0 0)), (3, (T.op 1 0)), (7, (tN i))] (mkO [(0, (Obj.cells (eHouse false a))), (1, (Obj.cells (eHouse false b)))]) 2 _
  refine sq ?_
  refine sr ?_
  refine mO (tN i) rfl ?_
  refine fO (OF.fieldAddrO (tv (T.op 0 0) rfl) fa53_4) ?_
  refine lO (OL.loadO1 (t := (rd 2 eUsed a.Uses)) (tv (T.op 0 9) rfl) rfl rfl st49) ?_
  refine lO (B.lenR (m := a.Uses.length) (tv (rd 2 eUsed a.Uses) rfl) Try.underlying49 (List.length_map ..)) ?_
  refine fO (B.lss (c := (decide (i < a.Uses.length))) (tv (tN i) rfl) (tv (tN a.Uses.length) rfl) (by first | (exact decN (by omega)))) ?_
  refine nt ?_
  refine VRun.cond (tv (tB (decide (i < a.Uses.length))) rfl) (fun hc5 => ?_) (fun hc5 => ?_)
  · have fhc5 : i < a.Uses.length := of_decide_eq_true hc5
    refine sk ?_
    refine tn ?_
    refine sq ?_
    refine VRun.block ?_
    refine sq ?_
    refine VRun.draw (B := [[], [0], [], [2, 0, 1], [1, 0, 2, 3], [], [5], [], [7, 5, 6], [6, 5, 7, 8], [8, 7, 5, 6, 9, 3, 2, 0, 1, 4]]) (by kernel_rfl) (by kernel_rfl) ?_
    refine fD (OF.fieldAddrO (tv (T.op 0 0) rfl) fa53_4) rfl rfl ?_
    refine lD (OL.loadO1 (t := (rd 2 eUsed a.Uses)) (tv (T.op 0 9) rfl) rfl rfl st49) rfl rfl ?_
    refine mD (tN i) rfl rfl ?_
    obtain ⟨x1, hx1⟩ : ∃ x, a.Uses[i]? = some x := ⟨_, List.getElem?_eq_getElem (by first | omega)⟩
    refine fD (OF.indexAddrR (row := (eUsed false x1)) (i := i) (tv (rd 2 eUsed a.Uses) rfl) (tv (tN i) rfl) rfl (map_at _ hx1) Try.underlying49 sz118 if118) rfl rfl ?_
    refine lD (OL.loadRn (us := (eUsed false x1)) (tv (T.rp (eUsed false x1)) rfl) st118 sz118 (Nat.le_of_ble_eq_true rfl) rfl) rfl rfl ?_
    refine fD (OF.fieldAddrO (tv (T.op 1 0) rfl) fa53_4) rfl rfl ?_
    refine lD (OL.loadO1 (t := (rd 2 eUsed b.Uses)) (tv (T.op 1 9) rfl) rfl rfl st49) rfl rfl ?_
    refine mD (tN i) rfl rfl ?_
    obtain ⟨x2, hx2⟩ : ∃ x, b.Uses[i]? = some x := ⟨_, List.getElem?_eq_getElem (by first | omega)⟩
    refine fD (OF.indexAddrR (row := (eUsed false x2)) (i := i) (tv (rd 2 eUsed b.Uses) rfl) (tv (tN i) rfl) rfl (map_at _ hx2) Try.underlying49 sz118 if118) rfl rfl ?_
    refine lD (OL.loadRn (us := (eUsed false x2)) (tv (T.rp (eUsed false x2)) rfl) st118 sz118 (Nat.le_of_ble_eq_true rfl) rfl) rfl rfl ?_
    refine fD (B.neq118 (a := x1) (b := x2) (m := false) (m' := false) (tv (T.agg (eUsed false x1)) rfl) (tv (T.agg (eUsed false x2)) rfl)) rfl rfl ?_
    refine VRunD.nil ?_
    refine tn ?_
    refine VRun.cond (tv (tB (!(decide (x1 = x2)))) rfl) (fun hc6 => ?_) (fun hc6 => ?_)
    · have fhc6 : ¬ (x1 = x2) := ndT hc6
      refine sr ?_
      refine fO (OF.assign (VEv.bool false)) ?_
      refine nt ?_
      refine rt ?_
      refine vinB.r ?_
      refine tr ?_
      refine tr ?_
      refine vinB.r ?_
      refine tr ?_
      refine vb (b' := false) rfl ?_
      first | (symm; rw [decide_eq_true_eq]; exact ⟨e1, e3, e5, e7⟩) | (symm; rw [decide_eq_false_iff_not]; rintro ⟨h1, h2, h3, h4⟩; simp only [h1, h2, h3, h4] at *; first | omega | (rw [hx1] at hx2; exact absurd (Option.some.inj hx2) (by assumption)) | (simp_all; done))
    have fhc6 : x1 = x2 := ndF hc6
    refine sk ?_
    refine vinB.n ?_
    refine tn ?_
    refine VRun.region ?_
    refine mO (tN i) rfl ?_
    refine fO (B.add (n := (((i + 1) : Nat) : Int)) (tv (tN i) rfl) (VEv.int .i64 1) (by first | rfl | (rw [wrap64 (by omega)]; omega) | (rw [wrap64 (by omega)]; done))) ?_
    refine aO (tN (i + 1)) rfl ?_
    refine VRunO.nil ?_
    refine tn ?_
    refine ⟨(i + 1 : Nat), ?_, ?_, Wk.mk (fun k => k) ?_ ?_ ?_⟩
    · refine agree_next hI' hx1 hx2 ?_; first | assumption | (obtain ⟨c1, c2, c3, c4⟩ := x1; obtain ⟨d1, d2, d3, d4⟩ := x2; simp_all; done)
    · first | omega | (simp only []; omega) | (show _ < _; omega) | (simp; omega)
    · exact (ball_cons ⟨rfl, rfl⟩ (ball_cons ⟨rfl, rfl⟩ (ball_cons ⟨rfl, rfl⟩ (ball_nil))))
    · exact (ball_cons ⟨rfl, (Nat.le_of_ble_eq_true rfl), rfl⟩ (ball_cons ⟨rfl, (Nat.le_of_ble_eq_true rfl), rfl⟩ (ball_nil)))
    · show List.Nodup ([0, 1] : List Nat)
      decide
  have fhc5 : ¬ (i < a.Uses.length) := of_decide_eq_false hc5
  have e5 := agree_all hI' (by omega) fhc5
  refine VRun.exit ?_
  refine vthn.e ?_
  refine vthn.e ?_
  refine vinB.e ?_
  refine tn ?_
  refine sq ?_
  refine sr ?_
  refine fO (OF.assign (VEv.int .i64 0)) ?_
  refine nt ?_
  refine VRun.block ?_
  refine VRun.loop (A := Nat) (fun s_ => [(2, (T.op 0 0)), (3, (T.op 1 0)), (8, (tN s_))]) (fun s_ => mkO [(0, (Obj.cells (eHouse false a))), (1, (Obj.cells (eHouse false b)))]) 2 (fun s_ => s_ ≤ a.Entries.length ∧ ∀ j, j < s_ → a.Entries[j]? = b.Entries[j]?) (fun s_ => a.Entries.length - s_) (0 : Nat) ?_ (Wk.mk (fun k => k) ?_ ?_ ?_) ?_
  · first | trivial | (simp; done) | omega | (constructor <;> simp)
  · exact (ball_cons ⟨rfl, rfl⟩ (ball_cons ⟨rfl, rfl⟩ (ball_cons ⟨rfl, rfl⟩ (ball_nil))))
  · exact (ball_cons ⟨rfl, (Nat.le_of_ble_eq_true rfl), rfl⟩ (ball_cons ⟨rfl, (Nat.le_of_ble_eq_true rfl), rfl⟩ (ball_nil)))
  · show List.Nodup ([0, 1] : List Nat)
    decide
  rintro i hI
  have hI' : i ≤ a.Entries.length ∧ ∀ j, j < i → a.Entries[j]? = b.Entries[j]? := hI
  clear hI
  show VRun _ _ _ [(2, (T.op 0 0)), (3, (T.op 1 0)), (8, (tN i))] (mkO [(0, (Obj.cells (eHouse false a))), (1, (Obj.cells (eHouse false b)))]) 2 _
  refine sq ?_
  refine sr ?_
  refine mO (tN i) rfl ?_
  refine fO (OF.fieldAddrO (tv (T.op 0 0) rfl) fa53_6) ?_
  refine lO (OL.loadO1 (t := (rd 4 eEntry a.Entries)) (tv (T.op 0 11) rfl) rfl rfl st51) ?_
  refine lO (B.lenR (m := a.Entries.length) (tv (rd 4 eEntry a.Entries) rfl) Try.underlying51 (List.length_map ..)) ?_
  refine fO (B.lss (c := (decide (i < a.Entries.length))) (tv (tN i) rfl) (tv (tN a.Entries.length) rfl) (by first | (exact decN (by omega)))) ?_
  refine nt ?_
  refine VRun.cond (tv (tB (decide (i < a.Entries.length))) rfl) (fun hc7 => ?_) (fun hc7 => ?_)
  · have fhc7 : i < a.Entries.length := of_decide_eq_true hc7
    refine sk ?_
    refine tn ?_
    refine sq ?_
    refine VRun.block ?_
    refine sq ?_
    refine VRun.draw (B := [[], [0], [], [2, 0, 1], [1, 0, 2, 3], [], [5], [], [7, 5, 6], [6, 5, 7, 8], [8, 7, 5, 6, 9, 3, 2, 0, 1, 4]]) (by kernel_rfl) (by kernel_rfl) ?_
    refine fD (OF.fieldAddrO (tv (T.op 0 0) rfl) fa53_6) rfl rfl ?_
    refine lD (OL.loadO1 (t := (rd 4 eEntry a.Entries)) (tv (T.op 0 11) rfl) rfl rfl st51) rfl rfl ?_
    refine mD (tN i) rfl rfl ?_
    obtain ⟨x1, hx1⟩ : ∃ x, a.Entries[i]? = some x := ⟨_, List.getElem?_eq_getElem (by first | omega)⟩
    refine fD (OF.indexAddrR (row := (eEntry false x1)) (i := i) (tv (rd 4 eEntry a.Entries) rfl) (tv (tN i) rfl) rfl (map_at _ hx1) Try.underlying51 sz123 if123) rfl rfl ?_
    refine lD (OL.loadRn (us := (eEntry false x1)) (tv (T.rp (eEntry false x1)) rfl) st123 sz123 (Nat.le_of_ble_eq_true rfl) rfl) rfl rfl ?_
    refine fD (OF.fieldAddrO (tv (T.op 1 0) rfl) fa53_6) rfl rfl ?_
    refine lD (OL.loadO1 (t := (rd 4 eEntry b.Entries)) (tv (T.op 1 11) rfl) rfl rfl st51) rfl rfl ?_
    refine mD (tN i) rfl rfl ?_
    obtain ⟨x2, hx2⟩ : ∃ x, b.Entries[i]? = some x := ⟨_, List.getElem?_eq_getElem (by first | omega)⟩
    refine fD (OF.indexAddrR (row := (eEntry false x2)) (i := i) (tv (rd 4 eEntry b.Entries) rfl) (tv (tN i) rfl) rfl (map_at _ hx2) Try.underlying51 sz123 if123) rfl rfl ?_
    refine lD (OL.loadRn (us := (eEntry false x2)) (tv (T.rp (eEntry false x2)) rfl) st123 sz123 (Nat.le_of_ble_eq_true rfl) rfl) rfl rfl ?_
    refine fD (B.neq123 (a := x1) (b := x2) (m := false) (m' := false) (tv (T.agg (eEntry false x1)) rfl) (tv (T.agg (eEntry false x2)) rfl)) rfl rfl ?_
    refine VRunD.nil ?_
    refine tn ?_
    refine VRun.cond (tv (tB (!(decide (x1 = x2)))) rfl) (fun hc8 => ?_) (fun hc8 => ?_)
    · have fhc8 : ¬ (x1 = x2) := ndT hc8
      refine sr ?_
      refine fO (OF.assign (VEv.bool false)) ?_
      refine nt ?_
      refine rt ?_
      refine vinB.r ?_
      refine tr ?_
      refine tr ?_
      refine vinB.r ?_
      refine tr ?_
      refine vb (b' := false) rfl ?_
      first | (symm; rw [decide_eq_true_eq]; exact ⟨e1, e3, e5, e7⟩) | (symm; rw [decide_eq_false_iff_not]; rintro ⟨h1, h2, h3, h4⟩; simp only [h1, h2, h3, h4] at *; first | omega | (rw [hx1] at hx2; exact absurd (Option.some.inj hx2) (by assumption)) | (simp_all; done))
    have fhc8 : x1 = x2 := ndF hc8
    refine sk ?_
    refine vinB.n ?_
    refine tn ?_
    refine VRun.region ?_
    refine mO (tN i) rfl ?_
    refine fO (B.add (n := (((i + 1) : Nat) : Int)) (tv (tN i) rfl) (VEv.int .i64 1) (by first | rfl | (rw [wrap64 (by omega)]; omega) | (rw [wrap64 (by omega)]; done))) ?_
    refine aO (tN (i + 1)) rfl ?_
    refine VRunO.nil ?_
    refine tn ?_
    refine ⟨(i + 1 : Nat), ?_, ?_, Wk.mk (fun k => k) ?_ ?_ ?_⟩
    · refine agree_next hI' hx1 hx2 ?_; first | assumption | (obtain ⟨c1, c2, c3, c4⟩ := x1; obtain ⟨d1, d2, d3, d4⟩ := x2; simp_all; done)
    · first | omega | (simp only []; omega) | (show _ < _; omega) | (simp; omega)
    · exact (ball_cons ⟨rfl, rfl⟩ (ball_cons ⟨rfl, rfl⟩ (ball_cons ⟨rfl, rfl⟩ (ball_nil))))
    · exact (ball_cons ⟨rfl, (Nat.le_of_ble_eq_true rfl), rfl⟩ (ball_cons ⟨rfl, (Nat.le_of_ble_eq_true rfl), rfl⟩ (ball_nil)))
    · show List.Nodup ([0, 1] : List Nat)
      decide
  have fhc7 : ¬ (i < a.Entries.length) := of_decide_eq_false hc7
  have e7 := agree_all hI' (by omega) fhc7
  refine VRun.exit ?_
  refine vthn.e ?_
  refine vthn.e ?_
  refine vinB.e ?_
  refine tn ?_
  refine sr ?_
  refine fO (OF.assign (VEv.bool true)) ?_
  refine nt ?_
  refine rt ?_
  refine vb (b' := true) rfl ?_
  first | (symm; rw [decide_eq_true_eq]; exact ⟨e1, e3, e5, e7⟩) | (symm; rw [decide_eq_false_iff_not]; rintro ⟨h1, h2, h3, h4⟩; simp only [h1, h2, h3, h4] at *; first | omega | (rw [hx1] at hx2; exact absurd (Option.some.inj hx2) (by assumption)) | (simp_all; done))
theorem W_spec_EqualHouses (n : Nat) (a : D.House) (b : D.House) (hza : zHouse a ≤ mx) (hzb : zHouse b ≤ mx) : Pure (acall Try.prog (n + 4)) 14 [(T.agg (eHouse false a)), (T.agg (eHouse false b))] (tB (decide (a = b))) := by
  refine Pure.intro (rs := [ResultVar.tmp 4]) Try.func14 rfl rfl rfl (E0 := [(0, (T.agg (eHouse false a))), (1, (T.agg (eHouse false b)))]) rfl ?_
  have hlim : lim = 1099511627776 := rfl
  have hmx : mx = 1048576 := rfl
  have hmax : maxLen = 9223372036854775807 := rfl
  have hza0 := hza
  have hzb0 := hzb
  simp only [zHouse] at hza hzb
  have hlaList := zL_len (z := zListed) a.List
  have hlaDict := zL_len (z := zMeaning) a.Dict
  have hlaIssues := zL_len (z := zIssue) a.Issues
  have hlaUses := zL_len (z := zUsed) a.Uses
  have hlaCorrections := zL_len (z := zCorrection) a.Corrections
  have hlaEntries := zL_len (z := zEntry) a.Entries
  have hlbList := zL_len (z := zListed) b.List
  have hlbDict := zL_len (z := zMeaning) b.Dict
  have hlbIssues := zL_len (z := zIssue) b.Issues
  have hlbUses := zL_len (z := zUsed) b.Uses
  have hlbCorrections := zL_len (z := zCorrection) b.Corrections
  have hlbEntries := zL_len (z := zEntry) b.Entries
  refine sr ?_
  refine kO (B.box (ts := (eHouse false a)) (tv (T.agg (eHouse false a)) rfl) nofun rfl) ?_
  refine kO (B.box (ts := (eHouse false b)) (tv (T.agg (eHouse false b)) rfl) nofun rfl) ?_
  refine fO (OF.assign (VEv.bool false)) ?_
  refine nt ?_
  refine sq ?_
  refine sr ?_
  refine fO (OF.fieldAddrO (tv (T.op 0 0) rfl) fa53_7) ?_
  refine lO (OL.loadO1 (t := (tI a.Now)) (tv (T.op 0 12) rfl) rfl rfl st3) ?_
  refine fO (OF.fieldAddrO (tv (T.op 1 0) rfl) fa53_7) ?_
  refine lO (OL.loadO1 (t := (tI b.Now)) (tv (T.op 1 12) rfl) rfl rfl st3) ?_
  refine fO (B.neq (c := (!(decide (a.Now = b.Now)))) (tv (tI a.Now) rfl) (tv (tI b.Now) rfl) rfl) ?_
  refine mO (tB (!(decide (a.Now = b.Now)))) rfl ?_
  refine bool_way (!(decide (a.Now = b.Now))) (fun hg14_1 => ?_) (fun hg14_1 => ?_)
  · have fhg14_1 : ¬ (a.Now = b.Now) := ndT hg14_1
    refine oO rfl rfl hg14_1 ?_
    refine oO rfl rfl hg14_1 ?_
    refine oO rfl rfl hg14_1 ?_
    refine oO rfl rfl hg14_1 ?_
    refine oO rfl rfl hg14_1 ?_
    refine oO rfl rfl hg14_1 ?_
    refine oO rfl rfl hg14_1 ?_
    refine fO (OF.pickT (VEv.tmpB (b := (!(decide (a.Now = b.Now)))) rfl hg14_1) (VEv.bool true)) ?_
    refine mO (tB true) rfl ?_
    refine VRunO.off (VWant.not (b := true) rfl rfl rfl) ?_
    refine VRunO.off (VWant.not (b := true) rfl rfl rfl) ?_
    refine VRunO.off (VWant.not (b := true) rfl rfl rfl) ?_
    refine VRunO.off (VWant.not (b := true) rfl rfl rfl) ?_
    refine VRunO.off (VWant.not (b := true) rfl rfl rfl) ?_
    refine VRunO.off (VWant.not (b := true) rfl rfl rfl) ?_
    refine VRunO.off (VWant.not (b := true) rfl rfl rfl) ?_
    refine fO (OF.pickT (tv (tB true) rfl) (VEv.bool true)) ?_
    refine mO (tB true) rfl ?_
    refine VRunO.off (VWant.not (b := true) rfl rfl rfl) ?_
    refine VRunO.off (VWant.not (b := true) rfl rfl rfl) ?_
    refine VRunO.off (VWant.not (b := true) rfl rfl rfl) ?_
    refine VRunO.off (VWant.not (b := true) rfl rfl rfl) ?_
    refine fO (OF.pickT (tv (tB true) rfl) (VEv.bool true)) ?_
    refine nt ?_
    refine VRun.cond (tv (tB true) rfl) (fun hk2 => ?_) (fun hk2 => ?_)
    · skip
      refine sr ?_
      refine fO (OF.assign (VEv.bool false)) ?_
      refine nt ?_
      refine rt ?_
      refine tr ?_
      refine vb (b' := false) rfl ?_
      first | (obtain ⟨a1, a2, a3, a4, a5, a6, a7, a8⟩ := a; obtain ⟨b1, b2, b3, b4, b5, b6, b7, b8⟩ := b; simp_all; done) | (symm; rw [decide_eq_false_iff_not]; rintro rfl; first | omega | (rw [hx1] at hx2; obtain rfl := Option.some.inj hx2; simp_all; done) | (simp_all; done))
    · exact absurd (rfl.symm.trans hk2) (by decide)
  have fhg14_1 : a.Now = b.Now := ndF hg14_1
  refine gF hg14_1 rfl rfl (OF.fieldAddrO (tv (T.op 0 0) rfl) fa53_3) ?_
  refine gL hg14_1 rfl rfl (OL.loadO1 (t := (rd 10 eIssue a.Issues)) (tv (T.op 0 8) rfl) rfl rfl st48) ?_
  refine gL hg14_1 rfl rfl (B.lenR (m := a.Issues.length) (tv (rd 10 eIssue a.Issues) rfl) Try.underlying48 (List.length_map ..)) ?_
  refine gF hg14_1 rfl rfl (OF.fieldAddrO (tv (T.op 1 0) rfl) fa53_3) ?_
  refine gL hg14_1 rfl rfl (OL.loadO1 (t := (rd 10 eIssue b.Issues)) (tv (T.op 1 8) rfl) rfl rfl st48) ?_
  refine gL hg14_1 rfl rfl (B.lenR (m := b.Issues.length) (tv (rd 10 eIssue b.Issues) rfl) Try.underlying48 (List.length_map ..)) ?_
  refine gF hg14_1 rfl rfl (B.neq (c := (!(decide (a.Issues.length = b.Issues.length)))) (tv (tN a.Issues.length) rfl) (tv (tN b.Issues.length) rfl) (by first | exact Nat.le_trans (zL_at hx1) (by omega) | exact Nat.le_trans (zL_at hx2) (by omega) | (have h9 := zL_at (z := zCorrection) hx1; simp only [zCorrection] at h9; omega) | (have h9 := zL_at (z := zCorrection) hx2; simp only [zCorrection] at h9; omega) | (exact decNn (by omega)))) ?_
  refine fO (OF.pickF (VEv.tmpB (b := (!(decide (a.Now = b.Now)))) rfl hg14_1) (tv (tB (!(decide (a.Issues.length = b.Issues.length)))) rfl)) ?_
  refine mO (tB (!(decide (a.Issues.length = b.Issues.length)))) rfl ?_
  refine bool_way (!(decide (a.Issues.length = b.Issues.length))) (fun hg23_3 => ?_) (fun hg23_3 => ?_)
  · have fhg23_3 : ¬ (a.Issues.length = b.Issues.length) := ndT hg23_3
    refine oO rfl rfl hg23_3 ?_
    refine oO rfl rfl hg23_3 ?_
    refine oO rfl rfl hg23_3 ?_
    refine oO rfl rfl hg23_3 ?_
    refine oO rfl rfl hg23_3 ?_
    refine oO rfl rfl hg23_3 ?_
    refine oO rfl rfl hg23_3 ?_
    refine fO (OF.pickT (VEv.tmpB (b := (!(decide (a.Issues.length = b.Issues.length)))) rfl hg23_3) (VEv.bool true)) ?_
    refine mO (tB true) rfl ?_
    refine VRunO.off (VWant.not (b := true) rfl rfl rfl) ?_
    refine VRunO.off (VWant.not (b := true) rfl rfl rfl) ?_
    refine VRunO.off (VWant.not (b := true) rfl rfl rfl) ?_
    refine VRunO.off (VWant.not (b := true) rfl rfl rfl) ?_
    refine fO (OF.pickT (tv (tB true) rfl) (VEv.bool true)) ?_
    refine nt ?_
    refine VRun.cond (tv (tB true) rfl) (fun hk4 => ?_) (fun hk4 => ?_)
    · skip
      refine sr ?_
      refine fO (OF.assign (VEv.bool false)) ?_
      refine nt ?_
      refine rt ?_
      refine tr ?_
      refine vb (b' := false) rfl ?_
      first | (obtain ⟨a1, a2, a3, a4, a5, a6, a7, a8⟩ := a; obtain ⟨b1, b2, b3, b4, b5, b6, b7, b8⟩ := b; simp_all; done) | (symm; rw [decide_eq_false_iff_not]; rintro rfl; first | omega | (rw [hx1] at hx2; obtain rfl := Option.some.inj hx2; simp_all; done) | (simp_all; done))
    · exact absurd (rfl.symm.trans hk4) (by decide)
  have fhg23_3 : a.Issues.length = b.Issues.length := ndF hg23_3
  refine gF hg23_3 rfl rfl (OF.fieldAddrO (tv (T.op 0 0) rfl) fa53_5) ?_
  refine gL hg23_3 rfl rfl (OL.loadO1 (t := (rd 5 eCorrection a.Corrections)) (tv (T.op 0 10) rfl) rfl rfl st50) ?_
  refine gL hg23_3 rfl rfl (B.lenR (m := a.Corrections.length) (tv (rd 5 eCorrection a.Corrections) rfl) Try.underlying50 (List.length_map ..)) ?_
  refine gF hg23_3 rfl rfl (OF.fieldAddrO (tv (T.op 1 0) rfl) fa53_5) ?_
  refine gL hg23_3 rfl rfl (OL.loadO1 (t := (rd 5 eCorrection b.Corrections)) (tv (T.op 1 10) rfl) rfl rfl st50) ?_
  refine gL hg23_3 rfl rfl (B.lenR (m := b.Corrections.length) (tv (rd 5 eCorrection b.Corrections) rfl) Try.underlying50 (List.length_map ..)) ?_
  refine gF hg23_3 rfl rfl (B.neq (c := (!(decide (a.Corrections.length = b.Corrections.length)))) (tv (tN a.Corrections.length) rfl) (tv (tN b.Corrections.length) rfl) (by first | exact Nat.le_trans (zL_at hx1) (by omega) | exact Nat.le_trans (zL_at hx2) (by omega) | (have h9 := zL_at (z := zCorrection) hx1; simp only [zCorrection] at h9; omega) | (have h9 := zL_at (z := zCorrection) hx2; simp only [zCorrection] at h9; omega) | (exact decNn (by omega)))) ?_
  refine fO (OF.pickF (VEv.tmpB (b := (!(decide (a.Issues.length = b.Issues.length)))) rfl hg23_3) (tv (tB (!(decide (a.Corrections.length = b.Corrections.length)))) rfl)) ?_
  refine mO (tB (!(decide (a.Corrections.length = b.Corrections.length)))) rfl ?_
  refine bool_way (!(decide (a.Corrections.length = b.Corrections.length))) (fun hg32_5 => ?_) (fun hg32_5 => ?_)
  · have fhg32_5 : ¬ (a.Corrections.length = b.Corrections.length) := ndT hg32_5
    refine oO rfl rfl hg32_5 ?_
    refine oO rfl rfl hg32_5 ?_
    refine oO rfl rfl hg32_5 ?_
    refine oO rfl rfl hg32_5 ?_
    refine fO (OF.pickT (VEv.tmpB (b := (!(decide (a.Corrections.length = b.Corrections.length)))) rfl hg32_5) (VEv.bool true)) ?_
    refine nt ?_
    refine VRun.cond (tv (tB true) rfl) (fun hk6 => ?_) (fun hk6 => ?_)
    · skip
      refine sr ?_
      refine fO (OF.assign (VEv.bool false)) ?_
      refine nt ?_
      refine rt ?_
      refine tr ?_
      refine vb (b' := false) rfl ?_
      first | (obtain ⟨a1, a2, a3, a4, a5, a6, a7, a8⟩ := a; obtain ⟨b1, b2, b3, b4, b5, b6, b7, b8⟩ := b; simp_all; done) | (symm; rw [decide_eq_false_iff_not]; rintro rfl; first | omega | (rw [hx1] at hx2; obtain rfl := Option.some.inj hx2; simp_all; done) | (simp_all; done))
    · exact absurd (rfl.symm.trans hk6) (by decide)
  have fhg32_5 : a.Corrections.length = b.Corrections.length := ndF hg32_5
  refine gL hg32_5 rfl rfl (OL.loadOn (us := (eHouse false a)) (tv (T.op 0 0) rfl) rfl st53 sz53 (Nat.le_of_ble_eq_true rfl) rfl) ?_
  refine gL hg32_5 rfl rfl (OL.loadOn (us := (eHouse false b)) (tv (T.op 1 0) rfl) rfl st53 sz53 (Nat.le_of_ble_eq_true rfl) rfl) ?_
  refine VRunO.chain (VWant.on (b := (!(decide (a.Corrections.length = b.Corrections.length)))) rfl rfl hg32_5) (cS (vc (tv (T.agg (eHouse false a)) rfl) (vc (tv (T.agg (eHouse false b)) rfl) VEvs.nil)) (LendL.cons (lg okeHouse) (LendL.cons (lg okeHouse) (LendL.nil))) (W_spec_l33Lists (n + 2) a b (by first | exact Nat.le_trans (zL_at hx1) (by omega) | exact Nat.le_trans (zL_at hx2) (by omega) | (have h9 := zL_at (z := zCorrection) hx1; simp only [zCorrection] at h9; omega) | (have h9 := zL_at (z := zCorrection) hx2; simp only [zCorrection] at h9; omega) | assumption | omega) (by first | exact Nat.le_trans (zL_at hx1) (by omega) | exact Nat.le_trans (zL_at hx2) (by omega) | (have h9 := zL_at (z := zCorrection) hx1; simp only [zCorrection] at h9; omega) | (have h9 := zL_at (z := zCorrection) hx2; simp only [zCorrection] at h9; omega) | assumption | omega)) rfl rfl) ?_
  refine gF hg32_5 rfl rfl (B.not (c := (!(decide (a.List = b.List ∧ a.Dict = b.Dict ∧ a.Uses = b.Uses ∧ a.Entries = b.Entries)))) (tv (tB (decide (a.List = b.List ∧ a.Dict = b.Dict ∧ a.Uses = b.Uses ∧ a.Entries = b.Entries))) rfl) rfl) ?_
  refine fO (OF.pickF (VEv.tmpB (b := (!(decide (a.Corrections.length = b.Corrections.length)))) rfl hg32_5) (tv (tB (!(decide (a.List = b.List ∧ a.Dict = b.Dict ∧ a.Uses = b.Uses ∧ a.Entries = b.Entries)))) rfl)) ?_
  refine nt ?_
  refine VRun.cond (tv (tB (!(decide (a.List = b.List ∧ a.Dict = b.Dict ∧ a.Uses = b.Uses ∧ a.Entries = b.Entries)))) rfl) (fun hc0 => ?_) (fun hc0 => ?_)
  · have fhc0 : ¬ (a.List = b.List ∧ a.Dict = b.Dict ∧ a.Uses = b.Uses ∧ a.Entries = b.Entries) := ndT hc0
    refine sr ?_
    refine fO (OF.assign (VEv.bool false)) ?_
    refine nt ?_
    refine rt ?_
    refine tr ?_
    refine vb (b' := false) rfl ?_
    first | (obtain ⟨a1, a2, a3, a4, a5, a6, a7, a8⟩ := a; obtain ⟨b1, b2, b3, b4, b5, b6, b7, b8⟩ := b; simp_all; done) | (symm; rw [decide_eq_false_iff_not]; rintro rfl; first | omega | (rw [hx1] at hx2; obtain rfl := Option.some.inj hx2; simp_all; done) | (simp_all; done))
  have fhc0 : a.List = b.List ∧ a.Dict = b.Dict ∧ a.Uses = b.Uses ∧ a.Entries = b.Entries := ndF hc0
  refine sk ?_
  refine tn ?_
  refine sq ?_
  refine sr ?_
  refine fO (OF.assign (VEv.int .i64 0)) ?_
  refine nt ?_
  refine VRun.block ?_
  refine VRun.loop (A := Nat) (fun s_ => [(2, (T.op 0 0)), (3, (T.op 1 0)), (5, (tN s_))]) (fun s_ => mkO [(0, (Obj.cells (eHouse false a))), (1, (Obj.cells (eHouse false b)))]) 2 (fun s_ => s_ ≤ a.Issues.length ∧ ∀ j, j < s_ → a.Issues[j]? = b.Issues[j]?) (fun s_ => a.Issues.length - s_) (0 : Nat) ?_ (Wk.mk (fun k => k) ?_ ?_ ?_) ?_
  · first | trivial | (simp; done) | omega | (constructor <;> simp)
  · exact (ball_cons ⟨rfl, rfl⟩ (ball_cons ⟨rfl, rfl⟩ (ball_cons ⟨rfl, rfl⟩ (ball_nil))))
  · exact (ball_cons ⟨rfl, (Nat.le_of_ble_eq_true rfl), rfl⟩ (ball_cons ⟨rfl, (Nat.le_of_ble_eq_true rfl), rfl⟩ (ball_nil)))
  · show List.Nodup ([0, 1] : List Nat)
    decide
  rintro i hI
  have hI' : i ≤ a.Issues.length ∧ ∀ j, j < i → a.Issues[j]? = b.Issues[j]? := hI
  clear hI
  show VRun _ _ _ [(2, (T.op 0 0)), (3, (T.op 1 0)), (5, (tN i))] (mkO [(0, (Obj.cells (eHouse false a))), (1, (Obj.cells (eHouse false b)))]) 2 _
  refine sq ?_
  refine sr ?_
  refine mO (tN i) rfl ?_
  refine fO (OF.fieldAddrO (tv (T.op 0 0) rfl) fa53_3) ?_
  refine lO (OL.loadO1 (t := (rd 10 eIssue a.Issues)) (tv (T.op 0 8) rfl) rfl rfl st48) ?_
  refine lO (B.lenR (m := a.Issues.length) (tv (rd 10 eIssue a.Issues) rfl) Try.underlying48 (List.length_map ..)) ?_
  refine fO (B.lss (c := (decide (i < a.Issues.length))) (tv (tN i) rfl) (tv (tN a.Issues.length) rfl) (by first | exact Nat.le_trans (zL_at hx1) (by omega) | exact Nat.le_trans (zL_at hx2) (by omega) | (have h9 := zL_at (z := zCorrection) hx1; simp only [zCorrection] at h9; omega) | (have h9 := zL_at (z := zCorrection) hx2; simp only [zCorrection] at h9; omega) | (exact decN (by omega)))) ?_
  refine nt ?_
  refine VRun.cond (tv (tB (decide (i < a.Issues.length))) rfl) (fun hc1 => ?_) (fun hc1 => ?_)
  · have fhc1 : i < a.Issues.length := of_decide_eq_true hc1
    refine sk ?_
    refine tn ?_
    refine sq ?_
    refine VRun.block ?_
    refine sq ?_
    refine VRun.draw (B := [[], [0], [], [2, 0, 1], [1, 0, 2, 3], [], [5], [], [7, 5, 6], [6, 5, 7, 8], [8, 7, 5, 6, 9, 3, 2, 0, 1, 4], [4, 1, 0, 2, 3, 9, 6, 5, 7, 8, 10]]) (by kernel_rfl) (by kernel_rfl) ?_
    refine fD (OF.fieldAddrO (tv (T.op 0 0) rfl) fa53_3) rfl rfl ?_
    refine lD (OL.loadO1 (t := (rd 10 eIssue a.Issues)) (tv (T.op 0 8) rfl) rfl rfl st48) rfl rfl ?_
    refine mD (tN i) rfl rfl ?_
    obtain ⟨x1, hx1⟩ : ∃ x, a.Issues[i]? = some x := ⟨_, List.getElem?_eq_getElem (by first | exact Nat.le_trans (zL_at hx1) (by omega) | exact Nat.le_trans (zL_at hx2) (by omega) | (have h9 := zL_at (z := zCorrection) hx1; simp only [zCorrection] at h9; omega) | (have h9 := zL_at (z := zCorrection) hx2; simp only [zCorrection] at h9; omega) | omega)⟩
    refine fD (OF.indexAddrR (row := (eIssue false x1)) (i := i) (tv (rd 10 eIssue a.Issues) rfl) (tv (tN i) rfl) rfl (map_at _ hx1) Try.underlying48 sz100 if100) rfl rfl ?_
    refine lD (OL.loadRn (us := (eIssue false x1)) (tv (T.rp (eIssue false x1)) rfl) st100 sz100 (Nat.le_of_ble_eq_true rfl) rfl) rfl rfl ?_
    refine fD (OF.fieldAddrO (tv (T.op 1 0) rfl) fa53_3) rfl rfl ?_
    refine lD (OL.loadO1 (t := (rd 10 eIssue b.Issues)) (tv (T.op 1 8) rfl) rfl rfl st48) rfl rfl ?_
    refine mD (tN i) rfl rfl ?_
    obtain ⟨x2, hx2⟩ : ∃ x, b.Issues[i]? = some x := ⟨_, List.getElem?_eq_getElem (by first | exact Nat.le_trans (zL_at hx1) (by omega) | exact Nat.le_trans (zL_at hx2) (by omega) | (have h9 := zL_at (z := zCorrection) hx1; simp only [zCorrection] at h9; omega) | (have h9 := zL_at (z := zCorrection) hx2; simp only [zCorrection] at h9; omega) | omega)⟩
    refine fD (OF.indexAddrR (row := (eIssue false x2)) (i := i) (tv (rd 10 eIssue b.Issues) rfl) (tv (tN i) rfl) rfl (map_at _ hx2) Try.underlying48 sz100 if100) rfl rfl ?_
    refine lD (OL.loadRn (us := (eIssue false x2)) (tv (T.rp (eIssue false x2)) rfl) st100 sz100 (Nat.le_of_ble_eq_true rfl) rfl) rfl rfl ?_
    refine VRunD.quiet (bi := [8, 7, 5, 6, 9, 3, 2, 0, 1, 4]) rfl VWant.always rfl rfl rfl (ball_nil) (cS (vc (tv (T.agg (eIssue false x1)) rfl) (vc (tv (T.agg (eIssue false x2)) rfl) VEvs.nil)) (LendL.cons (lg okeIssue) (LendL.cons (lg okeIssue) (LendL.nil))) (W_spec_EqualIssues (n + 0) x1 x2 (by first | exact Nat.le_trans (zL_at hx1) (by omega) | exact Nat.le_trans (zL_at hx2) (by omega) | (have h9 := zL_at (z := zCorrection) hx1; simp only [zCorrection] at h9; omega) | (have h9 := zL_at (z := zCorrection) hx2; simp only [zCorrection] at h9; omega) | assumption | omega) (by first | exact Nat.le_trans (zL_at hx1) (by omega) | exact Nat.le_trans (zL_at hx2) (by omega) | (have h9 := zL_at (z := zCorrection) hx1; simp only [zCorrection] at h9; omega) | (have h9 := zL_at (z := zCorrection) hx2; simp only [zCorrection] at h9; omega) | assumption | omega)) rfl rfl) ?_
    refine fD (B.not (c := (!(decide (x1 = x2)))) (tv (tB (decide (x1 = x2))) rfl) rfl) rfl rfl ?_
    refine VRunD.nil ?_
    refine tn ?_
    refine VRun.cond (tv (tB (!(decide (x1 = x2)))) rfl) (fun hc2 => ?_) (fun hc2 => ?_)
    · have fhc2 : ¬ (x1 = x2) := ndT hc2
      refine sr ?_
      refine fO (OF.assign (VEv.bool false)) ?_
      refine nt ?_
      refine rt ?_
      refine vinB.r ?_
      refine tr ?_
      refine tr ?_
      refine vinB.r ?_
      refine tr ?_
      refine vb (b' := false) rfl ?_
      first | (obtain ⟨a1, a2, a3, a4, a5, a6, a7, a8⟩ := a; obtain ⟨b1, b2, b3, b4, b5, b6, b7, b8⟩ := b; simp_all; done) | (symm; rw [decide_eq_false_iff_not]; rintro rfl; first | omega | (rw [hx1] at hx2; obtain rfl := Option.some.inj hx2; simp_all; done) | (simp_all; done))
    have fhc2 : x1 = x2 := ndF hc2
    refine sk ?_
    refine vinB.n ?_
    refine tn ?_
    refine VRun.region ?_
    refine mO (tN i) rfl ?_
    refine fO (B.add (n := (((i + 1) : Nat) : Int)) (tv (tN i) rfl) (VEv.int .i64 1) (by first | exact Nat.le_trans (zL_at hx1) (by omega) | exact Nat.le_trans (zL_at hx2) (by omega) | (have h9 := zL_at (z := zCorrection) hx1; simp only [zCorrection] at h9; omega) | (have h9 := zL_at (z := zCorrection) hx2; simp only [zCorrection] at h9; omega) | rfl | (rw [wrap64 (by omega)]; omega) | (rw [wrap64 (by omega)]; done))) ?_
    refine aO (tN (i + 1)) rfl ?_
    refine VRunO.nil ?_
    refine tn ?_
    refine ⟨(i + 1 : Nat), ?_, ?_, Wk.mk (fun k => k) ?_ ?_ ?_⟩
    · refine agree_next hI' hx1 hx2 ?_; first | assumption | (obtain ⟨c1, c2, c3, c4⟩ := x1; obtain ⟨d1, d2, d3, d4⟩ := x2; simp_all; done)
    · first | omega | (simp only []; omega) | (show _ < _; omega) | (simp; omega)
    · exact (ball_cons ⟨rfl, rfl⟩ (ball_cons ⟨rfl, rfl⟩ (ball_cons ⟨rfl, rfl⟩ (ball_nil))))
    · exact (ball_cons ⟨rfl, (Nat.le_of_ble_eq_true rfl), rfl⟩ (ball_cons ⟨rfl, (Nat.le_of_ble_eq_true rfl), rfl⟩ (ball_nil)))
    · show List.Nodup ([0, 1] : List Nat)
      decide
  have fhc1 : ¬ (i < a.Issues.length) := of_decide_eq_false hc1
  have e1 := agree_all hI' (by omega) fhc1
  refine VRun.exit ?_
  refine vthn.e ?_
  refine vthn.e ?_
  refine vinB.e ?_
  refine tn ?_
  refine sq ?_
  refine sr ?_
  refine fO (OF.assign (VEv.int .i64 0)) ?_
  refine nt ?_
  refine VRun.block ?_
  refine VRun.loop (A := Nat) (fun s_ => [(2, (T.op 0 0)), (3, (T.op 1 0)), (6, (tN s_))]) (fun s_ => mkO [(0, (Obj.cells (eHouse false a))), (1, (Obj.cells (eHouse false b)))]) 2 (fun s_ => s_ ≤ a.Corrections.length ∧ ∀ j, j < s_ → a.Corrections[j]? = b.Corrections[j]?) (fun s_ => a.Corrections.length - s_) (0 : Nat) ?_ (Wk.mk (fun k => k) ?_ ?_ ?_) ?_
  · first | trivial | (simp; done) | omega | (constructor <;> simp)
  · exact (ball_cons ⟨rfl, rfl⟩ (ball_cons ⟨rfl, rfl⟩ (ball_cons ⟨rfl, rfl⟩ (ball_nil))))
  · exact (ball_cons ⟨rfl, (Nat.le_of_ble_eq_true rfl), rfl⟩ (ball_cons ⟨rfl, (Nat.le_of_ble_eq_true rfl), rfl⟩ (ball_nil)))
  · show List.Nodup ([0, 1] : List Nat)
    decide
  rintro i hI
  have hI' : i ≤ a.Corrections.length ∧ ∀ j, j < i → a.Corrections[j]? = b.Corrections[j]? := hI
  clear hI
  show VRun _ _ _ [(2, (T.op 0 0)), (3, (T.op 1 0)), (6, (tN i))] (mkO [(0, (Obj.cells (eHouse false a))), (1, (Obj.cells (eHouse false b)))]) 2 _
  refine sq ?_
  refine sr ?_
  refine mO (tN i) rfl ?_
  refine fO (OF.fieldAddrO (tv (T.op 0 0) rfl) fa53_5) ?_
  refine lO (OL.loadO1 (t := (rd 5 eCorrection a.Corrections)) (tv (T.op 0 10) rfl) rfl rfl st50) ?_
  refine lO (B.lenR (m := a.Corrections.length) (tv (rd 5 eCorrection a.Corrections) rfl) Try.underlying50 (List.length_map ..)) ?_
  refine fO (B.lss (c := (decide (i < a.Corrections.length))) (tv (tN i) rfl) (tv (tN a.Corrections.length) rfl) (by first | exact Nat.le_trans (zL_at hx1) (by omega) | exact Nat.le_trans (zL_at hx2) (by omega) | (have h9 := zL_at (z := zCorrection) hx1; simp only [zCorrection] at h9; omega) | (have h9 := zL_at (z := zCorrection) hx2; simp only [zCorrection] at h9; omega) | (exact decN (by omega)))) ?_
  refine nt ?_
  refine VRun.cond (tv (tB (decide (i < a.Corrections.length))) rfl) (fun hc3 => ?_) (fun hc3 => ?_)
  · have fhc3 : i < a.Corrections.length := of_decide_eq_true hc3
    refine sk ?_
    refine tn ?_
    refine sq ?_
    refine VRun.block ?_
    refine sr ?_
    refine fO (OF.fieldAddrO (tv (T.op 0 0) rfl) fa53_5) ?_
    refine lO (OL.loadO1 (t := (rd 5 eCorrection a.Corrections)) (tv (T.op 0 10) rfl) rfl rfl st50) ?_
    refine mO (tN i) rfl ?_
    obtain ⟨x1, hx1⟩ : ∃ x, a.Corrections[i]? = some x := ⟨_, List.getElem?_eq_getElem (by first | exact Nat.le_trans (zL_at hx1) (by omega) | exact Nat.le_trans (zL_at hx2) (by omega) | (have h9 := zL_at (z := zCorrection) hx1; simp only [zCorrection] at h9; omega) | (have h9 := zL_at (z := zCorrection) hx2; simp only [zCorrection] at h9; omega) | omega)⟩
    refine fO (OF.indexAddrR (row := (eCorrection false x1)) (i := i) (tv (rd 5 eCorrection a.Corrections) rfl) (tv (tN i) rfl) rfl (map_at _ hx1) Try.underlying50 sz102 if102) ?_
    refine lO (OL.loadRn (us := (eCorrection false x1)) (tv (T.rp (eCorrection false x1)) rfl) st102 sz102 (Nat.le_of_ble_eq_true rfl) rfl) ?_
    refine kO (B.alloc (t := (T.agg [(tN 0), (tN 0), (tN 0), T.nils, (tN 0)])) (ts := [(tN 0), (tN 0), (tN 0), T.nils, (tN 0)]) zo102 zc102 nofun (fun _ => .agg _ _ rfl (RLof (RL.cons (.int _ _) (RL.cons (.int _ _) (RL.cons (.int _ _) (RL.cons (.nils) (RL.cons (.int _ _) (RL.nil _)))))))) rfl) ?_
    refine cO (B.storeO (us := (eCorrection false x1)) (ws := (eCorrection false x1)) (tv (T.op 2 0) rfl) (tv (T.agg (eCorrection false x1)) rfl) nofun rfl rfl (Nat.le_of_ble_eq_true rfl) if102 sz102 (ball_cons rfl (ball_cons rfl (ball_cons rfl (ball_cons rfl (ball_cons rfl (ball_nil)))))) rfl) ?_
    refine nt ?_
    refine sr ?_
    refine fO (OF.fieldAddrO (tv (T.op 1 0) rfl) fa53_5) ?_
    refine lO (OL.loadO1 (t := (rd 5 eCorrection b.Corrections)) (tv (T.op 1 10) rfl) rfl rfl st50) ?_
    refine mO (tN i) rfl ?_
    obtain ⟨x2, hx2⟩ : ∃ x, b.Corrections[i]? = some x := ⟨_, List.getElem?_eq_getElem (by first | exact Nat.le_trans (zL_at hx1) (by omega) | exact Nat.le_trans (zL_at hx2) (by omega) | (have h9 := zL_at (z := zCorrection) hx1; simp only [zCorrection] at h9; omega) | (have h9 := zL_at (z := zCorrection) hx2; simp only [zCorrection] at h9; omega) | omega)⟩
    refine fO (OF.indexAddrR (row := (eCorrection false x2)) (i := i) (tv (rd 5 eCorrection b.Corrections) rfl) (tv (tN i) rfl) rfl (map_at _ hx2) Try.underlying50 sz102 if102) ?_
    refine lO (OL.loadRn (us := (eCorrection false x2)) (tv (T.rp (eCorrection false x2)) rfl) st102 sz102 (Nat.le_of_ble_eq_true rfl) rfl) ?_
    refine kO (B.alloc (t := (T.agg [(tN 0), (tN 0), (tN 0), T.nils, (tN 0)])) (ts := [(tN 0), (tN 0), (tN 0), T.nils, (tN 0)]) zo102 zc102 nofun (fun _ => .agg _ _ rfl (RLof (RL.cons (.int _ _) (RL.cons (.int _ _) (RL.cons (.int _ _) (RL.cons (.nils) (RL.cons (.int _ _) (RL.nil _)))))))) rfl) ?_
    refine cO (B.storeO (us := (eCorrection false x2)) (ws := (eCorrection false x2)) (tv (T.op 3 0) rfl) (tv (T.agg (eCorrection false x2)) rfl) nofun rfl rfl (Nat.le_of_ble_eq_true rfl) if102 sz102 (ball_cons rfl (ball_cons rfl (ball_cons rfl (ball_cons rfl (ball_cons rfl (ball_nil)))))) rfl) ?_
    refine nt ?_
    refine sr ?_
    refine fO (OF.fieldAddrO (tv (T.op 2 0) rfl) fa102_0) ?_
    refine lO (OL.loadO1 (t := (tI x1.Issue)) (tv (T.op 2 0) rfl) rfl rfl st3) ?_
    refine fO (OF.fieldAddrO (tv (T.op 3 0) rfl) fa102_0) ?_
    refine lO (OL.loadO1 (t := (tI x2.Issue)) (tv (T.op 3 0) rfl) rfl rfl st3) ?_
    refine fO (B.neq (c := (!(decide (x1.Issue = x2.Issue)))) (tv (tI x1.Issue) rfl) (tv (tI x2.Issue) rfl) rfl) ?_
    refine mO (tB (!(decide (x1.Issue = x2.Issue)))) rfl ?_
    refine bool_way (!(decide (x1.Issue = x2.Issue))) (fun hg79_7 => ?_) (fun hg79_7 => ?_)
    · have fhg79_7 : ¬ (x1.Issue = x2.Issue) := ndT hg79_7
      refine oO rfl rfl hg79_7 ?_
      refine oO rfl rfl hg79_7 ?_
      refine oO rfl rfl hg79_7 ?_
      refine oO rfl rfl hg79_7 ?_
      refine oO rfl rfl hg79_7 ?_
      refine fO (OF.pickT (VEv.tmpB (b := (!(decide (x1.Issue = x2.Issue)))) rfl hg79_7) (VEv.bool true)) ?_
      refine mO (tB true) rfl ?_
      refine VRunO.off (VWant.not (b := true) rfl rfl rfl) ?_
      refine VRunO.off (VWant.not (b := true) rfl rfl rfl) ?_
      refine VRunO.off (VWant.not (b := true) rfl rfl rfl) ?_
      refine VRunO.off (VWant.not (b := true) rfl rfl rfl) ?_
      refine VRunO.off (VWant.not (b := true) rfl rfl rfl) ?_
      refine fO (OF.pickT (tv (tB true) rfl) (VEv.bool true)) ?_
      refine mO (tB true) rfl ?_
      refine VRunO.off (VWant.not (b := true) rfl rfl rfl) ?_
      refine VRunO.off (VWant.not (b := true) rfl rfl rfl) ?_
      refine VRunO.off (VWant.not (b := true) rfl rfl rfl) ?_
      refine VRunO.off (VWant.not (b := true) rfl rfl rfl) ?_
      refine VRunO.off (VWant.not (b := true) rfl rfl rfl) ?_
      refine VRunO.off (VWant.not (b := true) rfl rfl rfl) ?_
      refine fO (OF.pickT (tv (tB true) rfl) (VEv.bool true)) ?_
      refine nt ?_
      refine VRun.cond (tv (tB true) rfl) (fun hk8 => ?_) (fun hk8 => ?_)
      · skip
        refine sr ?_
        refine fO (OF.assign (VEv.bool false)) ?_
        refine nt ?_
        refine rt ?_
        refine vinB.r ?_
        refine tr ?_
        refine tr ?_
        refine vinB.r ?_
        refine tr ?_
        refine vb (b' := false) rfl ?_
        first | (obtain ⟨a1, a2, a3, a4, a5, a6, a7, a8⟩ := a; obtain ⟨b1, b2, b3, b4, b5, b6, b7, b8⟩ := b; simp_all; done) | (symm; rw [decide_eq_false_iff_not]; rintro rfl; first | omega | (rw [hx1] at hx2; obtain rfl := Option.some.inj hx2; simp_all; done) | (simp_all; done))
      · exact absurd (rfl.symm.trans hk8) (by decide)
    have fhg79_7 : x1.Issue = x2.Issue := ndF hg79_7
    refine gF hg79_7 rfl rfl (OF.fieldAddrO (tv (T.op 2 0) rfl) fa102_1) ?_
    refine gL hg79_7 rfl rfl (OL.loadO1 (t := (tI x1.Slot)) (tv (T.op 2 1) rfl) rfl rfl st3) ?_
    refine gF hg79_7 rfl rfl (OF.fieldAddrO (tv (T.op 3 0) rfl) fa102_1) ?_
    refine gL hg79_7 rfl rfl (OL.loadO1 (t := (tI x2.Slot)) (tv (T.op 3 1) rfl) rfl rfl st3) ?_
    refine gF hg79_7 rfl rfl (B.neq (c := (!(decide (x1.Slot = x2.Slot)))) (tv (tI x1.Slot) rfl) (tv (tI x2.Slot) rfl) rfl) ?_
    refine fO (OF.pickF (VEv.tmpB (b := (!(decide (x1.Issue = x2.Issue)))) rfl hg79_7) (tv (tB (!(decide (x1.Slot = x2.Slot)))) rfl)) ?_
    refine mO (tB (!(decide (x1.Slot = x2.Slot)))) rfl ?_
    refine bool_way (!(decide (x1.Slot = x2.Slot))) (fun hg86_9 => ?_) (fun hg86_9 => ?_)
    · have fhg86_9 : ¬ (x1.Slot = x2.Slot) := ndT hg86_9
      refine oO rfl rfl hg86_9 ?_
      refine oO rfl rfl hg86_9 ?_
      refine oO rfl rfl hg86_9 ?_
      refine oO rfl rfl hg86_9 ?_
      refine oO rfl rfl hg86_9 ?_
      refine fO (OF.pickT (VEv.tmpB (b := (!(decide (x1.Slot = x2.Slot)))) rfl hg86_9) (VEv.bool true)) ?_
      refine mO (tB true) rfl ?_
      refine VRunO.off (VWant.not (b := true) rfl rfl rfl) ?_
      refine VRunO.off (VWant.not (b := true) rfl rfl rfl) ?_
      refine VRunO.off (VWant.not (b := true) rfl rfl rfl) ?_
      refine VRunO.off (VWant.not (b := true) rfl rfl rfl) ?_
      refine VRunO.off (VWant.not (b := true) rfl rfl rfl) ?_
      refine VRunO.off (VWant.not (b := true) rfl rfl rfl) ?_
      refine fO (OF.pickT (tv (tB true) rfl) (VEv.bool true)) ?_
      refine nt ?_
      refine VRun.cond (tv (tB true) rfl) (fun hk10 => ?_) (fun hk10 => ?_)
      · skip
        refine sr ?_
        refine fO (OF.assign (VEv.bool false)) ?_
        refine nt ?_
        refine rt ?_
        refine vinB.r ?_
        refine tr ?_
        refine tr ?_
        refine vinB.r ?_
        refine tr ?_
        refine vb (b' := false) rfl ?_
        first | (obtain ⟨a1, a2, a3, a4, a5, a6, a7, a8⟩ := a; obtain ⟨b1, b2, b3, b4, b5, b6, b7, b8⟩ := b; simp_all; done) | (symm; rw [decide_eq_false_iff_not]; rintro rfl; first | omega | (rw [hx1] at hx2; obtain rfl := Option.some.inj hx2; simp_all; done) | (simp_all; done))
      · exact absurd (rfl.symm.trans hk10) (by decide)
    have fhg86_9 : x1.Slot = x2.Slot := ndF hg86_9
    refine gF hg86_9 rfl rfl (OF.fieldAddrO (tv (T.op 2 0) rfl) fa102_3) ?_
    refine gL hg86_9 rfl rfl (OL.loadO1 (t := (tI x1.Tick)) (tv (T.op 2 4) rfl) rfl rfl st3) ?_
    refine gF hg86_9 rfl rfl (OF.fieldAddrO (tv (T.op 3 0) rfl) fa102_3) ?_
    refine gL hg86_9 rfl rfl (OL.loadO1 (t := (tI x2.Tick)) (tv (T.op 3 4) rfl) rfl rfl st3) ?_
    refine gF hg86_9 rfl rfl (B.neq (c := (!(decide (x1.Tick = x2.Tick)))) (tv (tI x1.Tick) rfl) (tv (tI x2.Tick) rfl) rfl) ?_
    refine fO (OF.pickF (VEv.tmpB (b := (!(decide (x1.Slot = x2.Slot)))) rfl hg86_9) (tv (tB (!(decide (x1.Tick = x2.Tick)))) rfl)) ?_
    refine mO (tB (!(decide (x1.Tick = x2.Tick)))) rfl ?_
    refine bool_way (!(decide (x1.Tick = x2.Tick))) (fun hg93_11 => ?_) (fun hg93_11 => ?_)
    · have fhg93_11 : ¬ (x1.Tick = x2.Tick) := ndT hg93_11
      refine oO rfl rfl hg93_11 ?_
      refine oO rfl rfl hg93_11 ?_
      refine oO rfl rfl hg93_11 ?_
      refine oO rfl rfl hg93_11 ?_
      refine oO rfl rfl hg93_11 ?_
      refine oO rfl rfl hg93_11 ?_
      refine fO (OF.pickT (VEv.tmpB (b := (!(decide (x1.Tick = x2.Tick)))) rfl hg93_11) (VEv.bool true)) ?_
      refine nt ?_
      refine VRun.cond (tv (tB true) rfl) (fun hk12 => ?_) (fun hk12 => ?_)
      · skip
        refine sr ?_
        refine fO (OF.assign (VEv.bool false)) ?_
        refine nt ?_
        refine rt ?_
        refine vinB.r ?_
        refine tr ?_
        refine tr ?_
        refine vinB.r ?_
        refine tr ?_
        refine vb (b' := false) rfl ?_
        first | (obtain ⟨a1, a2, a3, a4, a5, a6, a7, a8⟩ := a; obtain ⟨b1, b2, b3, b4, b5, b6, b7, b8⟩ := b; simp_all; done) | (symm; rw [decide_eq_false_iff_not]; rintro rfl; first | omega | (rw [hx1] at hx2; obtain rfl := Option.some.inj hx2; simp_all; done) | (simp_all; done))
      · exact absurd (rfl.symm.trans hk12) (by decide)
    have fhg93_11 : x1.Tick = x2.Tick := ndF hg93_11
    refine gF hg93_11 rfl rfl (OF.fieldAddrO (tv (T.op 2 0) rfl) fa102_2) ?_
    refine gL hg93_11 rfl rfl (OL.loadOn (us := (eClue false x1.Clue)) (tv (T.op 2 2) rfl) rfl st70 sz70 (Nat.le_of_ble_eq_true rfl) rfl) ?_
    refine gF hg93_11 rfl rfl (OF.fieldAddrO (tv (T.op 3 0) rfl) fa102_2) ?_
    refine gL hg93_11 rfl rfl (OL.loadOn (us := (eClue false x2.Clue)) (tv (T.op 3 2) rfl) rfl st70 sz70 (Nat.le_of_ble_eq_true rfl) rfl) ?_
    refine VRunO.chain (VWant.on (b := (!(decide (x1.Tick = x2.Tick)))) rfl rfl hg93_11) (cS (vc (tv (T.agg (eClue false x1.Clue)) rfl) (vc (tv (T.agg (eClue false x2.Clue)) rfl) VEvs.nil)) (LendL.cons (lg okeClue) (LendL.cons (lg okeClue) (LendL.nil))) (W_spec_l21SameClue (n + 2) x1.Clue x2.Clue (by first | exact Nat.le_trans (zL_at hx1) (by omega) | exact Nat.le_trans (zL_at hx2) (by omega) | (have h9 := zL_at (z := zCorrection) hx1; simp only [zCorrection] at h9; omega) | (have h9 := zL_at (z := zCorrection) hx2; simp only [zCorrection] at h9; omega) | assumption | omega) (by first | exact Nat.le_trans (zL_at hx1) (by omega) | exact Nat.le_trans (zL_at hx2) (by omega) | (have h9 := zL_at (z := zCorrection) hx1; simp only [zCorrection] at h9; omega) | (have h9 := zL_at (z := zCorrection) hx2; simp only [zCorrection] at h9; omega) | assumption | omega)) rfl rfl) ?_
    refine gF hg93_11 rfl rfl (B.not (c := (!(decide (x1.Clue = x2.Clue)))) (tv (tB (decide (x1.Clue = x2.Clue))) rfl) rfl) ?_
    refine fO (OF.pickF (VEv.tmpB (b := (!(decide (x1.Tick = x2.Tick)))) rfl hg93_11) (tv (tB (!(decide (x1.Clue = x2.Clue)))) rfl)) ?_
    refine nt ?_
    refine VRun.cond (tv (tB (!(decide (x1.Clue = x2.Clue)))) rfl) (fun hc4 => ?_) (fun hc4 => ?_)
    · have fhc4 : ¬ (x1.Clue = x2.Clue) := ndT hc4
      refine sr ?_
      refine fO (OF.assign (VEv.bool false)) ?_
      refine nt ?_
      refine rt ?_
      refine vinB.r ?_
      refine tr ?_
      refine tr ?_
      refine vinB.r ?_
      refine tr ?_
      refine vb (b' := false) rfl ?_
      first | (obtain ⟨a1, a2, a3, a4, a5, a6, a7, a8⟩ := a; obtain ⟨b1, b2, b3, b4, b5, b6, b7, b8⟩ := b; simp_all; done) | (symm; rw [decide_eq_false_iff_not]; rintro rfl; first | omega | (rw [hx1] at hx2; obtain rfl := Option.some.inj hx2; simp_all; done) | (simp_all; done))
    have fhc4 : x1.Clue = x2.Clue := ndF hc4
    refine sk ?_
    refine vinB.n ?_
    refine tn ?_
    refine VRun.region ?_
    refine mO (tN i) rfl ?_
    refine fO (B.add (n := (((i + 1) : Nat) : Int)) (tv (tN i) rfl) (VEv.int .i64 1) (by first | exact Nat.le_trans (zL_at hx1) (by omega) | exact Nat.le_trans (zL_at hx2) (by omega) | (have h9 := zL_at (z := zCorrection) hx1; simp only [zCorrection] at h9; omega) | (have h9 := zL_at (z := zCorrection) hx2; simp only [zCorrection] at h9; omega) | rfl | (rw [wrap64 (by omega)]; omega) | (rw [wrap64 (by omega)]; done))) ?_
    refine aO (tN (i + 1)) rfl ?_
    refine VRunO.nil ?_
    refine tn ?_
    refine ⟨(i + 1 : Nat), ?_, ?_, Wk.mk (fun k => k) ?_ ?_ ?_⟩
    · refine agree_next hI' hx1 hx2 ?_; first | assumption | (obtain ⟨c1, c2, c3, c4⟩ := x1; obtain ⟨d1, d2, d3, d4⟩ := x2; simp_all; done)
    · first | omega | (simp only []; omega) | (show _ < _; omega) | (simp; omega)
    · exact (ball_cons ⟨rfl, rfl⟩ (ball_cons ⟨rfl, rfl⟩ (ball_cons ⟨rfl, rfl⟩ (ball_nil))))
    · exact (ball_cons ⟨rfl, (Nat.le_of_ble_eq_true rfl), rfl⟩ (ball_cons ⟨rfl, (Nat.le_of_ble_eq_true rfl), rfl⟩ (ball_nil)))
    · show List.Nodup ([0, 1] : List Nat)
      decide
  have fhc3 : ¬ (i < a.Corrections.length) := of_decide_eq_false hc3
  have e3 := agree_all hI' (by omega) fhc3
  refine VRun.exit ?_
  refine vthn.e ?_
  refine vthn.e ?_
  refine vinB.e ?_
  refine tn ?_
  refine sr ?_
  refine fO (OF.fieldAddrO (tv (T.op 0 0) rfl) fa53_2) ?_
  refine lO (OL.loadOn (us := (eDraft false a.Desk)) (tv (T.op 0 2) rfl) rfl st32 sz32 (Nat.le_of_ble_eq_true rfl) rfl) ?_
  refine fO (OF.fieldAddrO (tv (T.op 1 0) rfl) fa53_2) ?_
  refine lO (OL.loadOn (us := (eDraft false b.Desk)) (tv (T.op 1 2) rfl) rfl st32 sz32 (Nat.le_of_ble_eq_true rfl) rfl) ?_
  refine cO (cS (vc (tv (T.agg (eDraft false a.Desk)) rfl) (vc (tv (T.agg (eDraft false b.Desk)) rfl) VEvs.nil)) (LendL.cons (lg okeDraft) (LendL.cons (lg okeDraft) (LendL.nil))) (W_spec_EqualDrafts (n + 1) a.Desk b.Desk (by first | exact Nat.le_trans (zL_at hx1) (by omega) | exact Nat.le_trans (zL_at hx2) (by omega) | (have h9 := zL_at (z := zCorrection) hx1; simp only [zCorrection] at h9; omega) | (have h9 := zL_at (z := zCorrection) hx2; simp only [zCorrection] at h9; omega) | assumption | omega) (by first | exact Nat.le_trans (zL_at hx1) (by omega) | exact Nat.le_trans (zL_at hx2) (by omega) | (have h9 := zL_at (z := zCorrection) hx1; simp only [zCorrection] at h9; omega) | (have h9 := zL_at (z := zCorrection) hx2; simp only [zCorrection] at h9; omega) | assumption | omega)) rfl rfl) ?_
  refine aO (tB (decide (a.Desk = b.Desk))) rfl ?_
  refine nt ?_
  refine rt ?_
  refine vb (b' := (decide (a.Desk = b.Desk))) rfl ?_
  first | (obtain ⟨a1, a2, a3, a4, a5, a6, a7, a8⟩ := a; obtain ⟨b1, b2, b3, b4, b5, b6, b7, b8⟩ := b; simp_all; done) | (symm; rw [decide_eq_false_iff_not]; rintro rfl; first | omega | (rw [hx1] at hx2; obtain rfl := Option.some.inj hx2; simp_all; done) | (simp_all; done))
end Go.Proofs.Ytfdefabncdddkaa.AE
