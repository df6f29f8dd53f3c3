/- Walks of the program's functions over trees. Conditions: as each theorem states. -/
import Derived.Test.YthdnjihmjdbdkaaKFnExactAddReportFeq
namespace Go.Proofs.Ythdnjihmjdbdkaa.AE
open Go Go.RowKit
set_option linter.unusedVariables false
set_option linter.unusedSimpArgs false
set_option maxRecDepth 20000
set_option maxHeartbeats 2000000

noncomputable section
/-- All numbers below n. -/
theorem allNext {ok : Nat → Prop} {i n : Nat} (h : i ≤ n ∧ ∀ j, j < i → ok j) (hi : i < n) (hk : ok i) : i + 1 ≤ n ∧ ∀ j, j < i + 1 → ok j := by
  refine ⟨hi, fun j hj => ?_⟩
  rcases Nat.lt_or_ge j i with h1 | h1
  · exact h.2 j h1
  · obtain rfl : j = i := by omega
    exact hk
theorem allEnd {ok : Nat → Prop} {i n : Nat} (h : i ≤ n ∧ ∀ j, j < i → ok j) (hi : ¬ i < n) : ∀ j, j < n → ok j := fun j hj => h.2 j (by omega)
theorem same_at {α : Type} {l : List α} {i : Nat} {x y : α} (hx : l[i]? = some x) (hy : l[i]? = some y) : y = x := by
  rw [hx] at hy
  exact (Option.some.inj hy).symm
def isWord (s : ByteArray) : Prop := (1 ≤ s.size ∧ s.size ≤ 8) ∧ ∀ i, i < s.size → 97 ≤ bAt s i ∧ bAt s i ≤ 122
instance (s : ByteArray) : Decidable (isWord s) := Classical.propDecidable _
def bWord (a b : ByteArray) : Bool := if a.size = b.size then Op.bytesLess a.toList b.toList else decide (a.size < b.size)
/-- The first that meets p. -/
def ixF {α : Type} (p : α → Prop) [DecidablePred p] : List α → Int
  | [] => -1
  | x :: r => if p x then 0 else if ixF p r < 0 then -1 else ixF p r + 1
theorem ixF_found {α : Type} {p : α → Prop} [DecidablePred p] : ∀ {l : List α} {i : Nat} {x : α}, l[i]? = some x → p x → (∀ j y, j < i → l[j]? = some y → ¬ p y) → ixF p l = i
  | [], i, x, h, _, _ => by simp at h
  | y :: r, 0, x, h, hp, _ => by
    obtain rfl : y = x := by simpa using h
    simp only [ixF, if_pos hp]
    rfl
  | y :: r, i + 1, x, h, hp, hn => by
    have h1 := ixF_found (l := r) (i := i) (by simpa using h) hp (fun j z hj hz => hn (j + 1) z (by omega) (by simpa using hz))
    have h2 : ¬ p y := hn 0 y (by omega) (by simp)
    simp only [ixF, if_neg h2, h1]
    rw [if_neg (by omega)]
    rfl
theorem ixF_none {α : Type} {p : α → Prop} [DecidablePred p] : ∀ {l : List α}, (∀ j y, j < l.length → l[j]? = some y → ¬ p y) → ixF p l = -1
  | [], _ => rfl
  | y :: r, hn => by
    have h1 := ixF_none (l := r) (fun j z hj hz => hn (j + 1) z (by simp; omega) (by simpa using hz))
    have h2 : ¬ p y := hn 0 y (by simp) (by simp)
    simp only [ixF, if_neg h2, h1]
    rfl
theorem ixF_nn {α : Type} {p : α → Prop} [DecidablePred p] : ∀ {l : List α}, 0 ≤ ixF p l ↔ ∃ x ∈ l, p x
  | [] => by simp [ixF]
  | y :: r => by
    have h1 := ixF_nn (p := p) (l := r)
    simp only [ixF, List.mem_cons, exists_eq_or_imp]
    by_cases hy : p y
    · simp [hy]
    · simp only [if_neg hy, hy, false_or]
      rw [← h1]
      by_cases h : ixF p r < 0
      · rw [if_pos h]
        exact ⟨fun h2 => absurd h2 (by decide), fun h2 => by omega⟩
      · rw [if_neg h]
        exact ⟨fun h2 => by omega, fun h2 => by omega⟩
theorem ixF_le {α : Type} {p : α → Prop} [DecidablePred p] : ∀ {l : List α}, ixF p l < l.length
  | [] => by simp [ixF]
  | y :: r => by
    have h1 := ixF_le (p := p) (l := r)
    simp only [ixF, List.length_cons]
    split
    · omega
    · split <;> omega
/-- None so far. -/
def NoneTo {α : Type} (p : α → Prop) (l : List α) (i : Nat) : Prop := i ≤ l.length ∧ ∀ j y, j < i → l[j]? = some y → ¬ p y
theorem NoneTo.start {α : Type} (p : α → Prop) (l : List α) : NoneTo p l 0 := ⟨Nat.zero_le _, fun j y hj => by omega⟩
theorem NoneTo.next {α : Type} {p : α → Prop} {l : List α} {i : Nat} {x : α} (h : NoneTo p l i) (hx : l[i]? = some x) (hn : ¬ p x) : NoneTo p l (i + 1) := by
  have := (List.getElem?_eq_some_iff.1 hx).1
  refine ⟨by omega, fun j y hj hy => ?_⟩
  rcases Nat.lt_or_ge j i with h1 | h1
  · exact h.2 j y h1 hy
  · obtain rfl : j = i := by omega
    rw [hx] at hy
    exact Option.some.inj hy ▸ hn
theorem NoneTo.all {α : Type} {p : α → Prop} {l : List α} {i : Nat} (h : NoneTo p l i) (hi : ¬ i < l.length) : ∀ j y, j < l.length → l[j]? = some y → ¬ p y := fun j y hj hy => h.2 j y (by omega) hy
theorem NoneTo.mem {α : Type} {p : α → Prop} {l : List α} {i : Nat} (h : NoneTo p l i) (hi : ¬ i < l.length) : ∀ y ∈ l, ¬ p y := fun y hy => by
  obtain ⟨j, hj⟩ := List.getElem?_of_mem hy
  exact h.all hi j y (List.getElem?_eq_some_iff.1 hj).1 hj
theorem mem_take_iff {α : Type} {l : List α} {i : Nat} {x : α} : x ∈ l.take i ↔ ∃ k, k < i ∧ l[k]? = some x := by
  constructor
  · intro h
    obtain ⟨k, hk⟩ := List.getElem?_of_mem h
    rw [List.getElem?_take] at hk
    split at hk
    · exact ⟨k, by assumption, hk⟩
    · cases hk
  · rintro ⟨k, hk, h⟩
    refine List.mem_of_getElem? (i := k) ?_
    rw [List.getElem?_take, if_pos hk, h]
end
theorem W_spec_l1In (n : Nat) (a : Int) (b : Int) (c : Int)  : Pure (acall Try.prog (n + 1)) 80 [(tI a), (tI b), (tI c)] (tB (decide (b ≤ a ∧ a ≤ c))) := by
  refine Pure.intro (rs := [ResultVar.tmp 6]) Try.func80 rfl rfl rfl (E0 := [(0, (tI a)), (1, (tI b)), (2, (tI c))]) rfl ?_
  have hlim : lim = 1099511627776 := rfl
  have hmx : mx = 1048576 := rfl
  have hmax : maxLen = 9223372036854775807 := rfl
  refine sr ?_
  refine fO (OF.assign (VEv.bool false)) ?_
  refine nt ?_
  refine sr ?_
  refine mO (tI a) rfl ?_
  refine mO (tI b) rfl ?_
  refine fO (B.geq (c := (decide (b ≤ a))) (tv (tI a) rfl) (tv (tI b) rfl) rfl) ?_
  refine mO (tB (decide (b ≤ a))) rfl ?_
  refine bool_way (decide (b ≤ a)) (fun hg10_1 => ?_) (fun hg10_1 => ?_)
  · have fhg10_1 : b ≤ a := of_decide_eq_true hg10_1
    refine gF hg10_1 rfl rfl (OF.move (tv (tI a) rfl)) ?_
    refine gF hg10_1 rfl rfl (OF.move (tv (tI c) rfl)) ?_
    refine gF hg10_1 rfl rfl (B.leq (c := (decide (a ≤ c))) (tv (tI a) rfl) (tv (tI c) rfl) rfl) ?_
    refine fO (OF.pickT (VEv.tmpB (b := (decide (b ≤ a))) rfl hg10_1) (tv (tB (decide (a ≤ c))) rfl)) ?_
    refine aO (tB (decide (a ≤ c))) rfl ?_
    refine nt ?_
    refine rt ?_
    refine vb (b' := (decide (a ≤ c))) rfl ?_
    first | rfl | (exact decN (by omega)) | (symm; rw [decide_eq_false_iff_not]; omega) | (symm; rw [decide_eq_true_eq]; omega) | (simp_all; done)
  have fhg10_1 : ¬ (b ≤ a) := of_decide_eq_false hg10_1
  refine oO rfl rfl hg10_1 ?_
  refine oO rfl rfl hg10_1 ?_
  refine oO rfl rfl hg10_1 ?_
  refine fO (OF.pickF (VEv.tmpB (b := (decide (b ≤ a))) rfl hg10_1) (VEv.bool false)) ?_
  refine aO (tB false) rfl ?_
  refine nt ?_
  refine rt ?_
  refine vb (b' := false) rfl ?_
  first | rfl | (exact decN (by omega)) | (symm; rw [decide_eq_false_iff_not]; omega) | (symm; rw [decide_eq_true_eq]; omega) | (simp_all; done)
theorem W_impl_InRange (n : Nat) (a : Int) (b : Int) (c : Int)  : Pure (acall Try.prog (n + 1)) 85 [(tI a), (tI b), (tI c)] (tB (decide (b ≤ a ∧ a ≤ c))) := by
  refine Pure.intro (rs := [ResultVar.tmp 6]) Try.func85 rfl rfl rfl (E0 := [(0, (tI a)), (1, (tI b)), (2, (tI c))]) rfl ?_
  have hlim : lim = 1099511627776 := rfl
  have hmx : mx = 1048576 := rfl
  have hmax : maxLen = 9223372036854775807 := rfl
  refine sr ?_
  refine fO (OF.assign (VEv.bool false)) ?_
  refine nt ?_
  refine sr ?_
  refine mO (tI b) rfl ?_
  refine mO (tI a) rfl ?_
  refine fO (B.leq (c := (decide (b ≤ a))) (tv (tI b) rfl) (tv (tI a) rfl) rfl) ?_
  refine mO (tB (decide (b ≤ a))) rfl ?_
  refine bool_way (decide (b ≤ a)) (fun hg10_1 => ?_) (fun hg10_1 => ?_)
  · have fhg10_1 : b ≤ a := of_decide_eq_true hg10_1
    refine gF hg10_1 rfl rfl (OF.move (tv (tI a) rfl)) ?_
    refine gF hg10_1 rfl rfl (OF.move (tv (tI c) rfl)) ?_
    refine gF hg10_1 rfl rfl (B.leq (c := (decide (a ≤ c))) (tv (tI a) rfl) (tv (tI c) rfl) rfl) ?_
    refine fO (OF.pickT (VEv.tmpB (b := (decide (b ≤ a))) rfl hg10_1) (tv (tB (decide (a ≤ c))) rfl)) ?_
    refine aO (tB (decide (a ≤ c))) rfl ?_
    refine nt ?_
    refine rt ?_
    refine vb (b' := (decide (a ≤ c))) rfl ?_
    first | rfl | (exact decN (by omega)) | (symm; rw [decide_eq_false_iff_not]; omega) | (symm; rw [decide_eq_true_eq]; omega) | (simp_all; done)
  have fhg10_1 : ¬ (b ≤ a) := of_decide_eq_false hg10_1
  refine oO rfl rfl hg10_1 ?_
  refine oO rfl rfl hg10_1 ?_
  refine oO rfl rfl hg10_1 ?_
  refine fO (OF.pickF (VEv.tmpB (b := (decide (b ≤ a))) rfl hg10_1) (VEv.bool false)) ?_
  refine aO (tB false) rfl ?_
  refine nt ?_
  refine rt ?_
  refine vb (b' := false) rfl ?_
  first | rfl | (exact decN (by omega)) | (symm; rw [decide_eq_false_iff_not]; omega) | (symm; rw [decide_eq_true_eq]; omega) | (simp_all; done)
theorem W_impl_isLetter (n : Nat) (a : Int)  : Pure (acall Try.prog (n + 1)) 130 [(T.int .u8 a)] (tB (decide (97 ≤ a ∧ a ≤ 122))) := by
  refine Pure.intro (rs := [ResultVar.tmp 2]) Try.func130 rfl rfl rfl (E0 := [(0, (T.int .u8 a))]) rfl ?_
  have hlim : lim = 1099511627776 := rfl
  have hmx : mx = 1048576 := rfl
  have hmax : maxLen = 9223372036854775807 := rfl
  refine sr ?_
  refine fO (OF.assign (VEv.bool false)) ?_
  refine nt ?_
  refine sr ?_
  refine mO (T.int .u8 a) rfl ?_
  refine fO (B.geq (c := (decide (97 ≤ a))) (tv (T.int .u8 a) rfl) (VEv.int .u8 97) rfl) ?_
  refine mO (tB (decide (97 ≤ a))) rfl ?_
  refine bool_way (decide (97 ≤ a)) (fun hg5_1 => ?_) (fun hg5_1 => ?_)
  · have fhg5_1 : 97 ≤ a := of_decide_eq_true hg5_1
    refine gF hg5_1 rfl rfl (OF.move (tv (T.int .u8 a) rfl)) ?_
    refine gF hg5_1 rfl rfl (B.leq (c := (decide (a ≤ 122))) (tv (T.int .u8 a) rfl) (VEv.int .u8 122) rfl) ?_
    refine fO (OF.pickT (VEv.tmpB (b := (decide (97 ≤ a))) rfl hg5_1) (tv (tB (decide (a ≤ 122))) rfl)) ?_
    refine aO (tB (decide (a ≤ 122))) rfl ?_
    refine nt ?_
    refine rt ?_
    refine vb (b' := (decide (a ≤ 122))) rfl ?_
    first | rfl | (exact decN (by omega)) | (symm; rw [decide_eq_false_iff_not]; omega) | (symm; rw [decide_eq_true_eq]; omega) | (simp_all; done)
  have fhg5_1 : ¬ (97 ≤ a) := of_decide_eq_false hg5_1
  refine oO rfl rfl hg5_1 ?_
  refine oO rfl rfl hg5_1 ?_
  refine fO (OF.pickF (VEv.tmpB (b := (decide (97 ≤ a))) rfl hg5_1) (VEv.bool false)) ?_
  refine aO (tB false) rfl ?_
  refine nt ?_
  refine rt ?_
  refine vb (b' := false) rfl ?_
  first | rfl | (exact decN (by omega)) | (symm; rw [decide_eq_false_iff_not]; omega) | (symm; rw [decide_eq_true_eq]; omega) | (simp_all; done)
theorem W_spec_IsWord (n : Nat) (a : ByteArray) (ha : a.size ≤ maxLen) : Pure (acall Try.prog (n + 2)) 79 [(tS a)] (tB (decide (isWord a))) := by
  refine Pure.intro (rs := [ResultVar.tmp 2]) Try.func79 rfl rfl rfl (E0 := [(0, (tS a))]) rfl ?_
  have hlim : lim = 1099511627776 := rfl
  have hmx : mx = 1048576 := rfl
  have hmax : maxLen = 9223372036854775807 := rfl
  refine sr ?_
  refine fO (OF.assign (VEv.bool false)) ?_
  refine nt ?_
  refine sq ?_
  refine sr ?_
  refine mO (tS a) rfl ?_
  refine lO (B.lenS (tv (tS a) rfl) Try.underlying9) ?_
  refine cO (cS (vc (tv (tN a.size) rfl) (vc (VEv.int .i64 1) (vc (VEv.int .i64 8) VEvs.nil))) (lp rfl (lp rfl (lp rfl (LendL.nil)))) (W_spec_l1In (n + 0) ((a.size : Nat) : Int) 1 8 ) rfl rfl) ?_
  refine fO (B.not (c := (!(decide (1 ≤ ((a.size : Nat) : Int) ∧ ((a.size : Nat) : Int) ≤ 8)))) (tv (tB (decide (1 ≤ ((a.size : Nat) : Int) ∧ ((a.size : Nat) : Int) ≤ 8))) rfl) rfl) ?_
  refine nt ?_
  refine VRun.cond (tv (tB (!(decide (1 ≤ ((a.size : Nat) : Int) ∧ ((a.size : Nat) : Int) ≤ 8)))) rfl) (fun hc0 => ?_) (fun hc0 => ?_)
  · have fhc0 : ¬ (1 ≤ ((a.size : Nat) : Int) ∧ ((a.size : Nat) : Int) ≤ 8) := ndT hc0
    refine sr ?_
    refine fO (OF.assign (VEv.bool false)) ?_
    refine nt ?_
    refine rt ?_
    refine tr ?_
    refine vb (b' := false) rfl ?_
    symm; rw [decide_eq_false_iff_not]; rintro ⟨h1, _⟩; omega
  have fhc0 : 1 ≤ ((a.size : Nat) : Int) ∧ ((a.size : Nat) : Int) ≤ 8 := ndF hc0
  refine sk ?_
  refine tn ?_
  refine sq ?_
  refine sr ?_
  refine fO (OF.assign (VEv.int .i64 0)) ?_
  refine nt ?_
  refine VRun.block ?_
  refine VRun.loop (A := Nat) (fun s_ => [(0, (tS a)), (3, (tN s_))]) (fun s_ => mkO []) 0 (fun s_ => s_ ≤ a.size ∧ ∀ j, j < s_ → 97 ≤ bAt a j ∧ bAt a j ≤ 122) (fun s_ => a.size - s_) (0 : Nat) ?_ (Wk.mk (fun k => k) ?_ ?_ ?_) ?_
  · exact ⟨Nat.zero_le _, fun j hj => by omega⟩
  · exact (ball_cons ⟨rfl, rfl⟩ (ball_cons ⟨rfl, rfl⟩ (ball_nil)))
  · exact (ball_nil)
  · show List.Nodup ([] : List Nat)
    decide
  rintro i hI
  have hI' : i ≤ a.size ∧ ∀ j, j < i → 97 ≤ bAt a j ∧ bAt a j ≤ 122 := hI
  clear hI
  show VRun _ _ _ [(0, (tS a)), (3, (tN i))] (mkO []) 0 _
  refine sq ?_
  refine sr ?_
  refine mO (tN i) rfl ?_
  refine mO (tS a) rfl ?_
  refine lO (B.lenS (tv (tS a) rfl) Try.underlying9) ?_
  refine fO (B.lss (c := (decide (i < a.size))) (tv (tN i) rfl) (tv (tN a.size) rfl) (by first | (exact decN (by omega)))) ?_
  refine nt ?_
  refine VRun.cond (tv (tB (decide (i < a.size))) rfl) (fun hc1 => ?_) (fun hc1 => ?_)
  · have fhc1 : i < a.size := of_decide_eq_true hc1
    refine sk ?_
    refine tn ?_
    refine sq ?_
    refine VRun.block ?_
    refine sr ?_
    refine mO (tS a) rfl ?_
    refine mO (tN i) rfl ?_
    have hb1 : i < a.size := (by first | omega)
    refine fO (B.index (n := (bAt a i)) (i := i) (tv (tS a) rfl) (tv (tN i) rfl) rfl hb1 Try.underlying9 (bAt_eq hb1)) ?_
    refine fO (B.lss (c := (decide (bAt a i < 97))) (tv (T.int .u8 (bAt a i)) rfl) (VEv.int .u8 97) rfl) ?_
    refine mO (tB (decide (bAt a i < 97))) rfl ?_
    refine bool_way (decide (bAt a i < 97)) (fun hg18_2 => ?_) (fun hg18_2 => ?_)
    · have fhg18_2 : bAt a i < 97 := of_decide_eq_true hg18_2
      refine oO rfl rfl hg18_2 ?_
      refine oO rfl rfl hg18_2 ?_
      refine oO rfl rfl hg18_2 ?_
      refine oO rfl rfl hg18_2 ?_
      refine fO (OF.pickT (VEv.tmpB (b := (decide (bAt a i < 97))) rfl hg18_2) (VEv.bool true)) ?_
      refine nt ?_
      refine VRun.cond (tv (tB true) rfl) (fun hk3 => ?_) (fun hk3 => ?_)
      · skip
        refine sr ?_
        refine fO (OF.assign (VEv.bool false)) ?_
        refine nt ?_
        refine rt ?_
        refine vinB.r ?_
        refine tr ?_
        refine tr ?_
        refine vinB.r ?_
        refine tr ?_
        refine vb (b' := false) rfl ?_
        symm; rw [decide_eq_false_iff_not]; rintro ⟨_, h2⟩; have := h2 i fhc1; omega
      · exact absurd (rfl.symm.trans hk3) (by decide)
    have fhg18_2 : ¬ (bAt a i < 97) := of_decide_eq_false hg18_2
    refine gF hg18_2 rfl rfl (OF.move (tv (tS a) rfl)) ?_
    refine gF hg18_2 rfl rfl (OF.move (tv (tN i) rfl)) ?_
    have hb4 : i < a.size := (by first | omega)
    refine gF hg18_2 rfl rfl (B.index (n := (bAt a i)) (i := i) (tv (tS a) rfl) (tv (tN i) rfl) rfl hb4 Try.underlying9 (bAt_eq hb4)) ?_
    refine gF hg18_2 rfl rfl (B.gtr (c := (decide (122 < bAt a i))) (tv (T.int .u8 (bAt a i)) rfl) (VEv.int .u8 122) rfl) ?_
    refine fO (OF.pickF (VEv.tmpB (b := (decide (bAt a i < 97))) rfl hg18_2) (tv (tB (decide (122 < bAt a i))) rfl)) ?_
    refine nt ?_
    refine VRun.cond (tv (tB (decide (122 < bAt a i))) rfl) (fun hc2 => ?_) (fun hc2 => ?_)
    · have fhc2 : 122 < bAt a i := of_decide_eq_true hc2
      refine sr ?_
      refine fO (OF.assign (VEv.bool false)) ?_
      refine nt ?_
      refine rt ?_
      refine vinB.r ?_
      refine tr ?_
      refine tr ?_
      refine vinB.r ?_
      refine tr ?_
      refine vb (b' := false) rfl ?_
      symm; rw [decide_eq_false_iff_not]; rintro ⟨_, h2⟩; have := h2 i fhc1; omega
    have fhc2 : ¬ (122 < bAt a i) := of_decide_eq_false hc2
    refine sk ?_
    refine vinB.n ?_
    refine tn ?_
    refine VRun.region ?_
    refine mO (tN i) rfl ?_
    refine fO (B.add (n := (((i + 1) : Nat) : Int)) (tv (tN i) rfl) (VEv.int .i64 1) (by first | rfl | (rw [wrap64 (by omega)]; omega) | (rw [wrap64 (by omega)]; done))) ?_
    refine aO (tN (i + 1)) rfl ?_
    refine VRunO.nil ?_
    refine tn ?_
    refine ⟨(i + 1 : Nat), ?_, ?_, Wk.mk (fun k => k) ?_ ?_ ?_⟩
    · exact allNext (ok := fun j => 97 ≤ bAt a j ∧ bAt a j ≤ 122) hI' fhc1 (by omega)
    · first | omega | (simp only []; omega) | (show _ < _; omega) | (simp; omega)
    · exact (ball_cons ⟨rfl, rfl⟩ (ball_cons ⟨rfl, rfl⟩ (ball_nil)))
    · exact (ball_nil)
    · show List.Nodup ([] : List Nat)
      decide
  have fhc1 : ¬ (i < a.size) := of_decide_eq_false hc1
  refine VRun.exit ?_
  refine vthn.e ?_
  refine vthn.e ?_
  refine vinB.e ?_
  refine tn ?_
  refine sr ?_
  refine fO (OF.assign (VEv.bool true)) ?_
  refine nt ?_
  refine rt ?_
  refine vb (b' := true) rfl ?_
  symm; rw [decide_eq_true_eq]; exact ⟨by omega, allEnd hI' fhc1⟩
theorem W_impl_IsWord (n : Nat) (a : ByteArray) (ha : a.size ≤ maxLen) : Pure (acall Try.prog (n + 2)) 84 [(tS a)] (tB (decide (isWord a))) := by
  refine Pure.intro (rs := [ResultVar.tmp 2]) Try.func84 rfl rfl rfl (E0 := [(0, (tS a))]) rfl ?_
  have hlim : lim = 1099511627776 := rfl
  have hmx : mx = 1048576 := rfl
  have hmax : maxLen = 9223372036854775807 := rfl
  refine sr ?_
  refine fO (OF.assign (VEv.bool false)) ?_
  refine nt ?_
  refine sq ?_
  refine sr ?_
  refine mO (tS a) rfl ?_
  refine lO (B.lenS (tv (tS a) rfl) Try.underlying9) ?_
  refine cO (cS (vc (tv (tN a.size) rfl) (vc (VEv.int .i64 1) (vc (VEv.int .i64 8) VEvs.nil))) (lp rfl (lp rfl (lp rfl (LendL.nil)))) (W_impl_InRange (n + 0) ((a.size : Nat) : Int) 1 8 ) rfl rfl) ?_
  refine fO (B.not (c := (!(decide (1 ≤ ((a.size : Nat) : Int) ∧ ((a.size : Nat) : Int) ≤ 8)))) (tv (tB (decide (1 ≤ ((a.size : Nat) : Int) ∧ ((a.size : Nat) : Int) ≤ 8))) rfl) rfl) ?_
  refine nt ?_
  refine VRun.cond (tv (tB (!(decide (1 ≤ ((a.size : Nat) : Int) ∧ ((a.size : Nat) : Int) ≤ 8)))) rfl) (fun hc0 => ?_) (fun hc0 => ?_)
  · have fhc0 : ¬ (1 ≤ ((a.size : Nat) : Int) ∧ ((a.size : Nat) : Int) ≤ 8) := ndT hc0
    refine sr ?_
    refine fO (OF.assign (VEv.bool false)) ?_
    refine nt ?_
    refine rt ?_
    refine tr ?_
    refine vb (b' := false) rfl ?_
    symm; rw [decide_eq_false_iff_not]; rintro ⟨h1, _⟩; omega
  have fhc0 : 1 ≤ ((a.size : Nat) : Int) ∧ ((a.size : Nat) : Int) ≤ 8 := ndF hc0
  refine sk ?_
  refine tn ?_
  refine sq ?_
  refine sr ?_
  refine mO (tS a) rfl ?_
  refine lO (B.lenS (tv (tS a) rfl) Try.underlying9) ?_
  refine fO (OF.move (VEv.int .i64 0)) ?_
  refine nt ?_
  refine VRun.block ?_
  refine VRun.loop (A := Nat) (fun s_ => [(0, (tS a)), (9, (tN a.size)), (10, (tN s_))]) (fun s_ => mkO []) 0 (fun s_ => s_ ≤ a.size ∧ ∀ j, j < s_ → 97 ≤ bAt a j ∧ bAt a j ≤ 122) (fun s_ => a.size - s_) (0 : Nat) ?_ (Wk.mk (fun k => k) ?_ ?_ ?_) ?_
  · exact ⟨Nat.zero_le _, fun j hj => by omega⟩
  · exact (ball_cons ⟨rfl, rfl⟩ (ball_cons ⟨rfl, rfl⟩ (ball_cons ⟨rfl, rfl⟩ (ball_nil))))
  · exact (ball_nil)
  · show List.Nodup ([] : List Nat)
    decide
  rintro i hI
  have hI' : i ≤ a.size ∧ ∀ j, j < i → 97 ≤ bAt a j ∧ bAt a j ≤ 122 := hI
  clear hI
  show VRun _ _ _ [(0, (tS a)), (9, (tN a.size)), (10, (tN i))] (mkO []) 0 _
  refine sr ?_
  refine fO (B.lss (c := (decide (i < a.size))) (tv (tN i) rfl) (tv (tN a.size) rfl) (by first | (exact decN (by omega)))) ?_
  refine nt ?_
  refine sq ?_
  refine VRun.cond (tv (tB (decide (i < a.size))) rfl) (fun hc1 => ?_) (fun hc1 => ?_)
  · have fhc1 : i < a.size := of_decide_eq_true hc1
    refine sk ?_
    refine tn ?_
    refine sq ?_
    refine VRun.block ?_
    refine sr ?_
    refine mO (tN i) rfl ?_
    refine aO (tN i) rfl ?_
    refine nt ?_
    refine sr ?_
    refine mO (tS a) rfl ?_
    refine mO (tN i) rfl ?_
    have hb1 : i < a.size := (by first | omega)
    refine fO (B.index (n := (bAt a i)) (i := i) (tv (tS a) rfl) (tv (tN i) rfl) rfl hb1 Try.underlying9 (bAt_eq hb1)) ?_
    refine cO (cS (vc (tv (T.int .u8 (bAt a i)) rfl) VEvs.nil) (lp rfl (LendL.nil)) (W_impl_isLetter (n + 0) (bAt a i) ) rfl rfl) ?_
    refine fO (B.not (c := (!(decide (97 ≤ (bAt a i) ∧ (bAt a i) ≤ 122)))) (tv (tB (decide (97 ≤ (bAt a i) ∧ (bAt a i) ≤ 122))) rfl) rfl) ?_
    refine nt ?_
    refine VRun.cond (tv (tB (!(decide (97 ≤ (bAt a i) ∧ (bAt a i) ≤ 122)))) rfl) (fun hc2 => ?_) (fun hc2 => ?_)
    · have fhc2 : ¬ (97 ≤ (bAt a i) ∧ (bAt a i) ≤ 122) := ndT hc2
      refine sr ?_
      refine fO (OF.assign (VEv.bool false)) ?_
      refine nt ?_
      refine rt ?_
      refine vinB.r ?_
      refine tr ?_
      refine tr ?_
      refine vinB.r ?_
      refine tr ?_
      refine vb (b' := false) rfl ?_
      symm; rw [decide_eq_false_iff_not]; rintro ⟨_, h2⟩; have := h2 i fhc1; omega
    have fhc2 : 97 ≤ (bAt a i) ∧ (bAt a i) ≤ 122 := ndF hc2
    refine sk ?_
    refine vinB.n ?_
    refine tn ?_
    refine VRun.region ?_
    refine fO (B.add (n := (((i + 1) : Nat) : Int)) (tv (tN i) rfl) (VEv.int .i64 1) (by first | rfl | (rw [wrap64 (by omega)]; omega) | (rw [wrap64 (by omega)]; done))) ?_
    refine mO (tN (i + 1)) rfl ?_
    refine VRunO.nil ?_
    refine tn ?_
    refine ⟨(i + 1 : Nat), ?_, ?_, Wk.mk (fun k => k) ?_ ?_ ?_⟩
    · exact allNext (ok := fun j => 97 ≤ bAt a j ∧ bAt a j ≤ 122) hI' fhc1 (by omega)
    · first | omega | (simp only []; omega) | (show _ < _; omega) | (simp; omega)
    · exact (ball_cons ⟨rfl, rfl⟩ (ball_cons ⟨rfl, rfl⟩ (ball_cons ⟨rfl, rfl⟩ (ball_nil))))
    · exact (ball_nil)
    · show List.Nodup ([] : List Nat)
      decide
  have fhc1 : ¬ (i < a.size) := of_decide_eq_false hc1
  refine VRun.exit ?_
  refine vthn.e ?_
  refine vthn.e ?_
  refine vinB.e ?_
  refine tn ?_
  refine sr ?_
  refine fO (OF.assign (VEv.bool true)) ?_
  refine nt ?_
  refine rt ?_
  refine vb (b' := true) rfl ?_
  symm; rw [decide_eq_true_eq]; exact ⟨by omega, allEnd hI' fhc1⟩
end Go.Proofs.Ythdnjihmjdbdkaa.AE
