/- Lists and counts that the printed families speak of. Conditions: none. -/
import Derived.Test.YthdnjihmjdbdkaaVlBury
namespace Go.Proofs.Ythdnjihmjdbdkaa.AE
open Go Go.RowKit
set_option linter.unusedVariables false
set_option linter.unusedSimpArgs false
def mx : Nat := 1048576
def sumZ {α : Type} (z : α → Nat) : List α → Nat
  | [] => 0
  | x :: r => z x + sumZ z r
def zL {α : Type} (z : α → Nat) (l : List α) : Nat := l.length + sumZ z l
def zI (_ : Int) : Nat := 0
theorem zL_len {α : Type} {z : α → Nat} (l : List α) : l.length ≤ zL z l := Nat.le_add_right _ _
theorem sumZ_at {α : Type} {z : α → Nat} : ∀ {l : List α} {i : Nat} {x : α}, l[i]? = some x → z x ≤ sumZ z l
  | [], i, x, h => by simp at h
  | y :: r, 0, x, h => by
    obtain rfl : y = x := by simpa using h
    exact Nat.le_add_right _ _
  | y :: r, i + 1, x, h => Nat.le_trans (sumZ_at (l := r) (i := i) (by simpa using h)) (Nat.le_add_left _ _)
theorem zL_at {α : Type} {z : α → Nat} {l : List α} {i : Nat} {x : α} (h : l[i]? = some x) : z x ≤ zL z l := Nat.le_trans (sumZ_at h) (Nat.le_add_left _ _)
theorem zL_mem {α : Type} {z : α → Nat} {l : List α} {x : α} (h : x ∈ l) : z x ≤ zL z l := by
  obtain ⟨i, hi⟩ := List.getElem?_of_mem h
  exact zL_at hi
theorem sumZ_append {α : Type} {z : α → Nat} : ∀ (a b : List α), sumZ z (a ++ b) = sumZ z a + sumZ z b
  | [], b => by simp [sumZ]
  | x :: a, b => by simp only [List.cons_append, sumZ, sumZ_append a b, Nat.add_assoc]
theorem zL_append {α : Type} {z : α → Nat} (a b : List α) : zL z (a ++ b) = zL z a + zL z b := by
  simp only [zL, List.length_append, sumZ_append]; omega
theorem sumZ_take {α : Type} {z : α → Nat} {l : List α} {i : Nat} {x : α} (h : l[i]? = some x) : sumZ z (l.take (i + 1)) = sumZ z (l.take i) + z x := by
  rw [List.take_add_one, h, sumZ_append]
  simp [sumZ]
theorem sumZ_take_le {α : Type} {z : α → Nat} (l : List α) (i : Nat) : sumZ z (l.take i) ≤ sumZ z l := by
  have : sumZ z (l.take i ++ l.drop i) = sumZ z (l.take i) + sumZ z (l.drop i) := sumZ_append _ _
  rw [List.take_append_drop] at this
  omega
theorem zL_take_le {α : Type} {z : α → Nat} (l : List α) (i : Nat) : zL z (l.take i) ≤ zL z l := by
  have := sumZ_take_le (z := z) l i
  simp only [zL, List.length_take]
  omega
theorem zL_zero {α : Type} {z : α → Nat} (hz : ∀ x, z x = 0) (l : List α) : zL z l = l.length := by
  have : sumZ z l = 0 := by
    induction l with
    | nil => rfl
    | cons x r ih => simp only [sumZ, hz, ih]
  simp only [zL, this, Nat.add_zero]
/-! ### counting down -/
def szR (z : Nat) (left : Int) : Int := if left - (z : Int) < 0 then -1 else left - (z : Int)
theorem szR_pos {z : Nat} {l : Int} (h : ¬ szR z l < 0) : szR z l = l - (z : Int) ∧ 0 ≤ l - (z : Int) := by
  unfold szR at h ⊢
  split at h
  · omega
  · rename_i h2
    rw [if_neg h2]
    omega
theorem szR_lt {z : Nat} {l : Int} (h : szR z l < 0) : l - (z : Int) < 0 := by
  unfold szR at h
  split at h
  · assumption
  · omega
theorem szR_neg {z : Nat} {l : Int} (h : l - (z : Int) < 0) : -1 = szR z l := by unfold szR; rw [if_pos h]
theorem szR_nn {z : Nat} {l : Int} (h : ¬ l - (z : Int) < 0) : l - (z : Int) = szR z l := by unfold szR; rw [if_neg h]
theorem szR_le {z : Nat} {l : Int} (h0 : 0 ≤ l) (h1 : l ≤ (mx : Int)) : szR z l ≤ (mx : Int) := by
  unfold szR
  have : mx = 1048576 := rfl
  split <;> omega
def SzI {α : Type} (z : α → Nat) (l : List α) (left : Int) (i : Nat) (r : Int) : Prop := i ≤ l.length ∧ 0 ≤ r ∧ r ≤ (mx : Int) ∧ r = left - ((l.length + sumZ z (l.take i) : Nat) : Int)
section
variable {α : Type} {z : α → Nat} {l : List α} {left r : Int} {i : Nat} {x : α}
theorem SzI.start (h1 : left ≤ (mx : Int)) (h : ¬ left - (l.length : Int) < 0) : SzI z l left 0 (left - (l.length : Int)) := by
  refine ⟨Nat.zero_le _, by omega, by omega, ?_⟩
  simp [sumZ]
theorem SzI.next' (h : SzI z l left i r) (hx : l[i]? = some x) (hn : ¬ r - (z x : Int) < 0) : SzI z l left (i + 1) (r - (z x : Int)) := by
  have := (List.getElem?_eq_some_iff.1 hx).1
  obtain ⟨h1, h2, h3, h4⟩ := h
  refine ⟨by omega, by omega, by omega, ?_⟩
  rw [sumZ_take hx, h4]
  omega
theorem SzI.next (h : SzI z l left i r) (hx : l[i]? = some x) (hn : ¬ szR (z x) r < 0) : SzI z l left (i + 1) (szR (z x) r) := by
  obtain ⟨h1, h2⟩ := szR_pos hn
  rw [h1]
  exact h.next' hx (by omega)
theorem SzI.bad' (h : SzI z l left i r) (hx : l[i]? = some x) (hn : r - (z x : Int) < 0) : -1 = szR (zL z l) left := by
  refine szR_neg ?_
  have h5 := sumZ_take_le (z := z) l (i + 1)
  rw [sumZ_take hx] at h5
  obtain ⟨h1, h2, h3, h4⟩ := h
  simp only [zL]
  omega
theorem SzI.bad (h : SzI z l left i r) (hx : l[i]? = some x) (hn : szR (z x) r < 0) : -1 = szR (zL z l) left := h.bad' hx (szR_lt hn)
theorem SzI.early (hn : left - (l.length : Int) < 0) : -1 = szR (zL z l) left := szR_neg (by simp only [zL]; omega)
theorem SzI.done (h : SzI z l left i r) (hi : ¬ i < l.length) : r = szR (zL z l) left := by
  obtain ⟨h1, h2, h3, h4⟩ := h
  have e : i = l.length := by omega
  subst e
  rw [List.take_length] at h4
  have e2 : r = left - ((zL z l : Nat) : Int) := h4
  rw [e2]
  exact szR_nn (by omega)
end
/-! ### comparing -/
theorem agree_next {α : Type} {a b : List α} {i : Nat} {x y : α} (h : i ≤ a.length ∧ ∀ j, j < i → a[j]? = b[j]?) (hx : a[i]? = some x) (hy : b[i]? = some y) (he : x = y) : i + 1 ≤ a.length ∧ ∀ j, j < i + 1 → a[j]? = b[j]? := by
  have := (List.getElem?_eq_some_iff.1 hx).1
  refine ⟨by omega, fun j hj => ?_⟩
  rcases Nat.lt_or_ge j i with h1 | h1
  · exact h.2 j h1
  · obtain rfl : j = i := by omega
    rw [hx, hy, he]
theorem agree_all {α : Type} {a b : List α} {i : Nat} (h : i ≤ a.length ∧ ∀ j, j < i → a[j]? = b[j]?) (hl : a.length = b.length) (hi : ¬ i < a.length) : a = b := by
  refine List.ext_getElem? fun j => ?_
  rcases Nat.lt_or_ge j i with h1 | h1
  · exact h.2 j h1
  · rw [List.getElem?_eq_none (by omega), List.getElem?_eq_none (by omega)]
theorem agree_not {α : Type} {a b : List α} {i : Nat} {x y : α} (hx : a[i]? = some x) (hy : b[i]? = some y) (hn : x ≠ y) : a ≠ b := by
  rintro rfl
  rw [hx] at hy
  exact hn (Option.some.inj hy)
/-! ### filling -/
theorem fill_next {α : Type} {l : List α} {i : Nat} {x w : α} (h : l[i]? = some x) : (l.take i ++ List.replicate (l.length - i) w).set i x = l.take (i + 1) ++ List.replicate (l.length - (i + 1)) w := by
  have hlt := (List.getElem?_eq_some_iff.1 h).1
  have e1 : (l.take i).length = i := by rw [List.length_take]; omega
  have e2 : l.length - i = (l.length - (i + 1)) + 1 := by omega
  rw [e2, List.replicate_succ, List.set_append_right _ _ (by omega), e1, Nat.sub_self, List.set_cons_zero, List.take_add_one, h]
  simp
theorem fill_done {α : Type} {l : List α} {i : Nat} {w : α} (hi : ¬ i < l.length) : l.take i ++ List.replicate (l.length - i) w = l := by
  rw [List.take_of_length_le (by omega), Nat.sub_eq_zero_of_le (by omega)]
  simp
theorem fill_at {α : Type} {l : List α} {i : Nat} {w : α} (hi : i ≤ l.length) : (l.take i ++ List.replicate (l.length - i) w).length = l.length := by
  simp; omega
end Go.Proofs.Ythdnjihmjdbdkaa.AE
