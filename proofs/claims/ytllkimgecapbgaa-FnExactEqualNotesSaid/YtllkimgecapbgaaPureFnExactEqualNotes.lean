/- The law EqualNotes as a plain statement over lists: proved. Conditions: those of the statement alone. -/
import Derived.Test.YtllkimgecapbgaaStmFnExactEqualNotes
namespace Go.Proofs.Ytllkimgecapbgaa.PFnExactEqualNotes.Proved
open Go.RowKit Go.Proofs.YtllkimgecapbgaaW.PrintWords Go.Proofs.YtllkimgecapbgaaW.PrintLast Go.Proofs.YtllkimgecapbgaaW.PrintMore

theorem w1 {j : Nat} (h : j ≤ maxLen - 1) : wrap64 ((j : Int) + 1) = ((j + 1 : Nat) : Int) := by
  simp only [maxLen] at h
  unfold wrap64
  omega
theorem wsub {a : Int} {n : Nat} (h0 : 0 ≤ a) (h1 : a ≤ 1048576) (hn : n ≤ maxLen) : wrap64 (a - (n : Int)) = a - n := by
  simp only [maxLen] at hn
  unfold wrap64
  omega
theorem sz_loop (l : List S23) (hl : l.length ≤ maxLen) (hs : ∀ y ∈ l, y.f1.size ≤ maxLen) : ∀ (d k j : Nat) (a : Int), j + d = l.length → d < k → 0 ≤ a → a ≤ 1048576 → ∃ r, laws_szNoteS.l0 k l a j = some r ∧ r ≤ 1048576 := by
  intro d
  induction d with
  | zero =>
    intro k j a hj hk h0 h1
    obtain ⟨k, rfl⟩ : ∃ m, k = m + 1 := ⟨k - 1, by omega⟩
    exact ⟨a, by simp only [laws_szNoteS.l0]; rw [if_neg (by omega)], h1⟩
  | succ d ih =>
    intro k j a hj hk h0 h1
    obtain ⟨k, rfl⟩ : ∃ m, k = m + 1 := ⟨k - 1, by omega⟩
    have hm : (rd_T23 l j).f1.size ≤ maxLen := by
      have : (rd_T23 l j) = l[j]'(by omega) := by simp [rd_T23, List.getD_eq_getElem?_getD, List.getElem?_eq_getElem (show j < l.length by omega)]
      rw [this]
      exact hs _ (List.getElem_mem _)
    have hw := wsub h0 h1 hm
    simp only [laws_szNoteS.l0, laws_szNote.f]
    rw [if_pos (by omega), if_pos (by omega), hw]
    by_cases hc : a - ((rd_T23 l j).f1.size : Int) < 0
    · rw [if_pos hc]
      exact ⟨-1, by simp, by omega⟩
    · rw [if_neg hc, Option.bind_some, if_neg hc, w1 (by omega)]
      exact ih k (j + 1) _ (by omega) (by omega) (by omega) (by omega)
theorem sz_ev (l : List S23) (hl : l.length ≤ maxLen) (hs : ∀ y ∈ l, y.f1.size ≤ maxLen) (k : Nat) (hk : l.length < k) (a : Int) (h0 : 0 ≤ a) (h1 : a ≤ 1048576) : ∃ r, laws_szNoteS.f k l a = some r ∧ (0 ≤ r → l.length ≤ 1048576) ∧ r ≤ 1048576 := by
  unfold laws_szNoteS.f
  have hw := wsub h0 h1 hl
  rw [hw]
  by_cases hc : a - (l.length : Int) < 0
  · rw [if_pos hc]
    exact ⟨-1, rfl, by omega, by omega⟩
  · rw [if_neg hc]
    obtain ⟨r, hr, h⟩ := sz_loop l hl hs l.length k 0 (a - (l.length : Int)) (by omega) hk (by omega) (by omega)
    exact ⟨r, hr, fun _ => by omega, h⟩
def conv (x : S23) : S26 := ⟨x.f0, x.f1, x.f2, x.f3⟩
theorem to_loop (l : List S23) (hl : l.length ≤ 1048576) : ∀ (d k j : Nat) (out : List S26), j + d = l.length → d < k → out.length = l.length → out.take j = (l.take j).map conv → laws_toNoteS.l0 k l out j = some (l.map conv) := by
  intro d
  induction d with
  | zero =>
    intro k j out hj hk ho ht
    obtain ⟨k, rfl⟩ : ∃ m, k = m + 1 := ⟨k - 1, by omega⟩
    simp only [laws_toNoteS.l0]
    rw [if_neg (by omega)]
    have : j = l.length := by omega
    subst this
    rw [List.take_of_length_le (by omega), List.take_of_length_le (by omega)] at ht
    rw [ht]
  | succ d ih =>
    intro k j out hj hk ho ht
    obtain ⟨k, rfl⟩ : ∃ m, k = m + 1 := ⟨k - 1, by omega⟩
    simp only [laws_toNoteS.l0, laws_toNote.f, Option.bind_some]
    rw [if_pos (by omega), if_pos (by omega), if_pos (by omega), w1 (by simp only [maxLen]; omega)]
    refine ih k (j + 1) _ (by omega) (by omega) (by simpa using ho) ?_
    have hr : (rd_T23 l j) = l[j]'(by omega) := by simp [rd_T23, List.getD_eq_getElem?_getD, List.getElem?_eq_getElem (show j < l.length by omega)]
    rw [Int.toNat_natCast, hr, List.take_succ_eq_append_getElem (show j < l.length by omega), List.map_append, ← ht, List.take_succ_eq_append_getElem (by simp; omega)]
    rw [List.take_set, List.set_eq_of_length_le (by simp; omega)]
    simp [conv]
theorem to_ev (l : List S23) (hl : l.length ≤ 1048576) (k : Nat) (hk : l.length < k) : laws_toNoteS.f k l = some (l.map conv) := by
  unfold laws_toNoteS.f
  rw [if_pos (by omega), if_pos (by omega)]
  exact to_loop l hl l.length k 0 _ (by omega) hk (by simp) (by simp)
theorem eq_loop (l : List S26) (hl : l.length ≤ 1048576) : ∀ (d k j : Nat), j + d = l.length → d < k → laws_eqNoteS.l0 k l l j = some true := by
  intro d
  induction d with
  | zero =>
    intro k j hj hk
    obtain ⟨k, rfl⟩ : ∃ m, k = m + 1 := ⟨k - 1, by omega⟩
    simp only [laws_eqNoteS.l0]
    rw [if_neg (by omega)]
  | succ d ih =>
    intro k j hj hk
    obtain ⟨k, rfl⟩ : ∃ m, k = m + 1 := ⟨k - 1, by omega⟩
    simp only [laws_eqNoteS.l0, laws_eqNote.f]
    rw [if_pos (by omega), if_pos (by omega), if_pos (by omega), w1 (by simp only [maxLen]; omega)]
    simp only [if_true, Option.bind_some]
    exact ih k (j + 1) (by omega) (by omega)
theorem eq_ev (l : List S26) (hl : l.length ≤ 1048576) (k : Nat) (hk : l.length < k) : laws_eqNoteS.f k l l = some true := by
  unfold laws_eqNoteS.f
  rw [if_pos rfl]
  exact eq_loop l hl l.length k 0 (by omega) hk
theorem both_loop (a b : List S26) (hl : a.length ≤ 1048576) (hab : a.length = b.length) : ∀ (d k j : Nat), j + d = a.length → d < k → ∃ r, spec_EqualNotes.l0 k a b j = some r ∧ impl_Note.l0 k a b a.length j = some r := by
  intro d
  induction d with
  | zero =>
    intro k j hj hk
    obtain ⟨k, rfl⟩ : ∃ m, k = m + 1 := ⟨k - 1, by omega⟩
    refine ⟨true, ?_, ?_⟩
    · simp only [spec_EqualNotes.l0]
      rw [if_neg (by omega)]
    · simp only [impl_Note.l0]
      rw [if_neg (by omega)]
  | succ d ih =>
    intro k j hj hk
    obtain ⟨k, rfl⟩ : ∃ m, k = m + 1 := ⟨k - 1, by omega⟩
    simp only [spec_EqualNotes.l0, impl_Note.l0]
    have e1 : (j : Int) < (a.length : Int) := by omega
    have e2 : (0 : Int) ≤ (j : Int) := by omega
    have e3 : (j : Int) < (b.length : Int) := by omega
    rw [w1 (by simp only [maxLen]; omega)]
    simp only [e1, e2, e3, if_true]
    split
    · exact ⟨false, rfl, rfl⟩
    · exact ih k (j + 1) (by omega) (by omega)

theorem FnExactEqualNotes : Pure := by
  intro l m hl hm
  obtain ⟨hl1, hG⟩ := hl
  obtain ⟨hm1, hH⟩ := hm
  refine ⟨l.length + m.length + 1, ?_⟩
  have hk : l.length < l.length + m.length + 1 := by omega
  have hk2 : m.length < l.length + m.length + 1 := by omega
  unfold laws_FnExactEqualNotes.f
  obtain ⟨r, hr, h2, h3⟩ := sz_ev l hl1 (fun y hy => (hG y hy).2.1) _ hk 1048576 (by omega) (by omega)
  rw [hr, Option.bind_some]
  by_cases hn : r < 0
  · rw [if_pos hn]
  rw [if_neg hn]
  have hlen := h2 (by omega)
  obtain ⟨s, hs, h5, _⟩ := sz_ev m hm1 (fun y hy => (hH y hy).2.1) _ hk2 r (by omega) h3
  rw [hs, Option.bind_some]
  by_cases hn2 : s < 0
  · rw [if_pos hn2]
  rw [if_neg hn2]
  have hlen2 := h5 (by omega)
  have key : ∃ b, spec_EqualNotes.f (l.length + m.length + 1) (l.map conv) (m.map conv) = some b ∧ impl_EqualNotes.f (l.length + m.length + 1) (l.map conv) (m.map conv) = some b := by
    unfold spec_EqualNotes.f impl_EqualNotes.f impl_Note.f
    by_cases c : ((l.map conv).length : Int) = ((m.map conv).length : Int)
    · rw [if_pos c, if_pos c]
      obtain ⟨b, h6, h7⟩ := both_loop (l.map conv) (m.map conv) (by simpa using hlen) (by omega) (l.map conv).length (l.length + m.length + 1) 0 (by omega) (by simp; omega)
      exact ⟨b, h6, by rw [show ((0 : Nat) : Int) = 0 from rfl] at h7; rw [h7, Option.bind_some]⟩
    · rw [if_neg c, if_neg c]
      exact ⟨false, rfl, rfl⟩
  obtain ⟨b, h6, h7⟩ := key
  rw [to_ev l hlen _ hk, to_ev m hlen2 _ hk2]
  simp only [Option.bind_some]
  rw [h6, h7, Option.bind_some, Option.bind_some, if_neg (by simp), eq_ev _ (by simpa using hlen) _ (by simp; omega), eq_ev _ (by simpa using hlen2) _ (by simp; omega)]
  simp
end Go.Proofs.Ytllkimgecapbgaa.PFnExactEqualNotes.Proved
