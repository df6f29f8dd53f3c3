/- The laws LastUse and MayUse as plain statements over lists: proved. Conditions: those of the statement alone. -/
import Derived.Test.YtllkimgecapbgaaStmFnExactMayUse
namespace Go.Proofs.Ytllkimgecapbgaa.PFnExactMayUse.Proved
open Go.RowKit Go.Proofs.YtllkimgecapbgaaW.PrintWords Go.Proofs.YtllkimgecapbgaaW.PrintLast Go.Proofs.YtllkimgecapbgaaW.PrintMore

theorem w1 {j : Nat} (h : j ≤ maxLen - 1) : wrap64 ((j : Int) + 1) = ((j + 1 : Nat) : Int) := by
  simp only [maxLen] at h
  unfold wrap64
  omega
theorem wsub {a : Int} {n : Nat} (h0 : 0 ≤ a) (h1 : a ≤ 1048576) (hn : n ≤ maxLen) : wrap64 (a - (n : Int)) = a - n := by
  simp only [maxLen] at hn
  unfold wrap64
  omega
theorem sz_loop (l : List S55) (hl : l.length ≤ maxLen) (hs : ∀ y ∈ l, y.f0.size ≤ maxLen) : ∀ (d k j : Nat) (a : Int), j + d = l.length → d < k → 0 ≤ a → a ≤ 1048576 → ∃ r, laws_szUsedS.l0 k l a j = some r ∧ r ≤ 1048576 := by
  intro d
  induction d with
  | zero =>
    intro k j a hj hk h0 h1
    obtain ⟨k, rfl⟩ : ∃ m, k = m + 1 := ⟨k - 1, by omega⟩
    exact ⟨a, by simp only [laws_szUsedS.l0]; rw [if_neg (by omega)], h1⟩
  | succ d ih =>
    intro k j a hj hk h0 h1
    obtain ⟨k, rfl⟩ : ∃ m, k = m + 1 := ⟨k - 1, by omega⟩
    have hm : (rd_T55 l j).f0.size ≤ maxLen := by
      have : (rd_T55 l j) = l[j]'(by omega) := by simp [rd_T55, List.getD_eq_getElem?_getD, List.getElem?_eq_getElem (show j < l.length by omega)]
      rw [this]
      exact hs _ (List.getElem_mem _)
    have hw := wsub h0 h1 hm
    simp only [laws_szUsedS.l0, laws_szUsed.f]
    rw [if_pos (by omega), if_pos (by omega), hw]
    by_cases hc : a - ((rd_T55 l j).f0.size : Int) < 0
    · rw [if_pos hc]
      exact ⟨-1, by simp, by omega⟩
    · rw [if_neg hc, Option.bind_some, if_neg hc, w1 (by omega)]
      exact ih k (j + 1) _ (by omega) (by omega) (by omega) (by omega)
theorem sz_ev (l : List S55) (hl : l.length ≤ maxLen) (hs : ∀ y ∈ l, y.f0.size ≤ maxLen) (k : Nat) (hk : l.length < k) : ∃ r, laws_szUsedS.f k l 1048576 = some r ∧ (0 ≤ r → l.length ≤ 1048576) := by
  unfold laws_szUsedS.f
  have hw := wsub (a := 1048576) (by omega) (by omega) hl
  rw [hw]
  by_cases hc : (1048576 : Int) - (l.length : Int) < 0
  · rw [if_pos hc]
    exact ⟨-1, rfl, by omega⟩
  · rw [if_neg hc]
    obtain ⟨r, hr, _⟩ := sz_loop l hl hs l.length k 0 (1048576 - (l.length : Int)) (by omega) hk (by omega) (by omega)
    exact ⟨r, hr, fun _ => by omega⟩
def conv (x : S55) : S56 := ⟨x.f0, x.f1⟩
theorem to_loop (l : List S55) (hl : l.length ≤ 1048576) : ∀ (d k j : Nat) (out : List S56), j + d = l.length → d < k → out.length = l.length → out.take j = (l.take j).map conv → laws_toUsedS.l0 k l out j = some (l.map conv) := by
  intro d
  induction d with
  | zero =>
    intro k j out hj hk ho ht
    obtain ⟨k, rfl⟩ : ∃ m, k = m + 1 := ⟨k - 1, by omega⟩
    simp only [laws_toUsedS.l0]
    rw [if_neg (by omega)]
    have : j = l.length := by omega
    subst this
    rw [List.take_of_length_le (by omega), List.take_of_length_le (by omega)] at ht
    rw [ht]
  | succ d ih =>
    intro k j out hj hk ho ht
    obtain ⟨k, rfl⟩ : ∃ m, k = m + 1 := ⟨k - 1, by omega⟩
    simp only [laws_toUsedS.l0, laws_toUsed.f, Option.bind_some]
    rw [if_pos (by omega), if_pos (by omega), if_pos (by omega), w1 (by simp only [maxLen]; omega)]
    refine ih k (j + 1) _ (by omega) (by omega) (by simpa using ho) ?_
    have hr : (rd_T55 l j) = l[j]'(by omega) := by simp [rd_T55, List.getD_eq_getElem?_getD, List.getElem?_eq_getElem (show j < l.length by omega)]
    rw [Int.toNat_natCast, hr, List.take_succ_eq_append_getElem (show j < l.length by omega), List.map_append, ← ht, List.take_succ_eq_append_getElem (by simp; omega)]
    rw [List.take_set, List.set_eq_of_length_le (by simp; omega)]
    simp [conv]
theorem to_ev (l : List S55) (hl : l.length ≤ 1048576) (k : Nat) (hk : l.length < k) : laws_toUsedS.f k l = some (l.map conv) := by
  unfold laws_toUsedS.f
  rw [if_pos (by omega), if_pos (by omega)]
  exact to_loop l hl l.length k 0 _ (by omega) hk (by simp) (by simp)
theorem eq_loop (l : List S56) (hl : l.length ≤ 1048576) : ∀ (d k j : Nat), j + d = l.length → d < k → laws_eqUsedS.l0 k l l j = some true := by
  intro d
  induction d with
  | zero =>
    intro k j hj hk
    obtain ⟨k, rfl⟩ : ∃ m, k = m + 1 := ⟨k - 1, by omega⟩
    simp only [laws_eqUsedS.l0]
    rw [if_neg (by omega)]
  | succ d ih =>
    intro k j hj hk
    obtain ⟨k, rfl⟩ : ∃ m, k = m + 1 := ⟨k - 1, by omega⟩
    simp only [laws_eqUsedS.l0, laws_eqUsed.f]
    rw [if_pos (by omega), if_pos (by omega), if_pos (by omega), w1 (by simp only [maxLen]; omega)]
    simp only [if_true, Option.bind_some]
    exact ih k (j + 1) (by omega) (by omega)
theorem eq_ev (l : List S56) (hl : l.length ≤ 1048576) (k : Nat) (hk : l.length < k) : laws_eqUsedS.f k l l = some true := by
  unfold laws_eqUsedS.f
  rw [if_pos rfl]
  exact eq_loop l hl l.length k 0 (by omega) hk
theorem last_loop (l : List S56) (w : ByteArray) (hl : l.length ≤ 1048576) : ∀ (d k j : Nat) (n : Int), j + d = l.length → d < k → 0 ≤ n → n ≤ 9223372036854775807 → (∀ y ∈ l, y.f1 ≤ 9223372036854775807) →
    ∃ r, spec_LastUse.l0 k l w n j = some r ∧ impl_LastUse.l0 k w n l l.length j = some r ∧ 0 ≤ r ∧ r ≤ 9223372036854775807 := by
  intro d
  induction d with
  | zero =>
    intro k j n hj hk h0 h1 hy
    obtain ⟨k, rfl⟩ : ∃ m, k = m + 1 := ⟨k - 1, by omega⟩
    refine ⟨n, ?_, ?_, h0, h1⟩
    · simp only [spec_LastUse.l0]
      rw [if_neg (by omega)]
    · simp only [impl_LastUse.l0]
      rw [if_neg (by omega)]
  | succ d ih =>
    intro k j n hj hk h0 h1 hy
    obtain ⟨k, rfl⟩ : ∃ m, k = m + 1 := ⟨k - 1, by omega⟩
    have hr : (rd_T56 l j) = l[j]'(by omega) := by simp [rd_T56, List.getD_eq_getElem?_getD, List.getElem?_eq_getElem (show j < l.length by omega)]
    have hb : (rd_T56 l j).f1 ≤ 9223372036854775807 := by rw [hr]; exact hy _ (List.getElem_mem _)
    simp only [spec_LastUse.l0, impl_LastUse.l0, spec_Max.f]
    have e1 : (j : Int) < (l.length : Int) := by omega
    have e2 : (0 : Int) ≤ (j : Int) := by omega
    rw [w1 (by simp only [maxLen]; omega)]
    simp only [e1, e2, if_true]
    by_cases hw : (rd_T56 l j).f0.toList = w.toList
    · rw [if_pos hw, if_pos hw]
      by_cases hm : (rd_T56 l j).f1 > n
      · rw [if_pos hm, Option.bind_some, mx, if_pos (by omega)]
        exact ih k (j + 1) _ (by omega) (by omega) (by omega) hb hy
      · rw [if_neg hm, Option.bind_some, mx, if_neg (by omega)]
        exact ih k (j + 1) _ (by omega) (by omega) h0 h1 hy
    · rw [if_neg hw, if_neg hw]
      exact ih k (j + 1) _ (by omega) (by omega) h0 h1 hy
theorem last_ev (l : List S56) (w : ByteArray) (hl : l.length ≤ 1048576) (hy : ∀ y ∈ l, y.f1 ≤ 9223372036854775807) (k : Nat) (hk : l.length < k) : ∃ r, spec_LastUse.f k l w = some r ∧ impl_LastUse.f k l w = some r ∧ 0 ≤ r ∧ r ≤ 9223372036854775807 :=
  last_loop l w hl l.length k 0 0 (by omega) hk (by omega) (by omega) hy

theorem FnExactMayUse : Pure := by
  intro l w a g hl hw ha hg
  obtain ⟨hl1, hG⟩ := hl
  refine ⟨l.length + 1, ?_⟩
  have hk : l.length < l.length + 1 := by omega
  unfold laws_FnExactMayUse.f
  by_cases hb : (w.size : Int) > 1048576
  · rw [if_pos hb]
  rw [if_neg hb]
  obtain ⟨r, hr, h2⟩ := sz_ev l hl1 (fun y hy => (hG y hy).1) _ hk
  rw [hr, Option.bind_some]
  by_cases hn : r < 0
  · rw [if_pos hn]
  have hlen := h2 (by omega)
  have hyl : ∀ y ∈ l.map conv, y.f1 ≤ 9223372036854775807 := by
    intro y hy
    obtain ⟨x, hx, rfl⟩ := List.mem_map.1 hy
    have := (hG x hx).2
    simp [Lit.wf, IntKind.min, IntKind.max, IntKind.bits, IntKind.signed] at this
    simpa [conv] using this.2
  obtain ⟨v, h3, h4, h5, h6⟩ := last_ev (l.map conv) w (by simpa using hlen) hyl (l.length + 1) (by simp)
  have key : ∃ b, spec_MayUse.f (l.length + 1) (l.map conv) w a g = some b ∧ impl_MayUse.f (l.length + 1) (l.map conv) w a g = some b := by
    unfold spec_MayUse.f impl_MayUse.f spec_l1In.f impl_InRange.f
    rw [h4]
    simp only [Option.bind_some, ge_iff_le]
    by_cases c1 : 1 ≤ a
    · by_cases c2 : a ≤ 999
      · by_cases c3 : 0 ≤ g
        · by_cases c4 : g ≤ 999
          · simp only [c1, c2, c3, c4, if_true, decide_true, Option.bind_some, h3]
            by_cases c5 : v = 0
            · simp [c5]
            · simp only [c5, if_false]
              have e1 : wrap64 (a - g) = a - g := by unfold wrap64; omega
              have e2 : wrap64 (a - v) = a - v := by unfold wrap64; omega
              rw [e1, e2]
              refine ⟨_, rfl, ?_⟩
              congr 1
              rw [decide_eq_decide]
              omega
          · simp [c1, c2, c3, c4]
        · simp [c1, c2, c3]
      · simp [c1, c2]
    · simp [c1]
  obtain ⟨b, h7, h8⟩ := key
  rw [if_neg hn, to_ev l hlen _ hk, Option.bind_some, h7, Option.bind_some, Option.bind_some, h8, Option.bind_some, if_neg (by simp), Option.bind_some, eq_ev _ (by simpa using hlen) _ (by simp), Option.bind_some, if_pos rfl]
end Go.Proofs.Ytllkimgecapbgaa.PFnExactMayUse.Proved
