/- Slices of plain data in the abstract evaluator: their length, their elements. Conditions: none. -/
import Derived.Test.YthdnjihmjdbdkaaAeX
import Derived.IntWalk
namespace Go.Proofs.Ythdnjihmjdbdkaa.AE
open Go Go.RowKit
set_option linter.unusedVariables false
set_option linter.unusedSimpArgs false
def lim : Nat := 1099511627776
section
variable {P : Program} {t e : TypeId} {α : Type} {d : AK α} {h : AH} {l : List α} {v : Value}
theorem SlR.alen (hs : SlR d h l v) (hu : P.underlying t = some (.slice e)) (H : AH) : alen P t H v = some (.int .i64 l.length) := by
  rcases hs with ⟨rfl, rfl | ⟨k, o, m, rfl⟩⟩ | ⟨k, o, m, es, arr, rfl, _⟩
  · exact alen_sl hu
  · exact alen_sl hu
  · exact alen_sl hu
theorem SlR.cell (hs : SlR d h l v) {i : Nat} {a : α} (hi : l[i]? = some a) : ∃ k o m es arr, v = .slice (some ⟨k, o, none⟩) l.length m ∧ h k = some (.cells es arr) ∧ o + i * d.sz + d.sz ≤ arr.length ∧ d.R h a ((arr.drop (o + i * d.sz)).take d.sz) := by
  have hlt : i < l.length := (List.getElem?_eq_some_iff.1 hi).1
  rcases hs with ⟨rfl, _⟩ | ⟨k, o, m, es, arr, rfl, _, _, h1, _, h2, h3⟩
  · simp at hlt
  · refine ⟨k, o, m, es, arr, rfl, h1, ?_, h3 i a hi⟩
    have : (i + 1) * d.sz ≤ l.length * d.sz := Nat.mul_le_mul_right _ hlt
    rw [Nat.add_mul] at this
    omega
theorem SlR.row (hs : SlR d h l v) {i : Nat} {a : α} (hi : l[i]? = some a) (hu : P.underlying t = some (.slice e)) (hst : isStruct P e = some true) (hn : P.cellsOf e = d.sz) (hif : (P.info? e).isSome = true) :
    ∃ ptr cs, d.R h a cs ∧ aindexAddr P t v (.int .i64 i) = some ptr ∧ ∀ H, Quiet h H → aload P e H ptr = some (.agg cs.toArray) := by
  have hlt : i < l.length := (List.getElem?_eq_some_iff.1 hi).1
  obtain ⟨k, o, m, es, arr, rfl, h1, h2, h3⟩ := hs.cell hi
  refine ⟨.pointer (some ⟨k, o + i * d.sz, none⟩), _, h3, ?_, fun H hq => ?_⟩
  · simp only [aindexAddr, hu, hn, hif, Int.toNat_natCast]
    rw [if_pos ⟨trivial, by omega, by omega⟩]
  · exact aload_row hst hn (hq.get h1) h2 rfl
theorem SlR.one (hs : SlR d h l v) {i : Nat} {a : α} (hi : l[i]? = some a) (hu : P.underlying t = some (.slice e)) (hst : isStruct P e = some false) (hn : P.cellsOf e = 1) (hd : d.sz = 1) (hif : (P.info? e).isSome = true) :
    ∃ ptr c, d.R h a [c] ∧ aindexAddr P t v (.int .i64 i) = some ptr ∧ ∀ H, Quiet h H → aload P e H ptr = some c := by
  have hlt : i < l.length := (List.getElem?_eq_some_iff.1 hi).1
  obtain ⟨k, o, m, es, arr, rfl, h1, h2, h3⟩ := hs.cell hi
  rw [hd] at h2 h3
  simp only [Nat.mul_one] at h2 h3
  have hc : (arr.drop (o + i)).take 1 = [arr[o + i]'(by omega)] := by
    rw [List.take_one, List.head?_drop, List.getElem?_eq_getElem (by omega)]
    rfl
  rw [hc] at h3
  refine ⟨.pointer (some ⟨k, o + i, none⟩), _, h3, ?_, fun H hq => ?_⟩
  · simp only [aindexAddr, hu, hn, hif, Int.toNat_natCast, Nat.mul_one]
    rw [if_pos ⟨trivial, by omega, by omega⟩]
  · exact aload_one hst (hq.get h1) (List.getElem?_eq_getElem (by omega))
theorem SlR.upTo (hs : SlR d h l v) {i : Nat} (hi : i ≤ l.length) (hu : P.underlying t = some (.slice e)) (hn : P.cellsOf e = d.sz) (hif : (P.info? e).isSome = true) {k : IntKind} :
    ∃ w, (∀ H, Quiet h H → aslice P t H v none (some (.int k i)) = some w) ∧ SlR d h (l.take i) w := by
  have hb : ∀ n, bnd n (some (.int k (i : Int))) = some i := fun n => by simp [bnd]
  have hbn : ∀ n, bnd n none = some n := fun _ => rfl
  rcases hs with ⟨rfl, hv⟩ | ⟨c, o, m, es, arr, rfl, h0, h1, h2, h3, h4, h5⟩
  · obtain rfl : i = 0 := by simpa using hi
    rcases hv with rfl | ⟨c, o, m, rfl⟩
    · exact ⟨_, fun H _ => by simp only [aslice, hu, hb, hbn]; rw [if_pos ⟨trivial, trivial, hif⟩], .inl ⟨rfl, .inl rfl⟩⟩
    · exact ⟨_, fun H _ => by simp only [aslice, hu, hb, hbn, if_true]; rw [if_pos ⟨trivial, trivial, hif⟩], .inl ⟨rfl, .inr ⟨c, o, 1, rfl⟩⟩⟩
  · refine ⟨.slice (some ⟨c, o, none⟩) i 1, fun H q => ?_, ?_⟩
    · simp only [aslice, hu, hb]
      rw [if_neg (by omega)]
      simp only [hbn, q.get h2]
      rw [if_pos ⟨Nat.zero_le _, hi, hif, by rw [hn]; exact h3⟩]
      simp
    · by_cases hi0 : i = 0
      · subst hi0
        exact .inl ⟨by simp, .inr ⟨c, o, 1, rfl⟩⟩
      · have hl : (l.take i).length = i := by rw [List.length_take]; omega
        refine .inr ⟨c, o, 1, es, arr, by rw [hl], by omega, by omega, h2, h3, ?_, fun j a hj => h5 j a ?_⟩
        · rw [hl]
          have : i * d.sz ≤ l.length * d.sz := Nat.mul_le_mul_right _ hi
          omega
        · rw [List.getElem?_take] at hj
          split at hj
          · exact hj
          · cases hj
theorem wrap64 {n : Int} (h : -9223372036854775808 ≤ n ∧ n ≤ 9223372036854775807) : IntKind.i64.wrap n = n := by
  rw [IntKind.wrap_i64]
  omega
theorem aindex_at {s : ByteArray} {i : Nat} {k : IntKind} (hu : P.underlying t = some .string) (hi : i < s.size) : aindex P t (.string s) (.int k i) = some (.int .u8 ((s[i]'hi).toNat : Int)) := by
  simp only [aindex, hu]
  rw [dif_pos ⟨by omega, by simpa using hi⟩]
  simp
/-! ### rows that are being filled -/
theorem splice_length' {cs : List Value} {o : Nat} {vs : List Value} (h : o + vs.length ≤ cs.length) : (splice cs o vs).length = cs.length := by
  simp only [splice, List.length_append, List.length_take, List.length_drop]
  omega
theorem splice_row {cs vs : List Value} {i j n : Nat} (hv : vs.length = n) (hi : i * n + n ≤ cs.length) : ((splice cs (i * n) vs).drop (j * n)).take n = if j = i then vs else (cs.drop (j * n)).take n := by
  apply List.ext_getElem?
  intro q
  rw [List.getElem?_take]
  by_cases hq : q < n
  · rw [if_pos hq, List.getElem?_drop]
    have h1 : ∀ a, (splice cs (i * n) vs)[a]? = if a < i * n then cs[a]? else if a < i * n + n then vs[a - i * n]? else cs[a]? := by
      intro a
      simp only [splice]
      by_cases ha : a < i * n
      · rw [if_pos ha, List.append_assoc, List.getElem?_append_left (by simp; omega), List.getElem?_take, if_pos ha]
      · rw [if_neg ha, List.append_assoc, List.getElem?_append_right (by simp; omega)]
        have e1 : (List.take (i * n) cs).length = i * n := by simp; omega
        rw [e1]
        by_cases hb : a < i * n + n
        · rw [if_pos hb, List.getElem?_append_left (by omega)]
        · rw [if_neg hb, List.getElem?_append_right (by omega), List.getElem?_drop]
          congr 1
          omega
    rw [h1]
    by_cases hji : j = i
    · subst hji
      rw [if_neg (by omega), if_pos (by omega), if_pos rfl]
      congr 1
      omega
    · rw [if_neg hji]
      rw [List.getElem?_take, if_pos hq, List.getElem?_drop]
      rcases Nat.lt_or_ge j i with h2 | h2
      · have h3 : (j + 1) * n ≤ i * n := Nat.mul_le_mul_right _ h2
        rw [Nat.add_mul] at h3
        rw [if_pos (by omega)]
      · have h3 : (i + 1) * n ≤ j * n := Nat.mul_le_mul_right _ (by omega)
        rw [Nat.add_mul] at h3
        rw [if_neg (by omega), if_neg (by omega)]
  · rw [if_neg hq]
    split
    · rw [List.getElem?_eq_none (by omega)]
    · rw [List.getElem?_take, if_neg hq]
/-- The first elements of a row hold l. -/
def Arr {α : Type} (d : AK α) (h : AH) (l : List α) (arr : List Value) : Prop := ∀ j a, l[j]? = some a → d.R h a ((arr.drop (j * d.sz)).take d.sz)
theorem Arr.nil (d : AK α) (h : AH) (arr : List Value) : Arr d h [] arr := fun j a hj => by simp at hj
theorem Arr.mono {h' : AH} {arr : List Value} (q : Quiet h h') (ha : Arr d h l arr) : Arr d h' l arr := fun j a hj => d.mono q (ha j a hj)
theorem Arr.put {arr cb : List Value} {a : α} (ha : Arr d h l arr) (hl : l.length * d.sz + d.sz ≤ arr.length) (hr : d.R h a cb) : Arr d h (l ++ [a]) (splice arr (l.length * d.sz) cb) := by
  intro j b hj
  rw [splice_row (d.len hr) hl]
  rcases Nat.lt_or_ge j l.length with h1 | h1
  · rw [List.getElem?_append_left h1] at hj
    rw [if_neg (by omega)]
    exact ha j b hj
  · rw [List.getElem?_append_right h1] at hj
    have h2 : j = l.length := by
      have := (List.getElem?_eq_some_iff.1 hj).1
      simp at this
      omega
    subst h2
    rw [if_pos rfl]
    obtain rfl : a = b := by simpa using hj
    exact hr
theorem Arr.add {arr cb : List Value} {a : α} (ha : Arr d h l arr) (hl : arr.length = l.length * d.sz) (hr : d.R h a cb) : Arr d h (l ++ [a]) (arr ++ cb) := by
  intro j b hj
  have hc := d.len hr
  rcases Nat.lt_or_ge j l.length with h1 | h1
  · rw [List.getElem?_append_left h1] at hj
    have h3 : (j + 1) * d.sz ≤ l.length * d.sz := Nat.mul_le_mul_right _ h1
    rw [Nat.add_mul] at h3
    rw [List.drop_append_of_le_length (by omega), List.take_append_of_le_length (by simp; omega)]
    exact ha j b hj
  · rw [List.getElem?_append_right h1] at hj
    have h2 : j = l.length := by
      have := (List.getElem?_eq_some_iff.1 hj).1
      simp at this
      omega
    subst h2
    obtain rfl : a = b := by simpa using hj
    rw [← hl, List.drop_left, List.take_of_length_le (by omega)]
    exact hr
theorem Arr.sl {arr : List Value} {k es m : Nat} (ha : Arr d h l arr) (hk : h k = some (.cells es arr)) (hes : es = 0 ∨ es = d.sz) (hl : l.length * d.sz ≤ arr.length) (hm : l.length ≠ 0 → 0 < m) : SlR d h l (.slice (some ⟨k, 0, none⟩) l.length m) := by
  by_cases h0 : l.length = 0
  · obtain rfl := List.eq_nil_of_length_eq_zero h0
    exact .inl ⟨rfl, .inr ⟨k, 0, m, rfl⟩⟩
  · exact .inr ⟨k, 0, m, es, arr, rfl, hm h0, by omega, hk, hes, by omega, fun j a hj => by rw [Nat.zero_add]; exact ha j a hj⟩
theorem Quiet.without (h : AH) (k : Nat) : Quiet (h.upd k none) h := fun t ht => by
  unfold AH.upd at ht ⊢
  split at ht
  · exact absurd rfl ht
  · rename_i e
    rw [if_neg e]
theorem Quiet.without_mono {h h' : AH} (q : Quiet h h') (k : Nat) : Quiet (h.upd k none) (h'.upd k none) := fun t ht => by
  unfold AH.upd at ht ⊢
  split at ht
  · exact absurd rfl ht
  · rename_i e
    rw [if_neg e, if_neg e]
    exact q t ht
theorem cyc_length (z : List Value) (n : Nat) : (cyc z n).length = n := by simp [cyc]
theorem amake_n {p n : Nat} {z : Value} (hu : P.underlying t = some (.slice e)) (hz : zeroOf P e = some z) (hcl : closedV z = true) (hs : z.cells.size = P.cellsOf e) (hp : 0 < P.cellsOf e) (hn : n ≤ lim) (hb : P.bytesOf e ≤ 256) :
    ∃ m arr, amake P p t h (.int .i64 n) (.int .i64 n) = some (.val (.slice (some ⟨tokOf p, 0, none⟩) n m) (h.upd (tokOf p) (some (.cells (P.cellsOf e) arr)))) ∧ arr.length = n * P.cellsOf e ∧ (n ≠ 0 → 0 < m) := by
  have hall : z.cells.all closed1 = true := by
    cases z <;> first | exact hcl | (simp only [Value.cells]; simpa [closedV] using hcl) | simp [closedV, closed1] at hcl
  refine ⟨if (n : Int) = 0 then 0 else 1, cyc z.cells.toList (n * P.cellsOf e), ?_, cyc_length _ _, fun h0 => ?_⟩
  · have h1 : (P.bytesOf e : Int) * n ≤ 281474976710656 := by
      have h2 : P.bytesOf e * n ≤ 281474976710656 := Nat.le_trans (Nat.mul_le_mul hb hn) (by unfold lim; omega)
      have h3 : ((P.bytesOf e * n : Nat) : Int) ≤ 281474976710656 := by omega
      rwa [Int.natCast_mul] at h3
    have h4 : (n : Int) ≤ 9223372036854775807 := by
      have : lim = 1099511627776 := rfl
      omega
    simp only [amake, hu, hz]
    rw [if_pos ⟨by omega, trivial, h4, h1, hall, hs, hp⟩]
    simp
  · rw [if_neg (by omega)]
    decide
end
end Go.Proofs.Ythdnjihmjdbdkaa.AE
