/- Trees over the abstract evaluator: what a value reads as; what a call owns; the relation of a state of trees to a state of the evaluator. Conditions: none. -/
import Derived.Test.YthdnjihmjdbdkaaAeEq
import Derived.Test.YthdnjihmjdbdkaaAeEnd
namespace Go.Proofs.Ythdnjihmjdbdkaa.AE
open Go Go.RowKit
set_option linter.unusedVariables false
set_option linter.unusedSimpArgs false

/-- Trees. 'sl': a slice by what it holds (own: it belongs to whoever holds the tree); 'rp': a pointer by what lies there; 'os', 'op', 'orp', 'om': the call's own slice, cell, cell of a row, map, by number. -/
inductive T where
  | any
  | bool (b : Bool)
  | int (k : IntKind) (n : Int)
  | str (s : ByteArray)
  | ptr0
  | fn0
  | nils
  | agg (cs : List T)
  | tup (cs : List T)
  | fn (f : FuncId) (cs : List T)
  | sl (own : Bool) (sz : Nat) (rows : List (List T))
  | rp (cs : List T)
  | os (sz k lo n : Nat)
  | op (k o : Nat)
  | orp (sz k i o : Nat)
  | om (k : Nat)
instance : Inhabited T := ⟨.any⟩
mutual
def fz : T → T
  | .sl _ sz rows => .sl false sz (fzLL rows)
  | .agg ts => .agg (fzL ts)
  | .tup ts => .tup (fzL ts)
  | .any => .any
  | .bool b => .bool b
  | .int k n => .int k n
  | .str s => .str s
  | .ptr0 => .ptr0
  | .fn0 => .fn0
  | .nils => .nils
  | .fn f cs => .fn f cs
  | .rp cs => .rp cs
  | .os sz k lo n => .os sz k lo n
  | .op k o => .op k o
  | .orp sz k i o => .orp sz k i o
  | .om k => .om k
def fzL : List T → List T
  | [] => []
  | t :: r => fz t :: fzL r
def fzLL : List (List T) → List (List T)
  | [] => []
  | r :: rs => fzL r :: fzLL rs
end
theorem fzL_map (l : List T) : fzL l = l.map fz := by
  induction l with
  | nil => rfl
  | cons t r ih => simp only [fzL, List.map_cons, ih]
theorem fzLL_map (l : List (List T)) : fzLL l = l.map fzL := by
  induction l with
  | nil => rfl
  | cons t r ih => simp only [fzLL, List.map_cons, ih]
theorem fzLL_flatten (l : List (List T)) : (fzLL l).flatten = fzL l.flatten := by
  induction l with
  | nil => rfl
  | cons t r ih => simp only [fzLL, List.flatten_cons, ih, fzL_map, List.map_append]
theorem fzLL_len {l : List (List T)} {n : Nat} (h : ∀ r ∈ l, r.length = n) : ∀ r ∈ fzLL l, r.length = n := by
  intro r hr
  rw [fzLL_map] at hr
  obtain ⟨x, hx, rfl⟩ := List.mem_map.1 hr
  rw [fzL_map, List.length_map]
  exact h x hx
theorem fzLL_length (l : List (List T)) : (fzLL l).length = l.length := by rw [fzLL_map, List.length_map]

/-! ### what a value reads as in cells that stay -/
inductive R (hf : AH) : T → Value → Prop
  | bool (b : Bool) : R hf (.bool b) (.bool b)
  | int (k : IntKind) (n : Int) : R hf (.int k n) (.int k n)
  | str (s : ByteArray) : R hf (.str s) (.string s)
  | ptr0 : R hf .ptr0 (.pointer none)
  | fn0 : R hf .fn0 .nilFunc
  | nils : R hf .nils (.slice none 0 0)
  | agg (ts : List T) (vs : Array Value) (hs : ts.length = vs.size) (h : ∀ i, i < ts.length → R hf (ts.getD i .any) (vs.getD i undef)) : R hf (.agg ts) (.agg vs)
  | tup (ts : List T) (vs : Array Value) (hs : ts.length = vs.size) (h : ∀ i, i < ts.length → R hf (ts.getD i .any) (vs.getD i undef)) : R hf (.tup ts) (.tuple vs)
  | fn (f : FuncId) (ts : List T) (vs : Array Value) (hs : ts.length = vs.size) (h : ∀ i, i < ts.length → R hf (ts.getD i .any) (vs.getD i undef)) : R hf (.fn f ts) (.func (.func f) #[] vs)
  | sl0 (sz : Nat) : R hf (.sl false sz []) (.slice none 0 0)
  | sle (sz : Nat) (a o m : Nat) : R hf (.sl false sz []) (.slice (some ⟨a, o, none⟩) 0 m)
  | sl {a es : Nat} {cs : List Value} (sz : Nat) (rows : List (List T)) (o m : Nat) (hm : 0 < m) (hk : hf a = some (.cells es cs)) (hes : es = 0 ∨ es = sz) (hlen : ∀ r ∈ rows, r.length = sz) (hfit : o + rows.length * sz ≤ cs.length)
      (h : ∀ i, i < rows.length * sz → R hf (rows.flatten.getD i .any) (cs.getD (o + i) undef)) : R hf (.sl false sz rows) (.slice (some ⟨a, o, none⟩) rows.length m)
  | rp {a es : Nat} {cs : List Value} (ts : List T) (o : Nat) (hk : hf a = some (.cells es cs)) (hfit : o + ts.length ≤ cs.length) (h : ∀ i, i < ts.length → R hf (ts.getD i .any) (cs.getD (o + i) undef)) : R hf (.rp ts) (.pointer (some ⟨a, o, none⟩))
theorem R.mono {hf hf' : AH} (hm : ∀ a o, hf a = some o → hf' a = some o) {t : T} {v : Value} (h : R hf t v) : R hf' t v := by
  induction h with
  | bool b => exact .bool b
  | int k n => exact .int k n
  | str s => exact .str s
  | ptr0 => exact .ptr0
  | fn0 => exact .fn0
  | nils => exact .nils
  | agg ts vs hs _ ih => exact .agg ts vs hs ih
  | tup ts vs hs _ ih => exact .tup ts vs hs ih
  | fn f ts vs hs _ ih => exact .fn f ts vs hs ih
  | sl0 sz => exact .sl0 sz
  | sle sz a o m => exact .sle sz a o m
  | sl sz rows o m hm1 hk hes hlen hfit _ ih => exact .sl sz rows o m hm1 (hm _ _ hk) hes hlen hfit ih
  | rp ts o hk hfit _ ih => exact .rp ts o (hm _ _ hk) hfit ih
/-- Trees that hang on no cells but their own. -/
inductive Clean : T → Prop
  | bool (b : Bool) : Clean (.bool b)
  | int (k : IntKind) (n : Int) : Clean (.int k n)
  | str (s : ByteArray) : Clean (.str s)
  | ptr0 : Clean .ptr0
  | fn0 : Clean .fn0
  | nils : Clean .nils
  | agg (ts : List T) (h : ∀ t ∈ ts, Clean t) : Clean (.agg ts)
  | tup (ts : List T) (h : ∀ t ∈ ts, Clean t) : Clean (.tup ts)
  | sl (sz : Nat) (rows : List (List T)) (h : ∀ r ∈ rows, ∀ t ∈ r, Clean t) : Clean (.sl true sz rows)
  | sl0 (sz : Nat) : Clean (.sl false sz [])
theorem R.clean {hf : AH} {t : T} {v : Value} (h : R hf t v) (hc : Clean t) (hf' : AH) : R hf' t v := by
  induction h with
  | bool b => exact .bool b
  | int k n => exact .int k n
  | str s => exact .str s
  | ptr0 => exact .ptr0
  | fn0 => exact .fn0
  | nils => exact .nils
  | agg ts vs hs _ ih =>
    cases hc with
    | agg _ hc => exact .agg ts vs hs (fun i hi => ih i hi (hc _ (by rw [List.getD_eq_getElem?_getD, List.getElem?_eq_getElem hi]; exact List.getElem_mem hi)))
  | tup ts vs hs _ ih =>
    cases hc with
    | tup _ hc => exact .tup ts vs hs (fun i hi => ih i hi (hc _ (by rw [List.getD_eq_getElem?_getD, List.getElem?_eq_getElem hi]; exact List.getElem_mem hi)))
  | fn f ts vs hs _ ih => cases hc
  | sl0 sz => exact .sl0 sz
  | sle sz a o m => exact .sle sz a o m
  | sl sz rows o m hm1 hk hes hlen hfit _ ih =>
    cases hc with
    | sl0 sz => exact .sle _ _ _ _
  | rp ts o hk hfit _ ih => cases hc

/-! ### what is owned -/
mutual
inductive S (hf h : AH) : T → Value → List Nat → Prop
  | fz {t : T} {v : Value} (hr : R hf t v) : S hf h t v []
  | ow0 (sz : Nat) : S hf h (.sl true sz []) (.slice none 0 0) []
  | owe (sz a o : Nat) : S hf h (.sl true sz []) (.slice (some ⟨a, o, none⟩) 0 0) []
  | ow {a : Nat} {cs : List Value} {N : List Nat} (sz : Nat) (rows : List (List T)) (m : Nat) (hm : 0 < m) (hk : h a = some (.cells sz cs)) (hodd : a % 2 = 1) (hlen : ∀ r ∈ rows, r.length = sz) (hfit : rows.length * sz ≤ cs.length)
      (hs : SL hf h rows.flatten (cs.take (rows.length * sz)) N) : S hf h (.sl true sz rows) (.slice (some ⟨a, 0, none⟩) rows.length m) (a :: N)
  | agg {ts : List T} {vs : List Value} {N : List Nat} (hs : SL hf h ts vs N) : S hf h (.agg ts) (.agg vs.toArray) N
  | tup {ts : List T} {vs : List Value} {N : List Nat} (hs : SL hf h ts vs N) : S hf h (.tup ts) (.tuple vs.toArray) N
inductive SL (hf h : AH) : List T → List Value → List Nat → Prop
  | nil : SL hf h [] [] []
  | cons {t : T} {v : Value} {ts : List T} {vs : List Value} {N M : List Nat} (hs : S hf h t v N) (hr : SL hf h ts vs M) : SL hf h (t :: ts) (v :: vs) (N ++ M)
end
theorem SL.length {hf h : AH} : ∀ {ts : List T} {vs : List Value} {N : List Nat}, SL hf h ts vs N → ts.length = vs.length
  | _, _, _, .nil => rfl
  | _, _, _, .cons _ hr => by simp only [List.length_cons, hr.length]
mutual
theorem S.mono {hf hf' h h' : AH} (hm : ∀ a o, hf a = some o → hf' a = some o) : ∀ {t : T} {v : Value} {N : List Nat}, S hf h t v N → (∀ a ∈ N, h' a = h a) → S hf' h' t v N
  | _, _, _, .fz hr, _ => .fz (hr.mono hm)
  | _, _, _, .ow0 sz, _ => .ow0 sz
  | _, _, _, .owe sz a o, _ => .owe sz a o
  | _, _, _, .ow sz rows m hm1 hk hodd hlen hfit hs, hN => .ow sz rows m hm1 ((hN _ (by simp)).trans hk) hodd hlen hfit (SL.mono hm hs (fun a ha => hN a (by simp [ha])))
  | _, _, _, .agg hs, hN => .agg (SL.mono hm hs hN)
  | _, _, _, .tup hs, hN => .tup (SL.mono hm hs hN)
theorem SL.mono {hf hf' h h' : AH} (hm : ∀ a o, hf a = some o → hf' a = some o) : ∀ {t : List T} {v : List Value} {N : List Nat}, SL hf h t v N → (∀ a ∈ N, h' a = h a) → SL hf' h' t v N
  | _, _, _, .nil, _ => .nil
  | _, _, _, .cons hs hr, hN => .cons (S.mono hm hs (fun a ha => hN a (by simp [ha]))) (SL.mono hm hr (fun a ha => hN a (by simp [ha])))
end
theorem RLof {hf : AH} {ts : List T} {vs : List Value} (h : ts.length = vs.length ∧ ∀ i, i < ts.length → R hf (ts.getD i .any) (vs.getD i undef)) : ∀ i, i < ts.length → R hf (ts.getD i .any) (vs.toArray.getD i undef) := fun i hi => by
  have := h.2 i hi
  simpa [Array.getD_eq_getD_getElem?, List.getD_eq_getElem?_getD] using this
/-- Lists, cell by cell. -/
def RL (hf : AH) (ts : List T) (vs : List Value) : Prop := ts.length = vs.length ∧ ∀ i, i < ts.length → R hf (ts.getD i .any) (vs.getD i undef)
theorem RL.nil (hf : AH) : RL hf [] [] := ⟨rfl, fun i hi => by simp at hi⟩
theorem RL.cons {hf : AH} {t : T} {v : Value} {ts : List T} {vs : List Value} (h : R hf t v) (hr : RL hf ts vs) : RL hf (t :: ts) (v :: vs) := by
  refine ⟨by simp [hr.1], fun i hi => ?_⟩
  cases i with
  | zero => simpa using h
  | succ i => simpa using hr.2 i (by simpa using hi)
theorem RL.tail {hf : AH} {t : T} {v : Value} {ts : List T} {vs : List Value} (h : RL hf (t :: ts) (v :: vs)) : R hf t v ∧ RL hf ts vs :=
  ⟨by simpa using h.2 0 (by simp), by simpa using h.1, fun i hi => by simpa using h.2 (i + 1) (by simpa using hi)⟩
theorem RL.mono {hf hf' : AH} (hm : ∀ a o, hf a = some o → hf' a = some o) {ts : List T} {vs : List Value} (h : RL hf ts vs) : RL hf' ts vs := ⟨h.1, fun i hi => (h.2 i hi).mono hm⟩
mutual
/-- What is owned, read as what stays. -/
theorem S.fzR {hf h H : AH} (hm : ∀ a o, hf a = some o → H a = some o) : ∀ {t : T} {v : Value} {N : List Nat}, S hf h t v N → (∀ a ∈ N, ∀ o, h a = some o → H a = some o) → R H (AE.fz t) v
  | _, _, _, .fz hr, _ => by
    have h1 := hr.mono hm
    clear hr
    induction h1 with
    | bool b => exact .bool b
    | int k n => exact .int k n
    | str s => exact .str s
    | ptr0 => exact .ptr0
    | fn0 => exact .fn0
    | nils => exact .nils
    | agg ts vs hs _ ih =>
      unfold AE.fz
      rw [fzL_map]
      refine .agg _ vs (by simpa using hs) (fun i hi => ?_)
      have hi' : i < ts.length := by simpa using hi
      have := ih i hi'
      simpa [List.getD_eq_getElem?_getD, hi'] using this
    | tup ts vs hs _ ih =>
      unfold AE.fz
      rw [fzL_map]
      refine .tup _ vs (by simpa using hs) (fun i hi => ?_)
      have hi' : i < ts.length := by simpa using hi
      have := ih i hi'
      simpa [List.getD_eq_getElem?_getD, hi'] using this
    | fn f ts vs hs h1 ih => exact .fn f ts vs hs h1
    | sl0 sz => exact .sl0 sz
    | sle sz a o m => exact .sle sz a o m
    | sl sz rows o m hm1 hk hes hlen hfit _ ih =>
      unfold AE.fz
      rw [show rows.length = (fzLL rows).length from (fzLL_length rows).symm]
      refine .sl sz _ o m hm1 hk hes (fzLL_len hlen) (by rw [fzLL_length]; exact hfit) (fun i hi => ?_)
      rw [fzLL_length] at hi
      have hi' : i < rows.flatten.length := by
        have : rows.flatten.length = rows.length * sz := by
          rw [List.length_flatten, List.map_congr_left (g := fun _ => sz) (fun r hr => hlen r hr)]
          simp [List.map_const']
        omega
      have := ih i hi
      rw [fzLL_flatten, fzL_map, List.getD_eq_getElem?_getD, List.getElem?_map, List.getElem?_eq_getElem hi', Option.map_some, Option.getD_some]
      rw [List.getD_eq_getElem?_getD, List.getElem?_eq_getElem hi', Option.getD_some] at this
      exact this
    | rp ts o hk hfit h1 ih => exact .rp ts o hk hfit h1
  | _, _, _, .ow0 sz, _ => .sl0 sz
  | _, _, _, .owe sz a o, _ => .sle sz a o 0
  | _, _, _, .ow (a := a) (cs := cs) sz rows m hm1 hk hodd hlen hfit hs, hN => by
    have h1 := SL.fzR hm hs (fun a ha => hN a (by simp [ha]))
    unfold AE.fz
    rw [show rows.length = (fzLL rows).length from (fzLL_length rows).symm]
    refine .sl sz _ 0 m hm1 (hN _ (by simp) _ hk) (.inr rfl) (fzLL_len hlen) (by rw [fzLL_length]; omega) (fun i hi => ?_)
    rw [fzLL_length] at hi
    have hfl : rows.flatten.length = rows.length * sz := by
      have := hs.length
      rw [List.length_take] at this
      omega
    have h2 := h1.2 i (by rw [fzL_map, List.length_map]; omega)
    rw [fzLL_flatten, Nat.zero_add]
    rw [List.getD_eq_getElem?_getD (l := cs.take _), List.getElem?_take, if_pos hi, ← List.getD_eq_getElem?_getD] at h2
    exact h2
  | _, _, _, .agg hs, hN => by
    have h1 := SL.fzR hm hs hN
    unfold AE.fz
    exact .agg _ _ (by simpa using h1.1) (RLof h1)
  | _, _, _, .tup hs, hN => by
    have h1 := SL.fzR hm hs hN
    unfold AE.fz
    exact .tup _ _ (by simpa using h1.1) (RLof h1)
theorem SL.fzR {hf h H : AH} (hm : ∀ a o, hf a = some o → H a = some o) : ∀ {ts : List T} {vs : List Value} {N : List Nat}, SL hf h ts vs N → (∀ a ∈ N, ∀ o, h a = some o → H a = some o) → RL H (fzL ts) vs
  | _, _, _, .nil, _ => RL.nil H
  | _, _, _, .cons hs hr, hN => by
    unfold fzL
    exact RL.cons (S.fzR hm hs (fun a ha => hN a (by simp [ha]))) (SL.fzR hm hr (fun a ha => hN a (by simp [ha])))
end
/-! ### values of a call's temporaries -/
inductive V (σ : Nat → Option Nat) (hf : AH) (nx : Nat) : T → Value → Prop
  | any (v : Value) : V σ hf nx .any v
  | fz {t : T} {v : Value} (hr : R hf t v) : V σ hf nx t v
  | os {a : Nat} (sz k lo n m : Nat) (hk : k < nx) (hs : σ k = some a) (hm : 0 < m) : V σ hf nx (.os sz k lo n) (.slice (some ⟨a, lo * sz, none⟩) n m)
  | os0 (sz k : Nat) (hk : k < nx) (hs : σ k = none) : V σ hf nx (.os sz k 0 0) (.slice none 0 0)
  | ose (sz k a o : Nat) (hk : k < nx) (hs : σ k = none) : V σ hf nx (.os sz k 0 0) (.slice (some ⟨a, o, none⟩) 0 0)
  | op {a : Nat} (k o : Nat) (hk : k < nx) (hs : σ k = some a) : V σ hf nx (.op k o) (.pointer (some ⟨a, o, none⟩))
  | orp {a : Nat} (sz k i o : Nat) (hk : k < nx) (hs : σ k = some a) : V σ hf nx (.orp sz k i o) (.pointer (some ⟨a, i * sz + o, none⟩))
  | om {a : Nat} (k : Nat) (hk : k < nx) (hs : σ k = some a) : V σ hf nx (.om k) (.map (some a))
  | agg (ts : List T) (vs : Array Value) (hs : ts.length = vs.size) (h : ∀ i, i < ts.length → V σ hf nx (ts.getD i .any) (vs.getD i undef)) : V σ hf nx (.agg ts) (.agg vs)
  | tup (ts : List T) (vs : Array Value) (hs : ts.length = vs.size) (h : ∀ i, i < ts.length → V σ hf nx (ts.getD i .any) (vs.getD i undef)) : V σ hf nx (.tup ts) (.tuple vs)
  | fn (f : FuncId) (ts : List T) (vs : Array Value) (hs : ts.length = vs.size) (h : ∀ i, i < ts.length → V σ hf nx (ts.getD i .any) (vs.getD i undef)) : V σ hf nx (.fn f ts) (.func (.func f) #[] vs)
theorem V.mono {σ σ' : Nat → Option Nat} {hf hf' : AH} {nx nx' : Nat} (hm : ∀ a o, hf a = some o → hf' a = some o) (hn : nx ≤ nx') (hσ : ∀ k, k < nx → σ' k = σ k) {t : T} {v : Value} (h : V σ hf nx t v) : V σ' hf' nx' t v := by
  induction h with
  | any v => exact .any v
  | fz hr => exact .fz (hr.mono hm)
  | os sz k lo n m hk hs hm1 => exact .os sz k lo n m (by omega) ((hσ k hk).trans hs) hm1
  | os0 sz k hk hs => exact .os0 sz k (by omega) ((hσ k hk).trans hs)
  | ose sz k a o hk hs => exact .ose sz k a o (by omega) ((hσ k hk).trans hs)
  | op k o hk hs => exact .op k o (by omega) ((hσ k hk).trans hs)
  | orp sz k i o hk hs => exact .orp sz k i o (by omega) ((hσ k hk).trans hs)
  | om k hk hs => exact .om k (by omega) ((hσ k hk).trans hs)
  | agg ts vs hs _ ih => exact .agg ts vs hs ih
  | tup ts vs hs _ ih => exact .tup ts vs hs ih
  | fn f ts vs hs _ ih => exact .fn f ts vs hs ih
/-- Lists of them. -/
def VL (σ : Nat → Option Nat) (hf : AH) (nx : Nat) (ts : List T) (vs : List Value) : Prop := ts.length = vs.length ∧ ∀ i, i < ts.length → V σ hf nx (ts.getD i .any) (vs.getD i undef)
theorem VL.nil (σ : Nat → Option Nat) (hf : AH) (nx : Nat) : VL σ hf nx [] [] := ⟨rfl, fun i hi => by simp at hi⟩
theorem VL.cons {σ : Nat → Option Nat} {hf : AH} {nx : Nat} {t : T} {v : Value} {ts : List T} {vs : List Value} (h : V σ hf nx t v) (hr : VL σ hf nx ts vs) : VL σ hf nx (t :: ts) (v :: vs) := by
  refine ⟨by simp [hr.1], fun i hi => ?_⟩
  cases i with
  | zero => simpa using h
  | succ i => simpa using hr.2 i (by simpa using hi)
theorem VL.mono {σ σ' : Nat → Option Nat} {hf hf' : AH} {nx nx' : Nat} (hm : ∀ a o, hf a = some o → hf' a = some o) (hn : nx ≤ nx') (hσ : ∀ k, k < nx → σ' k = σ k) {ts : List T} {vs : List Value} (h : VL σ hf nx ts vs) : VL σ' hf' nx' ts vs := ⟨h.1, fun i hi => (h.2 i hi).mono hm hn hσ⟩
theorem V.aggL {σ : Nat → Option Nat} {hf : AH} {nx : Nat} {ts : List T} {v : Value} (h : V σ hf nx (.agg ts) v) : ∃ vs : List Value, v = .agg vs.toArray ∧ VL σ hf nx ts vs := by
  cases h with
  | fz hr =>
    cases hr with
    | agg _ vs hs h => exact ⟨vs.toList, by simp, by simpa using hs, fun i hi => .fz (by have := h i hi; simpa [Array.getD_eq_getD_getElem?, List.getD_eq_getElem?_getD] using this)⟩
  | agg _ vs hs h => exact ⟨vs.toList, by simp, by simpa using hs, fun i hi => by have := h i hi; simpa [Array.getD_eq_getD_getElem?, List.getD_eq_getElem?_getD] using this⟩
theorem V.tupL {σ : Nat → Option Nat} {hf : AH} {nx : Nat} {ts : List T} {v : Value} (h : V σ hf nx (.tup ts) v) : ∃ vs : List Value, v = .tuple vs.toArray ∧ VL σ hf nx ts vs := by
  cases h with
  | fz hr =>
    cases hr with
    | tup _ vs hs h => exact ⟨vs.toList, by simp, by simpa using hs, fun i hi => .fz (by have := h i hi; simpa [Array.getD_eq_getD_getElem?, List.getD_eq_getElem?_getD] using this)⟩
  | tup _ vs hs h => exact ⟨vs.toList, by simp, by simpa using hs, fun i hi => by have := h i hi; simpa [Array.getD_eq_getD_getElem?, List.getD_eq_getElem?_getD] using this⟩
theorem VL.toAgg {σ : Nat → Option Nat} {hf : AH} {nx : Nat} {ts : List T} {vs : List Value} (h : VL σ hf nx ts vs) : V σ hf nx (.agg ts) (.agg vs.toArray) :=
  .agg _ _ (by simpa using h.1) (fun i hi => by have := h.2 i hi; simpa [Array.getD_eq_getD_getElem?, List.getD_eq_getElem?_getD] using this)
theorem VL.toTup {σ : Nat → Option Nat} {hf : AH} {nx : Nat} {ts : List T} {vs : List Value} (h : VL σ hf nx ts vs) : V σ hf nx (.tup ts) (.tuple vs.toArray) :=
  .tup _ _ (by simpa using h.1) (fun i hi => by have := h.2 i hi; simpa [Array.getD_eq_getD_getElem?, List.getD_eq_getElem?_getD] using this)
theorem VL.toFn {σ : Nat → Option Nat} {hf : AH} {nx : Nat} {ts : List T} {vs : List Value} (f : FuncId) (h : VL σ hf nx ts vs) : V σ hf nx (.fn f ts) (.func (.func f) #[] vs.toArray) :=
  .fn f _ _ (by simpa using h.1) (fun i hi => by have := h.2 i hi; simpa [Array.getD_eq_getD_getElem?, List.getD_eq_getElem?_getD] using this)

/-! ### what a call owns -/
inductive Obj where
  | cells (ts : List T)
  | rows (sz : Nat) (rows : List (List T))
  | map (es : List (T × T))
inductive ObjR (σ : Nat → Option Nat) (hf : AH) (nx : Nat) (h : AH) : Obj → Option Nat → List Nat → Prop
  | cells {a es : Nat} {cs : List Value} {ts : List T} (hk : h a = some (.cells es cs)) (hodd : a % 2 = 1) (hv : VL σ hf nx ts cs) : ObjR σ hf nx h (.cells ts) (some a) [a]
  | none (sz : Nat) : ObjR σ hf nx h (.rows sz []) none []
  | rows {a : Nat} {cs : List Value} {N : List Nat} {sz : Nat} {rows : List (List T)} (hk : h a = some (.cells sz cs)) (hodd : a % 2 = 1) (hlen : ∀ r ∈ rows, r.length = sz) (hfit : rows.length * sz ≤ cs.length)
      (hs : SL hf h rows.flatten (cs.take (rows.length * sz)) N) : ObjR σ hf nx h (.rows sz rows) (some a) (a :: N)
  | map {a : Nat} {es : List (T × T)} {ev : List (Value × Value)} (hk : h a = some (.map ev)) (hodd : a % 2 = 1) (h1 : RL (fun _ => Option.none) (es.map (·.1)) (ev.map (·.1))) (h2 : RL (fun _ => Option.none) (es.map (·.2)) (ev.map (·.2))) : ObjR σ hf nx h (.map es) (some a) [a]
theorem ObjR.mono {σ σ' : Nat → Option Nat} {hf hf' : AH} {nx nx' : Nat} {h h' : AH} {o : Obj} {a : Option Nat} {N : List Nat} (hm : ∀ a o, hf a = some o → hf' a = some o) (hn : nx ≤ nx') (hσ : ∀ k, k < nx → σ' k = σ k) (hN : ∀ a ∈ N, h' a = h a) (hr : ObjR σ hf nx h o a N) : ObjR σ' hf' nx' h' o a N := by
  cases hr with
  | cells hk hodd hv => exact .cells ((hN _ (by simp)).trans hk) hodd (hv.mono hm hn hσ)
  | none sz => exact .none sz
  | rows hk hodd hlen hfit hs => exact .rows ((hN _ (by simp)).trans hk) hodd hlen hfit (hs.mono hm (fun a ha => hN a (by simp [ha])))
  | map hk hodd h1 h2 => exact .map ((hN _ (by simp)).trans hk) hodd h1 h2
abbrev Env := List (Nat × T)
abbrev Objs := List (Nat × Option Obj)
def gE : Env → Nat → T
  | [], _ => .any
  | (d, v) :: r, t => if t = d then v else gE r t
def gO : Objs → Nat → Option Obj
  | [], _ => none
  | (d, v) :: r, t => if t = d then v else gO r t
def pE (E : Env) : Option Tmp → T → Env
  | some d, v => (d, v) :: E
  | none, _ => E
theorem gE_at (E : Env) (d : Nat) (v : T) : gE ((d, v) :: E) d = v := by simp [gE]
theorem gE_off (E : Env) {d t : Nat} (h : (t == d) = false) (v : T) : gE ((d, v) :: E) t = gE E t := by simp at h; simp [gE, h]
theorem gO_at (E : Objs) (d : Nat) (v : Option Obj) : gO ((d, v) :: E) d = v := by simp [gO]
theorem gO_off (E : Objs) {d t : Nat} (h : (t == d) = false) (v : Option Obj) : gO ((d, v) :: E) t = gO E t := by simp at h; simp [gO, h]
/-- The cells as a call began, without those that are loaned to it; and the names of those. -/
structure LB where
  h : AH
  ln : Nat → Prop
def UL (p : Nat) (h0 : LB) (a : Nat) : Prop := Under p a ∨ h0.ln a
def DomL (p : Nat) (h0 : LB) (h : AH) : Prop := ∀ t, h t ≠ none → h0.h t ≠ none ∨ UL p h0 t
/-- A state of trees and a state of the evaluator. h0: the cells as the call began; hf: the cells that stay; own: to whom a name of the call's own belongs. -/
structure SR (p : Nat) (h0 : LB) (σ : Nat → Option Nat) (hf : AH) (own : Nat → Option Nat) (E : Env) (O : Objs) (nx : Nat) (Ea : Nat → Value) (h : AH) : Prop where
  env : ∀ t, V σ hf nx (gE E t) (Ea t)
  obj : ∀ k o, gO O k = some o → k < nx ∧ ∃ N, N.Nodup ∧ (∀ a ∈ N, own a = some k) ∧ ObjR σ hf nx h o (σ k) N
  fro : ∀ a o, hf a = some o → h a = some o ∧ own a = none
  mine : ∀ a k, own a = some k → UL p h0 a ∧ h0.h a = none ∧ h a ≠ none ∧ k < nx
  base : ∀ a, h0.h a ≠ none → hf a = h0.h a
  dom : DomL p h0 h
end Go.Proofs.Ythdnjihmjdbdkaa.AE
