/- One word an operation, over trees. Conditions: none. -/
import Derived.Test.YthdnjihmjdbdkaaVlDraw
namespace Go.Proofs.Ythdnjihmjdbdkaa.AE
open Go Go.RowKit
set_option linter.unusedVariables false
set_option linter.unusedSimpArgs false
section
variable {call : CallT} {P : Program} {E : Env} {O : Objs} {d : Option Tmp} {ty tt s e : TypeId} {ps : String} {af : Array Edge} {g : Option (Nat × Bool)} {x y z : Operand} {t u w : T} {nx : Nat}
/-! ### plain -/
theorem OF.move (hx : VEv E x t) : OF call P E ⟨d, .move x, ty, ps, af, g⟩ t := fun p σ hf nx Ea h he => by
  obtain ⟨v, h1, h2⟩ := hx σ hf nx Ea he
  exact ⟨v, X.move h1, h2⟩
theorem OF.assign (hx : VEv E x t) : OF call P E ⟨d, .assign x, ty, ps, af, g⟩ t := fun p σ hf nx Ea h he => by
  obtain ⟨v, h1, h2⟩ := hx σ hf nx Ea he
  exact ⟨v, X.assign h1, h2⟩
theorem OF.pickT (hc : VEv E x (.bool true)) (hy : VEv E y t) : OF call P E ⟨d, .pick x y z, ty, ps, af, g⟩ t := fun p σ hf nx Ea h he => by
  obtain ⟨v, h1, h2⟩ := hc σ hf nx Ea he
  obtain ⟨v', h3, h4⟩ := hy σ hf nx Ea he
  obtain rfl := h2.boolInv
  exact ⟨v', X.pickT h1 h3, h4⟩
theorem OF.pickF (hc : VEv E x (.bool false)) (hz : VEv E z t) : OF call P E ⟨d, .pick x y z, ty, ps, af, g⟩ t := fun p σ hf nx Ea h he => by
  obtain ⟨v, h1, h2⟩ := hc σ hf nx Ea he
  obtain ⟨v', h3, h4⟩ := hz σ hf nx Ea he
  obtain rfl := h2.boolInv
  exact ⟨v', X.pickF h1 h3, h4⟩
theorem OF.pick {b : Bool} (hc : VEv E x (.bool b)) (hy : VEv E y t) (hz : VEv E z u) : OF call P E ⟨d, .pick x y z, ty, ps, af, g⟩ (if b then t else u) := by
  cases b
  · exact OF.pickF hc hz
  · exact OF.pickT hc hy
/-- Plain trees and their values. -/
inductive Sv : T → Value → Prop
  | bool (b : Bool) : Sv (.bool b) (.bool b)
  | int (k : IntKind) (n : Int) : Sv (.int k n) (.int k n)
  | str (s : ByteArray) : Sv (.str s) (.string s)
  | ptr0 : Sv .ptr0 (.pointer none)
  | nils : Sv .nils (.slice none 0 0)
  | fn0 : Sv .fn0 .nilFunc
theorem Sv.R {t : T} {v : Value} (h : Sv t v) (hf : AH) : AE.R hf t v := by
  cases h
  · exact .bool _
  · exact .int _ _
  · exact .str _
  · exact .ptr0
  · exact .nils
  · exact .fn0
theorem Sv.inv {t : T} {v v' : Value} {σ : Nat → Option Nat} {hf : AH} {nx : Nat} (h : Sv t v) (hv : V σ hf nx t v') : v' = v := by
  cases h
  · exact hv.boolInv
  · exact hv.intInv
  · exact hv.strInv
  · cases hv with | fz hr => cases hr; rfl
  · exact hv.nilsInv
  · cases hv with | fz hr => cases hr; rfl
inductive SvL : List T → List Value → Prop
  | nil : SvL [] []
  | cons {t : T} {v : Value} {ts : List T} {vs : List Value} (h : Sv t v) (hr : SvL ts vs) : SvL (t :: ts) (v :: vs)
theorem VL.tail {σ : Nat → Option Nat} {hf : AH} {nx : Nat} {t : T} {ts : List T} {vs : List Value} (h : VL σ hf nx (t :: ts) vs) : ∃ v r, vs = v :: r ∧ V σ hf nx t v ∧ VL σ hf nx ts r := by
  cases vs with
  | nil => cases h.1
  | cons v r => exact ⟨v, r, rfl, by simpa using h.2 0 (by simp), by simpa using h.1, fun i hi => by simpa using h.2 (i + 1) (by simpa using hi)⟩
theorem SvL.inv {σ : Nat → Option Nat} {hf : AH} {nx : Nat} {ts : List T} {vs vs' : List Value} (h : SvL ts vs) (hv : VL σ hf nx ts vs') : vs' = vs := by
  induction h generalizing vs' with
  | nil => exact List.eq_nil_of_length_eq_zero hv.1.symm
  | cons h _ ih =>
    obtain ⟨v, r, rfl, h1, h2⟩ := hv.tail
    rw [h.inv h1, ih h2]
theorem OF.bin {op : BinOp} {xt : TypeId} {a b c : Value} (hx : VEv E x t) (hy : VEv E y u) (ha : Sv t a) (hb : Sv u b) (hop : abop P op tt x y a b = some c) (hc : Sv w c) : OF call P E ⟨d, .binOp op tt x y xt, ty, ps, af, g⟩ w := fun p σ hf nx Ea h he => by
  obtain ⟨v, h1, h2⟩ := hx σ hf nx Ea he
  obtain ⟨v', h3, h4⟩ := hy σ hf nx Ea he
  obtain rfl := ha.inv h2
  obtain rfl := hb.inv h4
  exact ⟨c, X.bin h1 h3 hop, .fz (hc.R hf)⟩
/-- '==' of structs of plain cells. -/
theorem OF.binA {op : BinOp} {xt : TypeId} {as bs : List Value} {ts us : List T} {c : Value} (hx : VEv E x (.agg ts)) (hy : VEv E y (.agg us)) (ha : SvL ts as) (hb : SvL us bs) (hop : abop P op tt x y (.agg as.toArray) (.agg bs.toArray) = some c) (hc : Sv w c) : OF call P E ⟨d, .binOp op tt x y xt, ty, ps, af, g⟩ w := fun p σ hf nx Ea h he => by
  obtain ⟨v, h1, h2⟩ := hx σ hf nx Ea he
  obtain ⟨v', h3, h4⟩ := hy σ hf nx Ea he
  obtain ⟨l, rfl, g2⟩ := h2.aggL
  obtain ⟨l', rfl, g4⟩ := h4.aggL
  obtain rfl := ha.inv g2
  obtain rfl := hb.inv g4
  exact ⟨c, X.bin h1 h3 hop, .fz (hc.R hf)⟩
theorem OF.un {op : UnOp} {xt : TypeId} {a c : Value} (hx : VEv E x t) (ha : Sv t a) (hop : aun P op a = some c) (hc : Sv w c) : OF call P E ⟨d, .unOp op xt x, ty, ps, af, g⟩ w := fun p σ hf nx Ea h he => by
  obtain ⟨v, h1, h2⟩ := hx σ hf nx Ea he
  obtain rfl := ha.inv h2
  exact ⟨c, X.un h1 hop, .fz (hc.R hf)⟩
theorem R.rpDrop {hf : AH} {ts : List T} {v : Value} (h : R hf (.rp ts) v) : ∃ a o es cs, v = .pointer (some ⟨a, o, none⟩) ∧ hf a = some (.cells es cs) ∧ o + ts.length ≤ cs.length ∧ ∀ i, i < ts.length → R hf (ts.getD i .any) (cs.getD (o + i) undef) := by
  cases h with
  | rp ts o hk hfit h => exact ⟨_, o, _, _, rfl, hk, hfit, h⟩
theorem R.rpAt {hf : AH} {ts : List T} {a o es : Nat} {cs : List Value} (n : Nat) (hn : n ≤ ts.length) (hk : hf a = some (.cells es cs)) (hfit : o + ts.length ≤ cs.length) (h : ∀ i, i < ts.length → R hf (ts.getD i .any) (cs.getD (o + i) undef)) : R hf (.rp (ts.drop n)) (.pointer (some ⟨a, o + n, none⟩)) :=
  .rp _ _ hk (by simp; omega) (fun i hi => by
    have := h (n + i) (by simp at hi; omega)
    rw [show o + n + i = o + (n + i) by omega]
    simpa [List.getD_eq_getElem?_getD] using this)
theorem V.rpInv {σ : Nat → Option Nat} {hf : AH} {nx : Nat} {ts : List T} {v : Value} (h : V σ hf nx (.rp ts) v) : R hf (.rp ts) v := by
  cases h with
  | fz hr => exact hr
theorem V.opInv {σ : Nat → Option Nat} {hf : AH} {nx k o : Nat} {v : Value} (h : V σ hf nx (.op k o) v) : ∃ a, v = .pointer (some ⟨a, o, none⟩) ∧ σ k = some a ∧ k < nx := by
  cases h with
  | fz hr => cases hr
  | op k o hk hs => exact ⟨_, rfl, hs, hk⟩
theorem V.orpInv {σ : Nat → Option Nat} {hf : AH} {nx sz k i o : Nat} {v : Value} (h : V σ hf nx (.orp sz k i o) v) : ∃ a, v = .pointer (some ⟨a, i * sz + o, none⟩) ∧ σ k = some a ∧ k < nx := by
  cases h with
  | fz hr => cases hr
  | orp sz k i o hk hs => exact ⟨_, rfl, hs, hk⟩
theorem V.slInv {σ : Nat → Option Nat} {hf : AH} {nx sz : Nat} {rows : List (List T)} {b : Bool} {v : Value} (h : V σ hf nx (.sl b sz rows) v) : R hf (.sl b sz rows) v := by
  cases h with
  | fz hr => exact hr
theorem OF.fieldAddrR {j off : Nat} {ts : List T} (hx : VEv E x (.rp ts)) (hn : off ≤ ts.length) (ha : ∀ k o, afieldAddr P tt (.pointer (some ⟨k, o, none⟩)) j = some (.pointer (some ⟨k, o + off, none⟩))) : OF call P E ⟨d, .fieldAddr tt x j, ty, ps, af, g⟩ (.rp (ts.drop off)) := fun p σ hf nx Ea h he => by
  obtain ⟨v, h1, h2⟩ := hx σ hf nx Ea he
  obtain ⟨a, o, es, cs, rfl, h3, h4, h5⟩ := h2.rpInv.rpDrop
  exact ⟨_, X.fieldAddr h1 (ha a o), .fz (R.rpAt off hn h3 h4 h5)⟩
theorem OF.fieldAddrO {j off k o : Nat} (hx : VEv E x (.op k o)) (ha : ∀ k o, afieldAddr P tt (.pointer (some ⟨k, o, none⟩)) j = some (.pointer (some ⟨k, o + off, none⟩))) : OF call P E ⟨d, .fieldAddr tt x j, ty, ps, af, g⟩ (.op k (o + off)) := fun p σ hf nx Ea h he => by
  obtain ⟨v, h1, h2⟩ := hx σ hf nx Ea he
  obtain ⟨a, rfl, h3, h4⟩ := h2.opInv
  exact ⟨_, X.fieldAddr h1 (ha a o), .op k _ h4 h3⟩
theorem OF.fieldAddrP {j off sz k i o : Nat} (hx : VEv E x (.orp sz k i o)) (ha : ∀ k o, afieldAddr P tt (.pointer (some ⟨k, o, none⟩)) j = some (.pointer (some ⟨k, o + off, none⟩))) : OF call P E ⟨d, .fieldAddr tt x j, ty, ps, af, g⟩ (.orp sz k i (o + off)) := fun p σ hf nx Ea h he => by
  obtain ⟨v, h1, h2⟩ := hx σ hf nx Ea he
  obtain ⟨a, rfl, h3, h4⟩ := h2.orpInv
  exact ⟨_, X.fieldAddr h1 (ha a _), by rw [Nat.add_assoc]; exact .orp sz k i (o + off) h4 h3⟩
theorem OF.nilCheckR {ts : List T} (hx : VEv E x (.rp ts)) : OF call P E ⟨d, .nilCheck x, ty, ps, af, g⟩ (.rp ts) := fun p σ hf nx Ea h he => by
  obtain ⟨v, h1, h2⟩ := hx σ hf nx Ea he
  obtain ⟨a, o, es, cs, rfl, h3, h4, h5⟩ := h2.rpInv.rpDrop
  exact ⟨_, X.nilCheck h1, h2⟩
theorem OF.nilCheckO {k o : Nat} (hx : VEv E x (.op k o)) : OF call P E ⟨d, .nilCheck x, ty, ps, af, g⟩ (.op k o) := fun p σ hf nx Ea h he => by
  obtain ⟨v, h1, h2⟩ := hx σ hf nx Ea he
  obtain ⟨a, rfl, h3, h4⟩ := h2.opInv
  exact ⟨_, X.nilCheck h1, h2⟩
theorem flatten_row {α : Type} {rows : List (List α)} {sz : Nat} (hlen : ∀ r ∈ rows, r.length = sz) {i : Nat} {row : List α} (hi : rows[i]? = some row) : (rows.flatten.drop (i * sz)).take sz = row := by
  induction rows generalizing i with
  | nil => simp at hi
  | cons r rs ih =>
    have hr : r.length = sz := hlen r (by simp)
    cases i with
    | zero =>
      obtain rfl : r = row := by simpa using hi
      rw [Nat.zero_mul, List.drop_zero, List.flatten_cons, ← hr, List.take_left']
      rfl
    | succ i =>
      have := ih (fun x hx => hlen x (by simp [hx])) (i := i) (by simpa using hi)
      rw [List.flatten_cons, Nat.add_mul, Nat.one_mul, Nat.add_comm, ← List.drop_drop, ← hr, List.drop_left', hr]
      · exact this
      · rfl
theorem flatten_len {α : Type} {rows : List (List α)} {sz : Nat} (hlen : ∀ r ∈ rows, r.length = sz) : rows.flatten.length = rows.length * sz := by
  rw [List.length_flatten, List.map_congr_left (g := fun _ => sz) (fun r hr => hlen r hr)]
  simp [List.map_const']
theorem flatten_getD {rows : List (List T)} {sz : Nat} (hlen : ∀ r ∈ rows, r.length = sz) {i j : Nat} {row : List T} (hi : rows[i]? = some row) (hj : j < sz) : rows.flatten.getD (i * sz + j) .any = row.getD j .any := by
  have h := flatten_row hlen hi
  rw [← h, List.getD_eq_getElem?_getD, List.getD_eq_getElem?_getD, List.getElem?_take, if_pos hj, List.getElem?_drop]
theorem row_fit {n sz i : Nat} (hi : i < n) : i * sz + sz ≤ n * sz := by
  have : (i + 1) * sz ≤ n * sz := Nat.mul_le_mul_right _ hi
  rw [Nat.add_mul] at this
  omega
theorem OF.indexAddrR {sz : Nat} {rows : List (List T)} {kk : IntKind} {j : Int} {i : Nat} {row : List T} (hx : VEv E x (.sl false sz rows)) (hy : VEv E y (.int kk j)) (hj : j = i) (hi : rows[i]? = some row) (hu : P.underlying tt = some (.slice e)) (hn : P.cellsOf e = sz) (hif : (P.info? e).isSome = true) :
    OF call P E ⟨d, .indexAddr tt x y, ty, ps, af, g⟩ (.rp row) := fun p σ hf nx Ea h he => by
  obtain ⟨v, h1, h2⟩ := hx σ hf nx Ea he
  obtain ⟨v', h3, h4⟩ := hy σ hf nx Ea he
  obtain rfl := h4.intInv
  subst hj
  have hlt : i < rows.length := (List.getElem?_eq_some_iff.1 hi).1
  have hr := h2.slInv
  generalize hT : T.sl false sz rows = tr at hr
  cases hr <;> first | cases hT | skip
  · simp at hlt
  · simp at hlt
  · rename_i a es cs o m hm hk hes hlen hfit h
    have hrow : row.length = sz := hlen row (List.mem_of_getElem? hi)
    have hf1 := row_fit (sz := sz) hlt
    refine ⟨.pointer (some ⟨a, o + i * sz, none⟩), X.indexAddr h1 h3 ?_, .fz (.rp row _ hk (by omega) (fun q hq => ?_))⟩
    · simp only [aindexAddr, hu, hn, hif, Int.toNat_natCast]
      rw [if_pos ⟨trivial, by omega, by omega⟩]
    · have := h (i * sz + q) (by omega)
      rw [flatten_getD hlen hi (by omega)] at this
      rw [Nat.add_assoc]
      exact this
theorem V.osInv {σ : Nat → Option Nat} {hf : AH} {nx sz k lo n : Nat} {v : Value} (h : V σ hf nx (.os sz k lo n) v) : k < nx ∧ ((∃ a m, v = .slice (some ⟨a, lo * sz, none⟩) n m ∧ σ k = some a ∧ 0 < m) ∨ (σ k = none ∧ lo = 0 ∧ n = 0 ∧ (v = .slice none 0 0 ∨ ∃ a o, v = .slice (some ⟨a, o, none⟩) 0 0))) := by
  cases h with
  | fz hr => cases hr
  | os sz k lo n m hk hs hm => exact ⟨hk, .inl ⟨_, m, rfl, hs, hm⟩⟩
  | os0 sz k hk hs => exact ⟨hk, .inr ⟨hs, rfl, rfl, .inl rfl⟩⟩
  | ose sz k a o hk hs => exact ⟨hk, .inr ⟨hs, rfl, rfl, .inr ⟨a, o, rfl⟩⟩⟩
theorem OF.indexAddrO {sz k lo n : Nat} {kk : IntKind} {j : Int} {i : Nat} (hx : VEv E x (.os sz k lo n)) (hy : VEv E y (.int kk j)) (hj : j = i) (hi : i < n) (hu : P.underlying tt = some (.slice e)) (hn : P.cellsOf e = sz) (hif : (P.info? e).isSome = true) :
    OF call P E ⟨d, .indexAddr tt x y, ty, ps, af, g⟩ (.orp sz k (lo + i) 0) := fun p σ hf nx Ea h he => by
  obtain ⟨v, h1, h2⟩ := hx σ hf nx Ea he
  obtain ⟨v', h3, h4⟩ := hy σ hf nx Ea he
  obtain rfl := h4.intInv
  subst hj
  obtain ⟨hk, ⟨a, m, rfl, h5, h6⟩ | ⟨_, _, rfl, _⟩⟩ := h2.osInv
  · refine ⟨.pointer (some ⟨a, lo * sz + i * sz, none⟩), X.indexAddr h1 h3 ?_, ?_⟩
    · simp only [aindexAddr, hu, hn, hif, Int.toNat_natCast]
      rw [if_pos ⟨trivial, by omega, by omega⟩]
    · have := V.orp (σ := σ) (hf := hf) (nx := nx) sz k (lo + i) 0 hk h5
      rwa [Nat.add_mul, Nat.add_zero] at this
  · omega
theorem OF.index {st : ByteArray} {kk : IntKind} {j : Int} {i : Nat} (hx : VEv E x (.str st)) (hy : VEv E y (.int kk j)) (hj : j = i) (hi : i < st.size) (hu : P.underlying tt = some .string) : OF call P E ⟨d, .index tt x y, ty, ps, af, g⟩ (.int .u8 ((st[i]'hi).toNat : Int)) := fun p σ hf nx Ea h he => by
  obtain ⟨v, h1, h2⟩ := hx σ hf nx Ea he
  obtain ⟨v', h3, h4⟩ := hy σ hf nx Ea he
  obtain rfl := h4.intInv
  obtain rfl := h2.strInv
  subst hj
  exact ⟨_, X.index h1 h3 (aindex_at hu hi), .fz (.int _ _)⟩
theorem OF.extract {ts : List T} {i : Nat} (hx : VEv E x (.tup ts)) (hi : ts[i]? = some t) : OF call P E ⟨d, .extract x i, ty, ps, af, g⟩ t := fun p σ hf nx Ea h he => by
  obtain ⟨v, h1, h2⟩ := hx σ hf nx Ea he
  obtain ⟨l, rfl, h3⟩ := h2.tupL
  have hlt : i < ts.length := (List.getElem?_eq_some_iff.1 hi).1
  have h4 := h3.2 i hlt
  have hlt' : i < l.length := by rw [← h3.1]; exact hlt
  rw [List.getD_eq_getElem?_getD, hi, List.getD_eq_getElem?_getD, List.getElem?_eq_getElem hlt'] at h4
  exact ⟨l[i], X.extract h1 (by simp [aextract, hlt']), h4⟩
theorem OF.makeFunc {f : FuncId} {cp : Array Operand} {ts : List T} (hx : VEvs E cp.toList ts) : OF call P E ⟨d, .makeFunc (.func f) #[] cp, ty, ps, af, g⟩ (.fn f ts) := fun p σ hf nx Ea h he => by
  obtain ⟨vs, h1, h2⟩ := hx σ hf nx Ea he
  exact ⟨_, X.makeFunc h1, h2.toFn f⟩
theorem OF.max {kk : IntKind} {a b : Int} {ts : Array TypeId} (hx : VEv E x (.int kk a)) (hy : VEv E y (.int kk b)) : OF call P E ⟨d, .call ⟨.builtin .max, #[x, y], ts⟩, ty, ps, af, g⟩ (.int kk (if b > a then b else a)) := fun p σ hf nx Ea h he => by
  obtain ⟨v, h1, h2⟩ := hx σ hf nx Ea he
  obtain ⟨v', h3, h4⟩ := hy σ hf nx Ea he
  obtain rfl := h2.intInv
  obtain rfl := h4.intInv
  exact ⟨_, X.max h1 h3 (op_max ..), .fz (.int _ _)⟩
theorem OF.min {kk : IntKind} {a b : Int} {ts : Array TypeId} (hx : VEv E x (.int kk a)) (hy : VEv E y (.int kk b)) : OF call P E ⟨d, .call ⟨.builtin .min, #[x, y], ts⟩, ty, ps, af, g⟩ (.int kk (if b < a then b else a)) := fun p σ hf nx Ea h he => by
  obtain ⟨v, h1, h2⟩ := hx σ hf nx Ea he
  obtain ⟨v', h3, h4⟩ := hy σ hf nx Ea he
  obtain rfl := h2.intInv
  obtain rfl := h4.intInv
  exact ⟨_, X.min h1 h3 (op_min ..), .fz (.int _ _)⟩
theorem OF.convI {kk kk' : IntKind} {a : Int} (hx : VEv E x (.int kk a)) {k0 : IntKind} (hs : P.underlying s = some (.int k0)) (ht : P.underlying tt = some (.int kk')) : OF call P E ⟨d, .convert s tt x, ty, ps, af, g⟩ (.int kk' (kk'.wrap a)) := fun p σ hf nx Ea h he => by
  obtain ⟨v, h1, h2⟩ := hx σ hf nx Ea he
  obtain rfl := h2.intInv
  exact ⟨_, X.convert h1 (by simp only [aconv, hs, ht]), .fz (.int _ _)⟩
/-! ### what is made -/
/-- The cells of a tree. -/
def tcells : T → List T
  | .agg ts => ts
  | t => [t]
theorem V.cells {σ : Nat → Option Nat} {hf : AH} {nx : Nat} {v : Value} (h : V σ hf nx t v) (ht : t ≠ .any) : VL σ hf nx (tcells t) v.cells.toList := by
  have one : ∀ (t : T) (v : Value), V σ hf nx t v → tcells t = [t] → v.cells.toList = [v] → VL σ hf nx (tcells t) v.cells.toList := fun t v h e1 e2 => by
    rw [e1, e2]
    exact .cons h (.nil _ _ _)
  cases h with
  | any v => exact absurd rfl ht
  | fz hr =>
    have h0 : V σ hf nx t v := .fz hr
    cases hr with
    | agg ts vs hs h =>
      obtain ⟨l, e, h1⟩ := h0.aggL
      cases e
      simpa [tcells, Value.cells] using h1
    | bool b => exact one _ _ h0 rfl rfl
    | int k n => exact one _ _ h0 rfl rfl
    | str s => exact one _ _ h0 rfl rfl
    | ptr0 => exact one _ _ h0 rfl rfl
    | fn0 => exact one _ _ h0 rfl rfl
    | nils => exact one _ _ h0 rfl rfl
    | tup ts vs hs h => exact one _ _ h0 rfl rfl
    | fn f ts vs hs h => exact one _ _ h0 rfl rfl
    | sl0 sz => exact one _ _ h0 rfl rfl
    | sle sz a o m => exact one _ _ h0 rfl rfl
    | sl sz rows o m hm hk hes hlen hfit h => exact one _ _ h0 rfl rfl
    | rp ts o hk hfit h => exact one _ _ h0 rfl rfl
  | os sz k lo n m hk hs hm => exact one _ _ (.os sz k lo n m hk hs hm) rfl rfl
  | os0 sz k hk hs => exact one _ _ (.os0 sz k hk hs) rfl rfl
  | ose sz k a o hk hs => exact one _ _ (.ose sz k a o hk hs) rfl rfl
  | op k o hk hs => exact one _ _ (.op k o hk hs) rfl rfl
  | orp sz k i o hk hs => exact one _ _ (.orp sz k i o hk hs) rfl rfl
  | om k hk hs => exact one _ _ (.om k hk hs) rfl rfl
  | agg ts vs hs h =>
    obtain ⟨l, e, h1⟩ := (V.agg ts vs hs h).aggL
    cases e
    simpa [tcells, Value.cells] using h1
  | tup ts vs hs h => exact one _ _ (.tup ts vs hs h) rfl rfl
  | fn f ts vs hs h => exact one _ _ (.fn f ts vs hs h) rfl rfl
theorem σnew {σ : Nat → Option Nat} {nx : Nat} (oa : Option Nat) : ∀ k, k < nx → (fun k => if k = nx then oa else σ k) k = σ k := fun k hk => if_neg (by omega)
theorem OM.box {xt : TypeId} (hx : VEv E x t) (ht : t ≠ .any) : OM call P E nx ⟨d, .box xt x, ty, ps, af, g⟩ (.op nx 0) (.cells (tcells t)) := fun q σ hf Ea he => by
  obtain ⟨v, h1, h2⟩ := hx σ hf nx Ea he
  refine ⟨.pointer (some ⟨tokOf q, 0, none⟩), .cells 0 v.cells.toList, some (tokOf q), [tokOf q], fun h => X.box h1 rfl, .inl ⟨rfl, rfl⟩, .op nx 0 (by omega) (by simp), fun h => .cells (AH.upd_same _ _ _) (tok_odd _) ?_⟩
  exact (h2.cells ht).mono (fun _ _ e => e) (by omega) (σnew _)
theorem OM.alloc {v : Value} (hz : zeroOf P tt = some v) (hcl : closedV v = true) (ht : t ≠ .any) (hv : ∀ hf, R hf t v) : OM call P E nx ⟨d, .alloc tt, ty, ps, af, g⟩ (.op nx 0) (.cells (tcells t)) := fun q σ hf Ea he =>
  ⟨.pointer (some ⟨tokOf q, 0, none⟩), .cells 0 v.cells.toList, some (tokOf q), [tokOf q], fun h => X.alloc hz hcl rfl, .inl ⟨rfl, rfl⟩, .op nx 0 (by omega) (by simp), fun h => .cells (AH.upd_same _ _ _) (tok_odd _) (V.cells (.fz (hv hf)) ht)⟩
/-! ### looks -/
theorem SR.objAt {p : Nat} {h0 : LB} {hf h : AH} {σ own : Nat → Option Nat} {Ea : Nat → Value} {k : Nat} {o : Obj} (hs : SR p h0 σ hf own E O nx Ea h) (hk : gO O k = some o) : ∃ N, N.Nodup ∧ (∀ a ∈ N, own a = some k) ∧ ObjR σ hf nx h o (σ k) N := (hs.obj k o hk).2
theorem OL.loadR1 {ts : List T} (hx : VEv E x (.rp ts)) (ht : ts[0]? = some t) (hst : isStruct P tt = some false) : OL call P E O ⟨d, .load tt x, ty, ps, af, g⟩ t := fun q p h0 σ hf own nx Ea h hs => by
  obtain ⟨v, h1, h2⟩ := hx σ hf nx Ea hs.env
  obtain ⟨a, o, es, cs, rfl, h3, h4, h5⟩ := h2.rpInv.rpDrop
  have hlt : 0 < ts.length := (List.getElem?_eq_some_iff.1 ht).1
  have h6 := h5 0 hlt
  have hlt' : o < cs.length := by omega
  rw [List.getD_eq_getElem?_getD, ht, Nat.add_zero, List.getD_eq_getElem?_getD, List.getElem?_eq_getElem hlt'] at h6
  exact ⟨cs[o], X.load h1 (aload_one hst (hs.fro _ _ h3).1 (List.getElem?_eq_getElem hlt')), .fz h6⟩
theorem OL.loadRn {ts us : List T} {n : Nat} (hx : VEv E x (.rp ts)) (hst : isStruct P tt = some true) (hn : P.cellsOf tt = n) (hle : n ≤ ts.length) (hu : ts.take n = us) : OL call P E O ⟨d, .load tt x, ty, ps, af, g⟩ (.agg us) := fun q p h0 σ hf own nx Ea h hs => by
  subst hu
  obtain ⟨v, h1, h2⟩ := hx σ hf nx Ea hs.env
  obtain ⟨a, o, es, cs, rfl, h3, h4, h5⟩ := h2.rpInv.rpDrop
  refine ⟨_, X.load h1 (aload_row hst hn (hs.fro _ _ h3).1 (by omega) rfl), .fz (.agg _ _ (by simp; omega) (RLof ⟨by simp; omega, fun i hi => ?_⟩))⟩
  have hi' : i < n := by simp at hi; omega
  have := h5 i (by omega)
  rw [List.getD_eq_getElem?_getD, List.getElem?_take, if_pos hi', ← List.getD_eq_getElem?_getD, List.getD_eq_getElem?_getD (l := List.take _ _), List.getElem?_take, if_pos hi', List.getElem?_drop, ← List.getD_eq_getElem?_getD]
  exact this
theorem OL.loadO1 {ts : List T} {k o : Nat} (hx : VEv E x (.op k o)) (hk : gO O k = some (.cells ts)) (ht : ts[o]? = some t) (hst : isStruct P tt = some false) : OL call P E O ⟨d, .load tt x, ty, ps, af, g⟩ t := fun q p h0 σ hf own nx Ea h hs => by
  obtain ⟨v, h1, h2⟩ := hx σ hf nx Ea hs.env
  obtain ⟨a, rfl, h3, h4⟩ := h2.opInv
  obtain ⟨N, hN1, hN2, h5⟩ := hs.objAt hk
  rw [h3] at h5
  cases h5 with
  | cells hh hodd hv =>
    rename_i es cs
    have hlt : o < ts.length := (List.getElem?_eq_some_iff.1 ht).1
    have hlt' : o < cs.length := by rw [← hv.1]; exact hlt
    have h6 := hv.2 o hlt
    rw [List.getD_eq_getElem?_getD, ht, List.getD_eq_getElem?_getD, List.getElem?_eq_getElem hlt'] at h6
    exact ⟨cs[o], X.load h1 (aload_one hst hh (List.getElem?_eq_getElem hlt')), h6⟩
theorem OL.loadOn {ts us : List T} {k o n : Nat} (hx : VEv E x (.op k o)) (hk : gO O k = some (.cells ts)) (hst : isStruct P tt = some true) (hn : P.cellsOf tt = n) (hle : o + n ≤ ts.length) (hu : (ts.drop o).take n = us) : OL call P E O ⟨d, .load tt x, ty, ps, af, g⟩ (.agg us) := fun q p h0 σ hf own nx Ea h hs => by
  subst hu
  obtain ⟨v, h1, h2⟩ := hx σ hf nx Ea hs.env
  obtain ⟨a, rfl, h3, h4⟩ := h2.opInv
  obtain ⟨N, hN1, hN2, h5⟩ := hs.objAt hk
  rw [h3] at h5
  cases h5 with
  | cells hh hodd hv =>
    rename_i es cs
    have hl := hv.1
    refine ⟨_, X.load h1 (aload_row hst hn hh (by omega) rfl), VL.toAgg ⟨by simp; omega, fun i hi => ?_⟩⟩
    have hi' : i < n := by simp at hi; omega
    have := hv.2 (o + i) (by omega)
    rw [List.getD_eq_getElem?_getD, List.getElem?_take, if_pos hi', List.getElem?_drop, ← List.getD_eq_getElem?_getD, List.getD_eq_getElem?_getD (l := List.take _ _), List.getElem?_take, if_pos hi', List.getElem?_drop, ← List.getD_eq_getElem?_getD]
    exact this
/-- Cells that own nothing. -/
def isFlat : T → Bool
  | .sl true _ _ => false
  | .agg _ => false
  | .tup _ => false
  | .any => false
  | _ => true
theorem S.flat {hf h : AH} {v : Value} {N : List Nat} (hs : S hf h t v N) (hf1 : isFlat t = true) : R hf t v ∧ N = [] := by
  cases hs with
  | fz hr => exact ⟨hr, rfl⟩
  | ow0 sz => simp [isFlat] at hf1
  | owe sz a o => simp [isFlat] at hf1
  | ow => simp [isFlat] at hf1
  | agg => simp [isFlat] at hf1
  | tup => simp [isFlat] at hf1
theorem SL.flat {hf h : AH} : ∀ {ts : List T} {vs : List Value} {N : List Nat}, SL hf h ts vs N → (∀ t ∈ ts, isFlat t = true) → RL hf ts vs ∧ N = []
  | _, _, _, .nil, _ => ⟨RL.nil _, rfl⟩
  | _, _, _, .cons hs hr, hfl => by
    obtain ⟨h1, rfl⟩ := S.flat hs (hfl _ (by simp))
    obtain ⟨h2, rfl⟩ := SL.flat hr (fun t ht => hfl t (by simp [ht]))
    exact ⟨RL.cons h1 h2, rfl⟩
theorem RL.toSL {hf h : AH} : ∀ {ts : List T} {vs : List Value}, RL hf ts vs → SL hf h ts vs []
  | [], [], _ => .nil
  | [], _ :: _, hr => by cases hr.1
  | _ :: _, [], hr => by cases hr.1
  | t :: ts, v :: vs, hr => by
    obtain ⟨h1, h2⟩ := hr.tail
    exact SL.cons (N := []) (M := []) (.fz h1) (RL.toSL h2)
theorem SL.at {hf h : AH} : ∀ {ts : List T} {vs : List Value} {N : List Nat}, SL hf h ts vs N → ∀ i, i < ts.length → ∃ M, S hf h (ts.getD i .any) (vs.getD i undef) M ∧ ∀ a ∈ M, a ∈ N
  | _, _, _, .nil, i, hi => by simp at hi
  | _, _, _, .cons hs hr, i, hi => by
    cases i with
    | zero => exact ⟨_, hs, fun a ha => by simp [ha]⟩
    | succ i =>
      obtain ⟨M, h1, h2⟩ := SL.at hr i (by simpa using hi)
      exact ⟨M, by simpa using h1, fun a ha => by simp [h2 a ha]⟩
theorem OL.loadP1 {sz k i o : Nat} {rows : List (List T)} {row : List T} (hx : VEv E x (.orp sz k i o)) (hk : gO O k = some (.rows sz rows)) (hi : rows[i]? = some row) (ht : row[o]? = some t) (hfl : isFlat t = true) (hst : isStruct P tt = some false) : OL call P E O ⟨d, .load tt x, ty, ps, af, g⟩ t := fun q p h0 σ hf own nx Ea h hs => by
  obtain ⟨v, h1, h2⟩ := hx σ hf nx Ea hs.env
  obtain ⟨a, rfl, h3, h4⟩ := h2.orpInv
  obtain ⟨N, hN1, hN2, h5⟩ := hs.objAt hk
  rw [h3] at h5
  cases h5 with
  | rows hh hodd hlen hfit hsl =>
    rename_i cs N
    have hlt : i < rows.length := (List.getElem?_eq_some_iff.1 hi).1
    have hrow : row.length = sz := hlen row (List.mem_of_getElem? hi)
    have ho : o < sz := by rw [← hrow]; exact (List.getElem?_eq_some_iff.1 ht).1
    have hf1 := row_fit (sz := sz) hlt
    obtain ⟨M, h6, _⟩ := hsl.at (i * sz + o) (by rw [flatten_len hlen]; omega)
    rw [flatten_getD hlen hi ho, List.getD_eq_getElem?_getD, ht, Option.getD_some, List.getD_eq_getElem?_getD, List.getElem?_take, if_pos (by omega), List.getElem?_eq_getElem (by omega), Option.getD_some] at h6
    exact ⟨_, X.load h1 (aload_one hst hh (List.getElem?_eq_getElem (by omega))), .fz (h6.flat hfl).1⟩
theorem OL.loadPn {sz k i o n : Nat} {rows : List (List T)} {row us : List T} (hx : VEv E x (.orp sz k i o)) (hk : gO O k = some (.rows sz rows)) (hi : rows[i]? = some row) (hst : isStruct P tt = some true) (hn : P.cellsOf tt = n) (hle : o + n ≤ sz) (hu : (row.drop o).take n = us) (hfl : ∀ t ∈ us, isFlat t = true) : OL call P E O ⟨d, .load tt x, ty, ps, af, g⟩ (.agg us) := fun q p h0 σ hf own nx Ea h hs => by
  obtain ⟨v, h1, h2⟩ := hx σ hf nx Ea hs.env
  obtain ⟨a, rfl, h3, h4⟩ := h2.orpInv
  obtain ⟨N, hN1, hN2, h5⟩ := hs.objAt hk
  rw [h3] at h5
  cases h5 with
  | rows hh hodd hlen hfit hsl =>
    rename_i cs N
    have hlt : i < rows.length := (List.getElem?_eq_some_iff.1 hi).1
    have hrow : row.length = sz := hlen row (List.mem_of_getElem? hi)
    have hf1 := row_fit (sz := sz) hlt
    have hus : us.length = n := by rw [← hu]; simp; omega
    refine ⟨_, X.load h1 (aload_row hst hn hh (by omega) rfl), .fz (.agg _ _ (by simp; omega) (RLof ⟨by simp; omega, fun j hj => ?_⟩))⟩
    obtain ⟨M, h6, _⟩ := hsl.at (i * sz + (o + j)) (by rw [flatten_len hlen]; omega)
    have e1 : us.getD j .any = row.getD (o + j) .any := by
      rw [← hu, List.getD_eq_getElem?_getD, List.getElem?_take, if_pos (by omega), List.getElem?_drop, ← List.getD_eq_getElem?_getD]
    rw [flatten_getD hlen hi (by omega), ← e1, List.getD_eq_getElem?_getD (l := List.take _ _), List.getElem?_take, if_pos (by omega), ← List.getD_eq_getElem?_getD] at h6
    have hm : us.getD j .any ∈ us := by
      rw [List.getD_eq_getElem?_getD, List.getElem?_eq_getElem hj]
      exact List.getElem_mem hj
    have := (h6.flat (hfl _ hm)).1
    rw [List.getD_eq_getElem?_getD (l := List.take _ _), List.getElem?_take, if_pos (by omega), List.getElem?_drop, ← List.getD_eq_getElem?_getD, Nat.add_assoc]
    exact this
theorem OL.lenS {st : ByteArray} (hx : VEv E x (.str st)) (hu : P.underlying tt = some .string) : OL call P E O ⟨d, .call ⟨.builtin .len, #[x], #[tt]⟩, ty, ps, af, g⟩ (.int .i64 st.size) := fun q p h0 σ hf own nx Ea h hs => by
  obtain ⟨v, h1, h2⟩ := hx σ hf nx Ea hs.env
  obtain rfl := h2.strInv
  exact ⟨_, X.len h1 (alen_str hu), .fz (.int _ _)⟩
theorem OL.lenR {sz : Nat} {rows : List (List T)} (hx : VEv E x (.sl false sz rows)) (hu : P.underlying tt = some (.slice e)) : OL call P E O ⟨d, .call ⟨.builtin .len, #[x], #[tt]⟩, ty, ps, af, g⟩ (.int .i64 rows.length) := fun q p h0 σ hf own nx Ea h hs => by
  obtain ⟨v, h1, h2⟩ := hx σ hf nx Ea hs.env
  have hr := h2.slInv
  generalize hT : T.sl false sz rows = tr at hr
  cases hr <;> cases hT
  · exact ⟨_, X.len h1 (alen_sl hu), .fz (.int _ _)⟩
  · exact ⟨_, X.len h1 (alen_sl hu), .fz (.int _ _)⟩
  · exact ⟨_, X.len h1 (alen_sl hu), .fz (.int _ _)⟩
theorem OL.lenN (hx : VEv E x .nils) (hu : P.underlying tt = some (.slice e)) : OL call P E O ⟨d, .call ⟨.builtin .len, #[x], #[tt]⟩, ty, ps, af, g⟩ (.int .i64 (0 : Nat)) := fun q p h0 σ hf own nx Ea h hs => by
  obtain ⟨v, h1, h2⟩ := hx σ hf nx Ea hs.env
  obtain rfl := h2.nilsInv
  exact ⟨_, X.len h1 (alen_sl hu), .fz (.int _ _)⟩
theorem OL.lenO {sz k lo n : Nat} (hx : VEv E x (.os sz k lo n)) (hu : P.underlying tt = some (.slice e)) : OL call P E O ⟨d, .call ⟨.builtin .len, #[x], #[tt]⟩, ty, ps, af, g⟩ (.int .i64 n) := fun q p h0 σ hf own nx Ea h hs => by
  obtain ⟨v, h1, h2⟩ := hx σ hf nx Ea hs.env
  obtain ⟨_, ⟨a, m, rfl, _⟩ | ⟨_, _, rfl, rfl | ⟨a, o, rfl⟩⟩⟩ := h2.osInv
  · exact ⟨_, X.len h1 (alen_sl hu), .fz (.int _ _)⟩
  · exact ⟨_, X.len h1 (alen_sl hu), .fz (.int _ _)⟩
  · exact ⟨_, X.len h1 (alen_sl hu), .fz (.int _ _)⟩
end
end Go.Proofs.Ythdnjihmjdbdkaa.AE
