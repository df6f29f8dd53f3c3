/- One word for each kind of operation: what the abstract evaluator gives. Conditions: none. -/
import Derived.Test.YthdnjihmjdbdkaaAeUser
namespace Go.Proofs.Ythdnjihmjdbdkaa.AE
open Go Go.RowKit
set_option linter.unusedVariables false
set_option linter.unusedSimpArgs false
theorem Dom.re (p t : Nat) (h : AH) (a : AObj) (o : Option AObj) : Dom p (h.upd t (some a)) (h.upd t o) := fun u hu => by
  unfold AH.upd at hu ⊢
  by_cases e : u = t
  · rw [if_pos e]; exact .inl (by simp)
  · rw [if_neg e] at hu ⊢; exact .inl hu
section
variable {call : CallT} {P : Program} {p : Nat} {E : Nat → Value} {h h' : AH} {d : Option Tmp} {ty t s e : TypeId} {ps : String} {af : Array Edge} {g : Option (Nat × Bool)} {x y z : Operand} {u v w : Value} {k o es : Nat} {cs l : List Value}
theorem evo_tmp (a : Tmp) : evo E (.tmp a) = some (E a) := rfl
theorem evo_const {c : Value} (hc : closedV c = true) : evo E (.const c) = some c := by simp only [evo, hc, if_true]
theorem X.move (hx : evo E x = some v) : aexec call P p E h ⟨d, .move x, ty, ps, af, g⟩ = some (v, h) := by simp only [aexec, aop, hx, Option.map_some]
theorem X.assign (hx : evo E x = some v) : aexec call P p E h ⟨d, .assign x, ty, ps, af, g⟩ = some (v, h) := by simp only [aexec, aop, hx, Option.map_some]
theorem X.pickT (hc : evo E x = some (.bool true)) (hy : evo E y = some v) : aexec call P p E h ⟨d, .pick x y z, ty, ps, af, g⟩ = some (v, h) := by simp only [aexec, aop, hc, hy, Option.map_some]
theorem X.pickF (hc : evo E x = some (.bool false)) (hz : evo E z = some v) : aexec call P p E h ⟨d, .pick x y z, ty, ps, af, g⟩ = some (v, h) := by simp only [aexec, aop, hc, hz, Option.map_some]
theorem X.box (hx : evo E x = some v) (hc : v.cells.toList = cs) : aexec call P p E h ⟨d, .box t x, ty, ps, af, g⟩ = some (.pointer (some ⟨tokOf p, 0, none⟩), h.upd (tokOf p) (some (.cells 0 cs))) := by
  subst hc
  simp only [aexec, aop, hx, Option.map_some, abox]
theorem X.alloc (hz : zeroOf P t = some v) (hcl : closedV v = true) (hc : v.cells.toList = cs) : aexec call P p E h ⟨d, .alloc t, ty, ps, af, g⟩ = some (.pointer (some ⟨tokOf p, 0, none⟩), h.upd (tokOf p) (some (.cells 0 cs))) := by
  subst hc
  simp only [aexec, aop, hz, hcl, if_true, abox]
theorem X.load (hx : evo E x = some u) (hl : aload P t h u = some v) : aexec call P p E h ⟨d, .load t x, ty, ps, af, g⟩ = some (v, h) := by simp only [aexec, aop, hx, hl, Option.map_some]
theorem aload_one (hst : isStruct P t = some false) (hk : h k = some (.cells es cs)) (hv : cs[o]? = some v) : aload P t h (.pointer (some ⟨k, o, none⟩)) = some v := by simp only [aload, hk, hst, hv]
theorem aload_row {n : Nat} (hst : isStruct P t = some true) (hn : P.cellsOf t = n) (hk : h k = some (.cells es cs)) (hle : o + n ≤ cs.length) (hl : (cs.drop o).take n = l) : aload P t h (.pointer (some ⟨k, o, none⟩)) = some (.agg l.toArray) := by
  subst hl
  subst hn
  simp only [aload, hk, hst, hle, if_true]
theorem X.store (hx : evo E x = some u) (hy : evo E y = some v) (hs : astore P t h u v = some h') : aexec call P p E h ⟨d, .store t x y, ty, ps, af, g⟩ = some (undef, h') := by simp only [aexec, aop, hx, hy, hs, Option.map_some]
theorem astore_at {n : Nat} (hodd : k % 2 = 1) (hk : h k = some (.cells es cs)) (hi : (P.info? t).isSome = true) (hn : P.cellsOf t = n) (hc : v.cells.toList = l) (hl : l.length = n) (hle : o + l.length ≤ cs.length) (ho : ∀ a ∈ l, a.oneCell' = true) : astore P t h (.pointer (some ⟨k, o, none⟩)) v = some (h.upd k (some (.cells es (splice cs o l)))) := by
  subst hc
  have h1 : v.cells.size = P.cellsOf t := by rw [hn, ← hl]; simp
  have h2 : o + v.cells.size ≤ cs.length := by simpa using hle
  have h3 : v.cells.all (·.oneCell') = true := by
    rw [← Array.all_toList]
    exact List.all_eq_true.2 ho
  simp only [astore, hodd, hk, hi, h1, if_true]
  rw [← h1, if_pos ⟨trivial, trivial, h2, h3⟩]
/-- A store into a row that is written out. -/
theorem astore_lit {n : Nat} {cs' : List Value} {h'' : AH} (hodd : k % 2 = 1) (hk : h k = some (.cells es cs)) (hi : (P.info? t).isSome = true) (hn : P.cellsOf t = n) (hc : v.cells.toList = l) (hl : l.length = n) (hle : o + l.length ≤ cs.length) (ho : ∀ a ∈ l, a.oneCell' = true) (hsp : splice cs o l = cs') (hh : h.upd k (some (.cells es cs')) = h'') : astore P t h (.pointer (some ⟨k, o, none⟩)) v = some h'' := by
  subst hsp
  subst hh
  exact astore_at hodd hk hi hn hc hl hle ho
theorem ares_nil : ares P h E [] = some [] := rfl
theorem ares_tmp {a : Tmp} {r : List ResultVar} (ha : evo E (.tmp a) = some v) (hr : ares P h E r = some l) : ares P h E (.tmp a :: r) = some (v :: l) := by
  obtain rfl := Option.some.inj ha
  simp only [ares, hr, Option.map_some]
theorem ares_cell {a : Tmp} {r : List ResultVar} (ha : evo E (.tmp a) = some u) (hl : aload P t h u = some v) (hr : ares P h E r = some l) : ares P h E (.cell a t :: r) = some (v :: l) := by
  obtain rfl := Option.some.inj ha
  simp only [ares, hl, hr]
theorem X.nilCheck (hx : evo E x = some (.pointer (some ⟨k, o, none⟩))) : aexec call P p E h ⟨d, .nilCheck x, ty, ps, af, g⟩ = some (.pointer (some ⟨k, o, none⟩), h) := by simp only [aexec, aop, hx]
theorem X.bin {op : BinOp} {xt : TypeId} (hx : evo E x = some u) (hy : evo E y = some v) (hb : abop P op t x y u v = some w) : aexec call P p E h ⟨d, .binOp op t x y xt, ty, ps, af, g⟩ = some (w, h) := by simp only [aexec, aop, hx, hy, hb, Option.map_some]
theorem X.un {op : UnOp} {xt : TypeId} (hx : evo E x = some u) (hb : aun P op u = some w) : aexec call P p E h ⟨d, .unOp op xt x, ty, ps, af, g⟩ = some (w, h) := by simp only [aexec, aop, hx, hb, Option.map_some]
theorem X.fieldAddr {f : Nat} (hx : evo E x = some u) (hb : afieldAddr P t u f = some w) : aexec call P p E h ⟨d, .fieldAddr t x f, ty, ps, af, g⟩ = some (w, h) := by simp only [aexec, aop, hx, hb, Option.map_some]
theorem X.field {f : Nat} (hx : evo E x = some u) (hb : afield P t u f = some w) : aexec call P p E h ⟨d, .field t x f, ty, ps, af, g⟩ = some (w, h) := by simp only [aexec, aop, hx, hb, Option.map_some]
theorem X.indexAddr (hx : evo E x = some u) (hy : evo E y = some v) (hb : aindexAddr P t u v = some w) : aexec call P p E h ⟨d, .indexAddr t x y, ty, ps, af, g⟩ = some (w, h) := by simp only [aexec, aop, hx, hy, hb, Option.map_some]
theorem X.index (hx : evo E x = some u) (hy : evo E y = some v) (hb : aindex P t u v = some w) : aexec call P p E h ⟨d, .index t x y, ty, ps, af, g⟩ = some (w, h) := by simp only [aexec, aop, hx, hy, hb, Option.map_some]
theorem X.extract {i : Nat} (hx : evo E x = some u) (hb : aextract u i = some w) : aexec call P p E h ⟨d, .extract x i, ty, ps, af, g⟩ = some (w, h) := by simp only [aexec, aop, hx, hb, Option.map_some]
theorem X.len (hx : evo E x = some u) (hl : alen P t h u = some w) : aexec call P p E h ⟨d, .call ⟨.builtin .len, #[x], #[t]⟩, ty, ps, af, g⟩ = some (w, h) := by simp only [aexec, aop, acall1, evs, hx, hl, Option.map_some]
theorem X.max (hx : evo E x = some u) (hy : evo E y = some v) {ts : Array TypeId} (hm : amm P true [u, v] = some w) : aexec call P p E h ⟨d, .call ⟨.builtin .max, #[x, y], ts⟩, ty, ps, af, g⟩ = some (w, h) := by simp only [aexec, aop, acall1, evs, hx, hy, hm, Option.map_some]
theorem X.min (hx : evo E x = some u) (hy : evo E y = some v) {ts : Array TypeId} (hm : amm P false [u, v] = some w) : aexec call P p E h ⟨d, .call ⟨.builtin .min, #[x, y], ts⟩, ty, ps, af, g⟩ = some (w, h) := by simp only [aexec, aop, acall1, evs, hx, hy, hm, Option.map_some]
theorem X.append {xt : TypeId} (hx : evo E x = some u) (hy : evo E y = some v) (ha : aappend P p t xt h u v = some (.val w h')) : aexec call P p E h ⟨d, .call ⟨.builtin .append, #[x, y], #[t, xt]⟩, ty, ps, af, g⟩ = some (w, h') := by simp only [aexec, aop, acall1, evs, hx, hy, ha]
theorem X.slice0 {hi : Option Operand} (hx : evo E x = some u) (hs : aslice P t h u none none = some w) : aexec call P p E h ⟨d, .slice t x none none none, ty, ps, af, g⟩ = some (w, h) := by simp only [aexec, aop, hx, hs, Option.map_some]
theorem X.sliceLo (hx : evo E x = some u) (hy : evo E y = some v) (hs : aslice P t h u (some v) none = some w) : aexec call P p E h ⟨d, .slice t x (some y) none none, ty, ps, af, g⟩ = some (w, h) := by simp only [aexec, aop, hx, hy, hs, Option.map_some]
theorem X.sliceHi (hx : evo E x = some u) (hy : evo E y = some v) (hs : aslice P t h u none (some v) = some w) : aexec call P p E h ⟨d, .slice t x none (some y) none, ty, ps, af, g⟩ = some (w, h) := by simp only [aexec, aop, hx, hy, hs, Option.map_some]
theorem X.sliceBoth {a b : Value} (hx : evo E x = some u) (hy : evo E y = some a) (hz : evo E z = some b) (hs : aslice P t h u (some a) (some b) = some w) : aexec call P p E h ⟨d, .slice t x (some y) (some z) none, ty, ps, af, g⟩ = some (w, h) := by simp only [aexec, aop, hx, hy, hz, hs, Option.map_some]
theorem X.makeSlice (hx : evo E x = some u) (hy : evo E y = some v) (ha : amake P p t h u v = some (.val w h')) : aexec call P p E h ⟨d, .makeSlice t x y, ty, ps, af, g⟩ = some (w, h') := by simp only [aexec, aop, hx, hy, ha]
theorem X.build {pp : Array (Nat × Operand)} {q : List (Nat × Value)} (hp : evp E pp.toList = some q) (hb : abuild P t q = some w) : aexec call P p E h ⟨d, .build t pp, ty, ps, af, g⟩ = some (w, h) := by simp only [aexec, aop, hp, hb, Option.map_some]
theorem X.buildSlice {n : Nat} {pp : Array (Nat × Operand)} {q : List (Nat × Value)} (hp : evp E pp.toList = some q) (hb : abuildSlice P p t n h q = some (.val w h')) : aexec call P p E h ⟨d, .buildSlice t n pp, ty, ps, af, g⟩ = some (w, h') := by simp only [aexec, aop, hp, hb]
theorem X.convert (hx : evo E x = some u) (hb : aconv P p s t h u = some (.val w h')) : aexec call P p E h ⟨d, .convert s t x, ty, ps, af, g⟩ = some (w, h') := by simp only [aexec, aop, hx, hb]
theorem X.makeFunc {f : FuncId} {cp : Array Operand} (hl : evs E cp.toList = some l) : aexec call P p E h ⟨d, .makeFunc (.func f) #[] cp, ty, ps, af, g⟩ = some (.func (.func f) #[] l.toArray, h) := by simp [aexec, aop, hl]
theorem X.lookup {ok : Bool} (hx : evo E x = some u) (hy : evo E y = some v) (hb : alookup P t h u v ok = some w) : aexec call P p E h ⟨d, .lookup t x y ok, ty, ps, af, g⟩ = some (w, h) := by simp only [aexec, aop, hx, hy, hb, Option.map_some]
theorem X.mapUpdate {a b c : Value} {m : Operand} (hm : evo E m = some a) (hx : evo E x = some b) (hy : evo E y = some c) (hb : amapset P t h a b c = some h') : aexec call P p E h ⟨d, .mapUpdate t m x y, ty, ps, af, g⟩ = some (undef, h') := by simp only [aexec, aop, hm, hx, hy, hb, Option.map_some]
theorem X.makeMap : aexec call P p E h ⟨d, .makeMap t none, ty, ps, af, g⟩ = some (.map (some (tokOf p)), h.upd (tokOf p) (some (.map []))) := by simp only [aexec, aop]
/-- A call of a function that is named. -/
theorem X.calls {f : FuncId} {args : Array Operand} {ts : Array TypeId} (hb : hasBody P f = true) (ha : evs E args.toList = some l) : aop P p E h ⟨d, .call ⟨.value (.func f), args, ts⟩, ty, ps, af, g⟩ = some (.enter f l) := by simp [aop, acall1, evo, ha, hb]
/-- A call of a function value. -/
theorem X.callv {f : FuncId} {a : Tmp} {caps : Array Value} {args : Array Operand} {ts : Array TypeId} (hf : E a = .func (.func f) #[] caps) (hb : hasBody P f = true) (ha : evs E args.toList = some l) : aop P p E h ⟨d, .call ⟨.value (.tmp a), args, ts⟩, ty, ps, af, g⟩ = some (.enter f (l ++ caps.toList)) := by simp [aop, acall1, evo, hf, ha, hb]
theorem alen_sl {a : Option Addr} {n m : Nat} (hu : P.underlying t = some (.slice e)) : alen P t h (.slice a n m) = some (.int .i64 n) := by simp only [alen, hu]
theorem alen_str {st : ByteArray} (hu : P.underlying t = some .string) : alen P t h (.string st) = some (.int .i64 st.size) := by simp only [alen, hu]
theorem X.pickS {b : Bool} {v1 v2 : Value} (hc : evo E x = some (.bool b)) (hy : evo E y = some v1) (hz : evo E z = some v2) : aexec call P p E h ⟨d, .pick x y z, ty, ps, af, g⟩ = some (if b then v1 else v2, h) := by
  cases b
  · exact X.pickF hc hz
  · exact X.pickT hc hy
theorem evs_nil : evs E [] = some [] := rfl
theorem evs_cons {r : List Operand} (hx : evo E x = some v) (hr : evs E r = some l) : evs E (x :: r) = some (v :: l) := by simp only [evs, hx, hr]
theorem evp_nil : evp E [] = some [] := rfl
theorem evp_cons {i : Nat} {r : List (Nat × Operand)} {q : List (Nat × Value)} (hx : evo E x = some v) (hr : evp E r = some q) : evp E ((i, x) :: r) = some ((i, v) :: q) := by simp only [evp, hx, hr]
/-! ### operations that are done only if an earlier one said so -/
theorem awant_t {ops : Array Oper} {op : Op} {j : Nat} {q : Tmp} {w b : Bool} (hd : (ops[j]?).bind (·.dst) = some q) (he : evo E (.tmp q) = some (.bool b)) (hb : (b == w) = true) : awant ops E ⟨d, op, ty, ps, af, some (j, w)⟩ = true := by
  have h1 : E q = .bool b := Option.some.inj he
  simp only [awant, hd, h1, hb]
theorem awant_f {ops : Array Oper} {op : Op} {j : Nat} {q : Tmp} {w b : Bool} (hd : (ops[j]?).bind (·.dst) = some q) (he : evo E (.tmp q) = some (.bool b)) (hb : (b == w) = false) : awant ops E ⟨d, op, ty, ps, af, some (j, w)⟩ = false := by
  have h1 : E q = .bool b := Option.some.inj he
  simp only [awant, hd, h1, hb]
/-- The earlier one was not done. -/
theorem awant_u {ops : Array Oper} {op : Op} {j : Nat} {q : Tmp} {w : Bool} (hd : (ops[j]?).bind (·.dst) = some q) (he : evo E (.tmp q) = some undef) : awant ops E ⟨d, op, ty, ps, af, some (j, w)⟩ = false := by
  have h1 : E q = undef := Option.some.inj he
  simp only [awant, hd, h1, undef]
theorem RunO.gOff {ops : Array Oper} {op : Op} {r : List Oper} {π c i i' : Nat} {K : (Nat → Value) → AH → Prop} (hi : i + 1 = i') (hw : awant ops E ⟨d, op, ty, ps, af, g⟩ = false) (hk : RunO call P π ops c r i' (putE E d undef) h K) : RunO call P π ops c (⟨d, op, ty, ps, af, g⟩ :: r) i E h K := RunO.off hi hw hk
theorem RunD.gOff {ops : Array Oper} {op : Op} {r : List Oper} {π c i i' : Nat} {B : List (List Nat)} {base C : AH} {al : List (Nat × AObj)} {fl : List Nat} {D : (Nat → Value) → AH → List (Nat × AObj) → List Nat → Prop} (hi : i + 1 = i') (hw : awant ops E ⟨d, op, ty, ps, af, g⟩ = false) (hk : RunD call P π c ops B base r i' (putE E d undef) C al fl D) : RunD call P π c ops B base (⟨d, op, ty, ps, af, g⟩ :: r) i E C al fl D := RunD.off hi hw hk
/-- The word of an earlier operation, either way. -/
theorem bool_way {p : Prop} (b : Bool) (ht : b = true → p) (hf : b = false → p) : p := by
  cases b
  · exact hf rfl
  · exact ht rfl
end
end Go.Proofs.Ythdnjihmjdbdkaa.AE
