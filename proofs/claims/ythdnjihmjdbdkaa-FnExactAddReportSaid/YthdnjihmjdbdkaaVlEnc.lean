/- Typed data as trees. Conditions: none. -/
import Derived.Test.YthdnjihmjdbdkaaVlFn
namespace Go.Proofs.Ythdnjihmjdbdkaa.AE
open Go Go.RowKit
set_option linter.unusedVariables false
set_option linter.unusedSimpArgs false
/-- How a type's data lie in cells: m tells whether what is held is owned. -/
structure EncOk {α : Type} (e : Bool → α → List T) (sz : Nat) : Prop where
  len : ∀ m x, (e m x).length = sz
  cl : ∀ x, ∀ t ∈ e true x, Clean t
  fz : ∀ m x, fzL (e m x) = e false x
  ok : ∀ m x, ∀ t ∈ e m x, okCell t = true
  pl : ∀ x, ∀ t ∈ e false x, isPl t = true
def eInt (m : Bool) (n : Int) : List T := [.int .i64 n]
def eByte (m : Bool) (n : Int) : List T := [.int .u8 n]
def eBool (m : Bool) (b : Bool) : List T := [.bool b]
def eStr (m : Bool) (s : ByteArray) : List T := [.str s]
def eSl {α : Type} (sz : Nat) (e : Bool → α → List T) (m : Bool) (l : List α) : List T := [.sl m sz (l.map (e m))]
theorem okInt : EncOk eInt 1 := ⟨fun _ _ => rfl, by simp [eInt, Clean.int], fun _ _ => rfl, by simp [eInt, okCell], by simp [eInt, isPl]⟩
theorem okByte : EncOk eByte 1 := ⟨fun _ _ => rfl, by simp [eByte, Clean.int], fun _ _ => rfl, by simp [eByte, okCell], by simp [eByte, isPl]⟩
theorem okBool : EncOk eBool 1 := ⟨fun _ _ => rfl, by simp [eBool, Clean.bool], fun _ _ => rfl, by simp [eBool, okCell], by simp [eBool, isPl]⟩
theorem okStr : EncOk eStr 1 := ⟨fun _ _ => rfl, by simp [eStr, Clean.str], fun _ _ => rfl, by simp [eStr, okCell], by simp [eStr, isPl]⟩
theorem EncOk.fzMap {α : Type} {e : Bool → α → List T} {sz : Nat} (h : EncOk e sz) (m : Bool) (l : List α) : fzLL (l.map (e m)) = l.map (e false) := by
  rw [fzLL_map, List.map_map]
  exact List.map_congr_left fun x _ => h.fz m x
theorem EncOk.cleanMap {α : Type} {e : Bool → α → List T} {sz : Nat} (h : EncOk e sz) (l : List α) : ∀ r ∈ l.map (e true), ∀ t ∈ r, Clean t := fun r hr t ht => by
  obtain ⟨x, _, rfl⟩ := List.mem_map.1 hr
  exact h.cl x t ht
theorem EncOk.okMap {α : Type} {e : Bool → α → List T} {sz : Nat} (h : EncOk e sz) (m : Bool) (l : List α) : ∀ r ∈ l.map (e m), ∀ t ∈ r, okCell t = true := fun r hr t ht => by
  obtain ⟨x, _, rfl⟩ := List.mem_map.1 hr
  exact h.ok m x t ht
theorem EncOk.lenMap {α : Type} {e : Bool → α → List T} {sz : Nat} (h : EncOk e sz) (m : Bool) (l : List α) : ∀ r ∈ l.map (e m), r.length = sz := fun r hr => by
  obtain ⟨x, _, rfl⟩ := List.mem_map.1 hr
  exact h.len m x
theorem isPl_flat {t : T} (h : isPl t = true) : isFlat t = true := by
  cases t <;> first | rfl | (simp [isPl] at h; done) | skip
  rename_i b _ _
  cases b <;> first | rfl | simp [isPl] at h
theorem EncOk.flatMap {α : Type} {e : Bool → α → List T} {sz : Nat} (h : EncOk e sz) (l : List α) : ∀ r ∈ l.map (e false), ∀ t ∈ r, isFlat t = true := fun r hr t ht => by
  obtain ⟨x, _, rfl⟩ := List.mem_map.1 hr
  exact isPl_flat (h.pl x t ht)
theorem okSl {α : Type} {e : Bool → α → List T} {sz : Nat} (h : EncOk e sz) : EncOk (eSl sz e) 1 := by
  refine ⟨fun _ _ => rfl, fun x t ht => ?_, fun m x => ?_, fun m x t ht => ?_, fun x t ht => ?_⟩
  · obtain rfl := List.mem_singleton.1 ht
    exact .sl sz _ (h.cleanMap x)
  · simp only [eSl, fzL, AE.fz, h.fzMap]
  · obtain rfl := List.mem_singleton.1 ht
    rfl
  · obtain rfl := List.mem_singleton.1 ht
    rfl
theorem map_at {α β : Type} {l : List α} {i : Nat} {a : α} (f : α → β) (h : l[i]? = some a) : (l.map f)[i]? = some (f a) := by rw [List.getElem?_map, h]; rfl
/-- Flat types: what is held owns nothing. -/
def FlatE {α : Type} (e : Bool → α → List T) : Prop := ∀ m x, e m x = e false x
theorem flInt : FlatE eInt := fun _ _ => rfl
theorem flStr : FlatE eStr := fun _ _ => rfl
theorem flBool : FlatE eBool := fun _ _ => rfl
theorem flByte : FlatE eByte := fun _ _ => rfl
/-! ### short names -/
abbrev tI (n : Int) : T := .int .i64 n
abbrev tN (n : Nat) : T := .int .i64 (n : Int)
abbrev tB (b : Bool) : T := .bool b
abbrev tS (s : ByteArray) : T := .str s
abbrev rd {α : Type} (sz : Nat) (e : Bool → α → List T) (l : List α) : T := .sl false sz (l.map (e false))
/-! ### from what came in -/
def RK {α : Type} (d : AK α) (e : Bool → α → List T) : Prop := ∀ (h : AH) (a : α) (cs : List Value), d.R h a cs → RL h (e false a) cs
theorem rkInt : RK (AK.int .i64) eInt := fun h a cs hr => by
  obtain rfl : cs = _ := hr
  exact RL.cons (.int _ _) (RL.nil _)
theorem rkByte : RK (AK.int .u8) eByte := fun h a cs hr => by
  obtain rfl : cs = _ := hr
  exact RL.cons (.int _ _) (RL.nil _)
theorem rkBool : RK AK.bool eBool := fun h a cs hr => by
  obtain rfl : cs = _ := hr
  exact RL.cons (.bool _) (RL.nil _)
theorem rkStr : RK AK.string eStr := fun h a cs hr => by
  obtain rfl : cs = _ := hr
  exact RL.cons (.str _) (RL.nil _)
theorem RL.append {hf : AH} {ts us : List T} {vs ws : List Value} (h : RL hf ts vs) (h2 : RL hf us ws) : RL hf (ts ++ us) (vs ++ ws) := by
  have := (h.toSL (h := hf)).append (h2.toSL (h := hf))
  rw [List.append_nil] at this
  refine ⟨by simp [h.1, h2.1], fun i hi => ?_⟩
  rcases Nat.lt_or_ge i ts.length with g1 | g1
  · have := h.2 i g1
    rw [List.getD_eq_getElem?_getD, List.getD_eq_getElem?_getD] at this ⊢
    rwa [List.getElem?_append_left g1, List.getElem?_append_left (by rw [← h.1]; exact g1)]
  · rw [List.length_append] at hi
    have := h2.2 (i - ts.length) (by omega)
    rw [List.getD_eq_getElem?_getD, List.getD_eq_getElem?_getD] at this ⊢
    rwa [List.getElem?_append_right g1, List.getElem?_append_right (by rw [← h.1]; exact g1), ← h.1]
theorem rkPair {α β : Type} {d : AK α} {d' : AK β} {e : Bool → α → List T} {e' : Bool → β → List T} (h : RK d e) (h' : RK d' e') : RK (AK.pair d d') (fun m x => e m x.1 ++ e' m x.2) := fun H a cs hr => by
  obtain ⟨c, c', rfl, h1, h2⟩ := hr
  exact RL.append (h H _ _ h1) (h' H _ _ h2)
theorem rkIso {α β : Type} {d : AK α} {f : β → α} {e : Bool → β → List T} {e' : Bool → α → List T} (h : RK d e') (he : ∀ x, e' false (f x) = e false x) : RK (AK.iso d f) e := fun H a cs hr => by
  rw [← he]
  exact h H _ _ hr
theorem slR_R {α : Type} {d : AK α} {e : Bool → α → List T} {sz : Nat} (hk : RK d e) (ho : EncOk e sz) (hsz : d.sz = sz) {h : AH} {l : List α} {v : Value} (hs : SlR d h l v) : R h (.sl false sz (l.map (e false))) v := by
  subst hsz
  rcases hs with ⟨rfl, rfl | ⟨k, o, m, rfl⟩⟩ | ⟨k, o, m, es, arr, rfl, hm, hl, hh, hes, hfit, hrow⟩
  · exact .sl0 _
  · exact .sle _ _ _ _
  · have hlen := ho.lenMap false l
    rw [show l.length = (l.map (e false)).length by simp]
    refine .sl d.sz _ o m hm hh hes hlen (by simpa using hfit) (fun i hi => ?_)
    rw [List.length_map] at hi
    have hsz : 0 < d.sz := by
      rcases Nat.eq_zero_or_pos d.sz with h0 | h0
      · rw [h0] at hi; omega
      · exact h0
    have hq : i / d.sz < l.length := Nat.div_lt_of_lt_mul (by rwa [Nat.mul_comm] at hi)
    have hqq : i / d.sz * d.sz + i % d.sz = i := by rw [Nat.mul_comm]; exact Nat.div_add_mod i d.sz
    have hr := hk h _ _ (hrow _ _ (List.getElem?_eq_getElem hq))
    have e1 := flatten_getD hlen (i := i / d.sz) (j := i % d.sz) (map_at (e false) (List.getElem?_eq_getElem hq)) (Nat.mod_lt _ hsz)
    rw [hqq] at e1
    rw [e1]
    have h2 := hr.2 (i % d.sz) (by rw [ho.len]; exact Nat.mod_lt _ hsz)
    rw [List.getD_eq_getElem?_getD (l := List.take _ _), List.getElem?_take, if_pos (Nat.mod_lt _ hsz), List.getElem?_drop, ← List.getD_eq_getElem?_getD] at h2
    rw [show o + i = o + i / d.sz * d.sz + i % d.sz by omega]
    exact h2
theorem rkSl {α : Type} {d : AK α} {e : Bool → α → List T} {sz : Nat} (hk : RK d e) (ho : EncOk e sz) (hsz : d.sz = sz) : RK (AK.slice d) (eSl sz e) := fun h a cs hr => by
  obtain ⟨v, rfl, hs⟩ := hr
  exact RL.cons (slR_R hk ho hsz hs) (RL.nil _)
/-! ### words for the walks -/
section
variable {call : CallT} {P : Program} {ops : Array Oper} {B : List (List Nat)} {l : List Oper} {E : Env} {O O' Ob OL1 : Objs} {nx nx' nb i i' : Nat} {q : Bool} {al : List (Nat × Nat × Obj)} {fl bi ks : List Nat} {t : T} {obj : Obj} {K : Env → Objs → Nat → Prop} {d : Tmp} {op : Op} {ty : TypeId} {ps : String} {af : Array Edge} {g : Option (Nat × Bool)}
theorem VEv.tmpB {a : Tmp} {b c : Bool} (h : gE E a = .bool b) (hb : b = c) : VEv E (.tmp a) (.bool c) := VEv.tmp (hb ▸ h)
theorem VWant.on {dd : Option Tmp} {j : Nat} {q : Tmp} {w b : Bool} (hd : (ops[j]?).bind (·.dst) = some q) (hq : gE E q = .bool b) (hb : b = w) : VWant ops E ⟨dd, op, ty, ps, af, some (j, w)⟩ true := by
  have := VWant.guard (ops := ops) (E := E) (d := dd) (op := op) (ty := ty) (ps := ps) (af := af) (w := w) hd hq
  rw [hb] at this
  simpa using this
theorem VWant.not {dd : Option Tmp} {j : Nat} {q : Tmp} {w b : Bool} (hd : (ops[j]?).bind (·.dst) = some q) (hq : gE E q = .bool b) (hb : b = !w) : VWant ops E ⟨dd, op, ty, ps, af, some (j, w)⟩ false := by
  have := VWant.guard (ops := ops) (E := E) (d := dd) (op := op) (ty := ty) (ps := ps) (af := af) (w := w) hd hq
  rw [hb] at this
  cases w <;> simpa using this
/-- The earlier one was not done. -/
theorem VWant.undef {dd : Option Tmp} {j : Nat} {q : Tmp} {w : Bool} (hd : (ops[j]?).bind (·.dst) = some q) (hq : gE E q = .tup []) : VWant ops E ⟨dd, op, ty, ps, af, some (j, w)⟩ false := fun σ hf nx Ea he => by
  have h1 := he q
  rw [hq] at h1
  obtain ⟨vs, h2, h3⟩ := h1.tupL
  simp only [awant, hd, h2]
theorem vfin.eq {rs : List ResultVar} {r r' : T} {e : AX} (h : r' = r) (hf : vfin P rs r' e E O nx) : vfin P rs r e E O nx := h ▸ hf
end
section
variable {call : CallT} {P : Program} {ops : Array Oper} {B : List (List Nat)} {l : List Oper} {E : Env} {O O' Ob : Objs} {nx nx' nb i i' : Nat} {q : Bool} {al : List (Nat × Nat × Obj)} {fl ks : List Nat} {t r : T} {K : Env → Objs → Nat → Prop} {d : Option Tmp} {op : Op} {ty : TypeId} {ps : String} {af : Array Edge} {j : Nat} {k : Tmp} {w b b' : Bool} {a : Tmp} {n n' : Int}
theorem oO (hd : (ops[j]?).bind (·.dst) = some k) (hq : gE E k = .bool b) (hb : b = !w) (hk : VRunO call P ops l (pE E d (.tup [])) O nx K) : VRunO call P ops (⟨d, op, ty, ps, af, some (j, w)⟩ :: l) E O nx K := VRunO.off (VWant.not hd hq hb) hk
theorem uO (hd : (ops[j]?).bind (·.dst) = some k) (hq : gE E k = .tup []) (hk : VRunO call P ops l (pE E d (.tup [])) O nx K) : VRunO call P ops (⟨d, op, ty, ps, af, some (j, w)⟩ :: l) E O nx K := VRunO.off (VWant.undef hd hq) hk
theorem oD (hd : (ops[j]?).bind (·.dst) = some k) (hq : gE E k = .bool b) (hb : b = !w) (hi : i + 1 = i') (hk : VRunD call P ops B l i' (pE E d (.tup [])) O Ob nx nb q al fl K) : VRunD call P ops B (⟨d, op, ty, ps, af, some (j, w)⟩ :: l) i E O Ob nx nb q al fl K := VRunD.off hi (VWant.not hd hq hb) hk
theorem uD (hd : (ops[j]?).bind (·.dst) = some k) (hq : gE E k = .tup []) (hi : i + 1 = i') (hk : VRunD call P ops B l i' (pE E d (.tup [])) O Ob nx nb q al fl K) : VRunD call P ops B (⟨d, op, ty, ps, af, some (j, w)⟩ :: l) i E O Ob nx nb q al fl K := VRunD.off hi (VWant.undef hd hq) hk
theorem gF (hb : b = w) (hd : (ops[j]?).bind (·.dst) = some k) (hq : gE E k = .bool b) (hx : OF call P E ⟨d, op, ty, ps, af, some (j, w)⟩ t) (hk : VRunO call P ops l (pE E d t) O nx K) : VRunO call P ops (⟨d, op, ty, ps, af, some (j, w)⟩ :: l) E O nx K := VRunO.free (VWant.on hd hq hb) hx hk
theorem gL (hb : b = w) (hd : (ops[j]?).bind (·.dst) = some k) (hq : gE E k = .bool b) (hx : OL call P E O ⟨d, op, ty, ps, af, some (j, w)⟩ t) (hk : VRunO call P ops l (pE E d t) O nx K) : VRunO call P ops (⟨d, op, ty, ps, af, some (j, w)⟩ :: l) E O nx K := VRunO.look (VWant.on hd hq hb) hx hk
theorem vb (h : gE E a = .bool b') (he : b' = b) : vfin P [.tmp a] (.bool b) .ret E O nx := he ▸ vfin.r (VRes.tmp h VRes.nil) (Give.bool _)
theorem vi (h : gE E a = .int .i64 n') (he : n' = n) : vfin P [.tmp a] (.int .i64 n) .ret E O nx := he ▸ vfin.r (VRes.tmp h VRes.nil) (Give.int _ _)
theorem lg {α : Type} {e : Bool → α → List T} {sz : Nat} {x : α} (ok : EncOk e sz) : Lend O (.agg (e false x)) (.agg (e false x)) := Lend.agg ⟨rfl, fun i hi => Lend.pl (ok.pl x _ (by rw [List.getD_eq_getElem?_getD, List.getElem?_eq_getElem hi]; exact List.getElem_mem hi))⟩
theorem lp {t : T} {ts ts' : List T} (h : isPl t = true) (hr : LendL O ts ts') : LendL O (t :: ts) (t :: ts') := LendL.cons (Lend.pl h) hr
/-- A call that gives a plain value. -/
theorem cS {f : FuncId} {args : Array Operand} {tys : Array TypeId} {g : Option (Nat × Bool)} {ts us : List T} (ha : VEvs E args.toList ts) (hl : LendL O ts us) (hp : Pure call f us r) (hb : hasBody P f = true) (had : adopt nx r = (r, [])) : OC call P E O nx ⟨d, .call ⟨.value (.func f), args, tys⟩, ty, ps, af, g⟩ r O nx [] := OC.callF hb ha hl hp had
theorem vc {x : Operand} {xs : List Operand} {t : T} {ts : List T} (h : VEv E x t) (hr : VEvs E xs ts) : VEvs E (x :: xs) (t :: ts) := VEvs.cons h hr
end
end Go.Proofs.Ythdnjihmjdbdkaa.AE
