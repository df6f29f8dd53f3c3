/- Rules for reading code in the abstract evaluator, goal by goal. Conditions: none. -/
import Derived.Test.YthdnjihmjdbdkaaAeSimp
namespace Go.Proofs.Ythdnjihmjdbdkaa.AE
open Go Go.RowKit
set_option linter.unusedVariables false
set_option linter.unusedSimpArgs false

/-! ### names not used yet -/
def Fr (p : Nat) (h : AH) : Prop := ∀ t, Under p t → h t = none
def FrC (π k : Nat) (h : AH) : Prop := ∀ j t, k ≤ j → Under (child π j) t → h t = none
def Dom (p : Nat) (h h' : AH) : Prop := ∀ t, h' t ≠ none → h t ≠ none ∨ Under p t
theorem Fr.frc {p : Nat} {h : AH} (hf : Fr p h) (k : Nat) : FrC p k h := fun j t _ ht => hf t (Under.child_of ht)
theorem FrC.fr {π k j : Nat} {h : AH} (hf : FrC π k h) (hj : k ≤ j) : Fr (child π j) h := fun t ht => hf j t hj ht
theorem FrC.le {π k k' : Nat} {h : AH} (hf : FrC π k h) (hk : k ≤ k') : FrC π k' h := fun j t hj ht => hf j t (Nat.le_trans hk hj) ht
theorem FrC.dom {π i : Nat} {h h' : AH} (hf : FrC π i h) (hd : Dom (child π i) h h') : FrC π (i + 1) h' := fun j t hj ht => by
  cases hh : h' t with
  | none => rfl
  | some o =>
    rcases hd t (by rw [hh]; simp) with h1 | h1
    · exact absurd (hf j t (by omega) ht) h1
    · have := Under.apart ht h1
      omega
theorem Dom.refl (p : Nat) (h : AH) : Dom p h h := fun t ht => .inl ht
theorem Dom.new (p : Nat) (h : AH) (o : Option AObj) : Dom p h (h.upd (tokOf p) o) := fun t ht => by
  unfold AH.upd at ht
  split at ht
  · rename_i e
    exact .inr (e ▸ tokOf_under p)
  · exact .inl ht
theorem Dom.old {p t : Nat} {h : AH} (ht : h t ≠ none) (o : Option AObj) : Dom p h (h.upd t o) := fun u hu => by
  unfold AH.upd at hu
  split at hu
  · rename_i e
    exact .inl (e ▸ ht)
  · exact .inl hu
theorem Dom.trans {p : Nat} {h h1 h2 : AH} (a : Dom p h h1) (b : Dom p h1 h2) : Dom p h h2 := fun t ht => (b t ht).elim (a t) .inr
theorem Dom.kill (p t : Nat) (h : AH) : Dom p h (h.upd t none) := fun u hu => by
  unfold AH.upd at hu
  split at hu
  · exact absurd rfl hu
  · exact .inl hu
theorem AH.upd_same (h : AH) (t : Nat) (o : Option AObj) : h.upd t o t = o := by simp [AH.upd]
theorem AH.upd_ne (h : AH) {t u : Nat} (hu : u ≠ t) (o : Option AObj) : h.upd t o u = h u := by simp [AH.upd, hu]
theorem AH.upd_upd (h : AH) (t : Nat) (o o' : Option AObj) : (h.upd t o).upd t o' = h.upd t o' := by
  funext u
  unfold AH.upd
  split <;> rfl
theorem tok_iff {p j k : Nat} : (tokOf (child p j) = tokOf (child p k)) = (j = k) := by
  apply propext
  constructor
  · intro e
    exact (child_inj (child_inj e).1).2
  · intro e
    rw [e]
theorem tok_odd (p : Nat) : tokOf p % 2 = 1 := child_odd p 0
theorem Fr.ne {p : Nat} {h : AH} (hf : Fr p h) {t : Nat} (ht : h t ≠ none) (k : Nat) : t ≠ tokOf (child p k) := fun e => by
  rw [e, hf _ (Under.child_of (tokOf_under _))] at ht
  exact ht rfl
theorem FrC.ne {π c : Nat} {h : AH} (hf : FrC π c h) {t : Nat} (ht : h t ≠ none) (k : Nat) : t ≠ tokOf (child π (c + k)) := fun e => by
  rw [e, hf (c + k) _ (by omega) (tokOf_under _)] at ht
  exact ht rfl
theorem FrC.get {π k : Nat} {h : AH} (hf : FrC π k h) {t : Nat} {o : AObj} (ht : h t = some o) (x : Option AObj) : (h.upd (tokOf (child π k)) x) t = some o := by
  rw [AH.upd_ne _ (by have := hf.ne (t := t) (by rw [ht]; simp) 0; simpa using this)]
  exact ht
theorem Quiet.new {p : Nat} {h : AH} (hf : Fr p h) (o : Option AObj) : Quiet h (h.upd (tokOf p) o) := fun t ht => AH.upd_ne _ (fun e => ht (by rw [e]; exact hf _ (tokOf_under p))) o
theorem bound_quiet {h h' : AH} (q : Quiet h h') : bound h h' = h := by
  funext t
  unfold bound
  cases hh : h t with
  | none => rfl
  | some o => simp only; rw [q t (by rw [hh]; simp), hh]
theorem bound_dom (p : Nat) (h h' : AH) : Dom p h (bound h h') := fun t ht => by
  unfold bound at ht
  cases hh : h t with
  | none => rw [hh] at ht; exact absurd rfl ht
  | some o => exact .inl (by simp)
theorem mask_dom (p : Nat) (h h' : AH) : Dom p h (mask p h h') := fun t ht => by
  unfold mask at ht
  split at ht
  · rename_i hc
    exact hc
  · exact absurd rfl ht
theorem mask_eq {p : Nat} {h h' : AH} {t : Nat} (ht : h t ≠ none ∨ Under p t) : mask p h h' t = h' t := by
  unfold mask
  rw [if_pos ht]
theorem mask_quiet {p : Nat} {h h' : AH} (q : Quiet h h') : Quiet h (mask p h h') := fun t ht => (mask_eq (.inl ht)).trans (q t ht)

/-! ### calls -/
def CallS (call : CallT) (f : FuncId) (args : List Value) (h : AH) (p : Nat) (Q : Value → AH → Prop) : Prop := ∃ v h', call f args h p = some (v, h') ∧ Dom p h h' ∧ Q v h'
theorem CallS.mono {call : CallT} {f : FuncId} {args : List Value} {h : AH} {p : Nat} {Q Q' : Value → AH → Prop} (hc : CallS call f args h p Q) (hq : ∀ v h', Q v h' → Q' v h') : CallS call f args h p Q' := by
  obtain ⟨v, h', h1, h2, h3⟩ := hc
  exact ⟨v, h', h1, h2, hq v h' h3⟩

/-! ### code -/
def thn (K : St → Prop) (Q : AX → St → Prop) : AX → St → Prop
  | .normal, s => K s
  | .exit id, s => Q (.exit id) s
  | .ret, s => Q .ret s
def inB (id : Nat) (Q : AX → St → Prop) : AX → St → Prop
  | .normal, s => Q .normal s
  | .exit id', s => if id' = id then Q .normal s else Q (.exit id') s
  | .ret, s => Q .ret s
theorem thn.n {K : St → Prop} {Q : AX → St → Prop} {s : St} (h : K s) : thn K Q .normal s := h
theorem thn.r {K : St → Prop} {Q : AX → St → Prop} {s : St} (h : Q .ret s) : thn K Q .ret s := h
theorem thn.e {K : St → Prop} {Q : AX → St → Prop} {s : St} {id : Nat} (h : Q (.exit id) s) : thn K Q (.exit id) s := h
theorem inB.n {id : Nat} {Q : AX → St → Prop} {s : St} (h : Q .normal s) : inB id Q .normal s := h
theorem inB.r {id : Nat} {Q : AX → St → Prop} {s : St} (h : Q .ret s) : inB id Q .ret s := h
theorem inB.e {id : Nat} {Q : AX → St → Prop} {s : St} (h : Q .normal s) : inB id Q (.exit id) s := by simp [inB, h]
theorem inB.o {id j : Nat} {Q : AX → St → Prop} {s : St} (hn : (j == id) = false) (h : Q (.exit j) s) : inB id Q (.exit j) s := by simp at hn; simp [inB, hn, h]
theorem putE_at (E : Nat → Value) (d : Nat) (v : Value) : putE E (some d) v d = v := by simp [putE]
theorem putE_off (E : Nat → Value) {d t : Nat} (h : (t == d) = false) (v : Value) : putE E (some d) v t = E t := by simp at h; simp [putE, h]
theorem putE_none (E : Nat → Value) (v : Value) : putE E none v = E := rfl
section
variable (call : CallT) (P : Program) (π : Nat)
def Run (co : Code) (s : St) (Q : AX → St → Prop) : Prop := FrC π s.c s.h → ∃ e s', acode call P π co s = some (e, s') ∧ FrC π s'.c s'.h ∧ Q e s'
def RunO (ops : Array Oper) (c : Nat) (l : List Oper) (i : Nat) (E : Nat → Value) (h : AH) (K : (Nat → Value) → AH → Prop) : Prop := FrC π (c + i) h → ∃ s', aseq call P π ops l i ⟨E, h, c⟩ = some s' ∧ s'.c = c ∧ FrC π (c + (i + l.length)) s'.h ∧ K s'.E s'.h
def RunD (c : Nat) (ops : Array Oper) (B : List (List Nat)) (base : AH) (l : List Oper) (i : Nat) (E : Nat → Value) (C : AH) (al : List (Nat × AObj)) (fl : List Nat) (K : (Nat → Value) → AH → List (Nat × AObj) → List Nat → Prop) : Prop :=
  FrC π (c + i) C → (∀ x ∈ al, x.1 < i) → ∃ s', dseq call P π c ops B base l i ⟨E, C, al, fl⟩ = some s' ∧ FrC π (c + (i + l.length)) s'.C ∧ (∀ x ∈ s'.al, x.1 < i + l.length) ∧ K s'.E s'.C s'.al s'.fl
end
section
variable {call : CallT} {P : Program} {π c i i' k c' id : Nat} {Q : AX → St → Prop} {K : (Nat → Value) → AH → Prop} {x y : Code} {s : St} {ops : Array Oper} {o : Oper} {r : List Oper} {d : Option Tmp} {E : Nat → Value} {h h' : AH} {v : Value} {b : Bool}
theorem Run.skip (hq : Q .normal s) : Run call P π .skip s Q := fun hf => ⟨_, _, rfl, hf, hq⟩
theorem Run.label {l : Nat} (hq : Q .normal s) : Run call P π (.label l) s Q := fun hf => ⟨_, _, rfl, hf, hq⟩
theorem Run.ret (hq : Q .ret s) : Run call P π .ret s Q := fun hf => ⟨_, _, rfl, hf, hq⟩
theorem Run.exit (hq : Q (.exit id) s) : Run call P π (.exit id) s Q := fun hf => ⟨_, _, rfl, hf, hq⟩
theorem Run.mono {Q' : AX → St → Prop} (hr : Run call P π x s Q) (hq : ∀ e s', Q e s' → Q' e s') : Run call P π x s Q' := fun hf => by
  obtain ⟨e, s', h1, h2, h3⟩ := hr hf
  exact ⟨e, s', h1, h2, hq e s' h3⟩
theorem Run.fr (hr : FrC π c h → Run call P π x ⟨E, h, c⟩ Q) : Run call P π x ⟨E, h, c⟩ Q := fun hf => hr hf hf
theorem Run.seq (hx : Run call P π x s (thn (fun s' => Run call P π y s' Q) Q)) : Run call P π (.seq x y) s Q := fun hf => by
  obtain ⟨e, s', h1, h2, h3⟩ := hx hf
  cases e with
  | normal =>
    obtain ⟨e2, s2, h4, h5, h6⟩ := h3 h2
    exact ⟨e2, s2, by simp only [acode, h1, h4], h5, h6⟩
  | exit id => exact ⟨_, s', by simp only [acode, h1], h2, h3⟩
  | ret => exact ⟨_, s', by simp only [acode, h1], h2, h3⟩
theorem Run.cond {k : Operand} (hb : evo E k = some (.bool b)) (ht : b = true → Run call P π x ⟨E, h, c⟩ Q) (hf : b = false → Run call P π y ⟨E, h, c⟩ Q) : Run call P π (.cond k x y) ⟨E, h, c⟩ Q := fun hfr => by
  cases b with
  | true =>
    obtain ⟨e, s', h1, h2, h3⟩ := ht rfl hfr
    exact ⟨e, s', by simp only [acode, hb, h1], h2, h3⟩
  | false =>
    obtain ⟨e, s', h1, h2, h3⟩ := hf rfl hfr
    exact ⟨e, s', by simp only [acode, hb, h1], h2, h3⟩
theorem Run.block (hx : Run call P π x s (inB id Q)) : Run call P π (.block id x) s Q := fun hf => by
  obtain ⟨e, s', h1, h2, h3⟩ := hx hf
  cases e with
  | normal => exact ⟨_, s', by simp only [acode, h1], h2, h3⟩
  | ret => exact ⟨_, s', by simp only [acode, h1], h2, h3⟩
  | exit id' =>
    simp only [inB] at h3
    split at h3
    · rename_i hid
      exact ⟨.normal, s', by simp only [acode, h1, if_pos hid], h2, h3⟩
    · rename_i hid
      exact ⟨.exit id', s', by simp only [acode, h1, if_neg hid], h2, h3⟩
theorem Run.scope (hx : Run call P π x s Q) : Run call P π (.scope x) s Q := fun hf => by
  obtain ⟨e, s', h1, h2, h3⟩ := hx hf
  exact ⟨e, s', by simp only [acode, h1], h2, h3⟩
theorem Run.loop (I : Nat → (Nat → Value) → AH → Nat → Prop) (k : Nat) (h0 : I k E h c) (step : ∀ k E h c, I k E h c → FrC π c h → Run call P π x ⟨E, h, c⟩ (thn (fun s' => ∃ k', k' < k ∧ I k' s'.E s'.h s'.c) Q)) : Run call P π (.loop x) ⟨E, h, c⟩ Q := fun hf => by
  have key : ∀ n k E h c, k < n → I k E h c → FrC π c h → ∃ e s', LoopR (acode call P π x) ⟨E, h, c⟩ e s' ∧ FrC π s'.c s'.h ∧ Q e s' := by
    intro n
    induction n with
    | zero => intro k E h c hk; omega
    | succ n ih =>
      intro k E h c hk hI hf
      obtain ⟨e, s', h1, h2, h3⟩ := step k E h c hI hf hf
      cases e with
      | normal =>
        obtain ⟨k', hk', hI'⟩ := h3
        obtain ⟨e2, s2, h4, h5, h6⟩ := ih k' s'.E s'.h s'.c (by omega) hI' h2
        exact ⟨e2, s2, .more h1 h4, h5, h6⟩
      | exit id => exact ⟨_, s', .stop h1 (by simp), h2, h3⟩
      | ret => exact ⟨_, s', .stop h1 (by simp), h2, h3⟩
  obtain ⟨e, s', h1, h2, h3⟩ := key (k + 1) k E h c (Nat.lt_succ_self k) h0 hf
  exact ⟨e, s', by rw [acode]; exact aloop_eq h1, h2, h3⟩
theorem Run.region (hc : c + ops.size = c') (hx : RunO call P π ops c ops.toList 0 E h (fun E' h' => Q .normal ⟨E', h', c'⟩)) : Run call P π (.region id ops false) ⟨E, h, c⟩ Q := fun hf => by
  subst hc
  obtain ⟨s', h1, h2, h3, h4⟩ := hx hf
  refine ⟨.normal, ⟨s'.E, s'.h, c + ops.size⟩, by simp only [acode, h1, Option.map_some], ?_, h4⟩
  simpa using h3
theorem RunO.nil (hk : K E h) : RunO call P π ops c [] i E h K := fun hf => ⟨_, rfl, rfl, hf, hk⟩
/-- One operation, of whatever kind. -/
theorem RunO.step {op : Op} {ty : TypeId} {ps : String} {af : Array Edge} {g : Option (Nat × Bool)} (hi : i + 1 = i') (hk : c + i = k) (hw : awant ops E ⟨d, op, ty, ps, af, g⟩ = true) (hx : aexec call P (child π k) E h ⟨d, op, ty, ps, af, g⟩ = some (v, h')) (hdm : FrC π k h → Dom (child π k) h h') (hn : FrC π (k + 1) h' → RunO call P π ops c r i' (putE E d v) h' K) : RunO call P π ops c (⟨d, op, ty, ps, af, g⟩ :: r) i E h K := fun hf => by
  subst hi
  subst hk
  have hf' : FrC π (c + (i + 1)) h' := FrC.dom hf (hdm hf)
  obtain ⟨s', h1, h2, h3, h4⟩ := hn hf' hf'
  refine ⟨s', ?_, h2, ?_, h4⟩
  · simp only [aseq, astep, hw, if_true, hx, Option.map_some, Option.bind_some, h1]
  · rw [List.length_cons, show i + (r.length + 1) = i + 1 + r.length by omega]
    exact h3
/-- One that leaves the heap. -/
theorem RunO.pure {op : Op} {ty : TypeId} {ps : String} {af : Array Edge} {g : Option (Nat × Bool)} (hi : i + 1 = i') (hk : c + i = k) (hw : awant ops E ⟨d, op, ty, ps, af, g⟩ = true) (hx : aexec call P (child π k) E h ⟨d, op, ty, ps, af, g⟩ = some (v, h)) (hn : RunO call P π ops c r i' (putE E d v) h K) : RunO call P π ops c (⟨d, op, ty, ps, af, g⟩ :: r) i E h K :=
  RunO.step hi hk hw hx (fun _ => .refl _ _) (fun _ => hn)
/-- One that makes one thing. -/
theorem RunO.make {op : Op} {ty : TypeId} {ps : String} {af : Array Edge} {g : Option (Nat × Bool)} {z : AObj} (hi : i + 1 = i') (hk : c + i = k) (hw : awant ops E ⟨d, op, ty, ps, af, g⟩ = true) (hx : aexec call P (child π k) E h ⟨d, op, ty, ps, af, g⟩ = some (v, h.upd (tokOf (child π k)) (some z))) (hn : RunO call P π ops c r i' (putE E d v) (h.upd (tokOf (child π k)) (some z)) K) : RunO call P π ops c (⟨d, op, ty, ps, af, g⟩ :: r) i E h K :=
  RunO.step hi hk hw hx (fun _ => .new _ _ _) (fun _ => hn)
theorem RunO.off (hi : i + 1 = i') (hw : awant ops E o = false) (hk : RunO call P π ops c r i' (putE E o.dst undef) h K) : RunO call P π ops c (o :: r) i E h K := fun hf => by
  subst hi
  obtain ⟨s', h1, h2, h3, h4⟩ := hk (hf.le (by omega))
  refine ⟨s', ?_, h2, ?_, h4⟩
  · simp only [aseq, astep, hw, Bool.false_eq_true, if_false, Option.bind_some, h1]
  · rw [List.length_cons, show i + (r.length + 1) = i + 1 + r.length by omega]
    exact h3
theorem RunO.guard {op : Op} {ty : TypeId} {ps : String} {af : Array Edge} {g : Nat × Bool} (hi : i + 1 = i') (hw : awant ops E ⟨d, op, ty, ps, af, some g⟩ = b) (ht : b = true → RunO call P π ops c (⟨d, op, ty, ps, af, none⟩ :: r) i E h K) (hf : b = false → RunO call P π ops c r i' (putE E d undef) h K) : RunO call P π ops c (⟨d, op, ty, ps, af, some g⟩ :: r) i E h K := by
  cases b with
  | true =>
    intro hfr
    obtain ⟨s', h1, h2⟩ := ht rfl hfr
    refine ⟨s', ?_, h2⟩
    simp only [aseq, astep, hw, if_true] at h1 ⊢
    exact h1
  | false => exact RunO.off hi hw (hf rfl)
theorem RunO.calls {op : Op} {ty : TypeId} {ps : String} {af : Array Edge} {g : Option (Nat × Bool)} {f : FuncId} {args : List Value} {R : Value → AH → Prop} (hi : i + 1 = i') (hk : c + i = k) (hw : awant ops E ⟨d, op, ty, ps, af, g⟩ = true) (hx : aop P (child π k) E h ⟨d, op, ty, ps, af, g⟩ = some (.enter f args)) (hc : Fr (child π k) h → CallS call f args h (child π k) R)
    (hn : ∀ v h', R v h' → Dom (child π k) h h' → FrC π (k + 1) h' → RunO call P π ops c r i' (putE E d v) h' K) : RunO call P π ops c (⟨d, op, ty, ps, af, g⟩ :: r) i E h K := fun hf => by
  subst hk
  obtain ⟨v, h', h1, h2, h3⟩ := hc (FrC.fr hf (Nat.le_refl _))
  exact RunO.step hi rfl hw (v := v) (h' := h') (by simp only [aexec, hx, h1]) (fun _ => h2) (hn v h' h3 h2) hf
variable {B : List (List Nat)} {base C : AH} {al : List (Nat × AObj)} {fl : List Nat} {D : (Nat → Value) → AH → List (Nat × AObj) → List Nat → Prop}
theorem Run.draw (hc : c + ops.size = c') (hB : befs ops.toList [] = B) (hok : okD P ops B = true) (hx : RunD call P π c ops B h ops.toList 0 E h [] [] (fun E' C' al fl => Q .normal ⟨E', lay π c (fun a => !fl.contains a) al C', c'⟩)) : Run call P π (.region id ops true) ⟨E, h, c⟩ Q := fun hf => by
  subst hB
  subst hc
  obtain ⟨d, h1, h2, h3, h4⟩ := hx hf (fun x hx => by cases hx)
  refine ⟨.normal, _, ?_, ?_, h4⟩
  · simp only [acode, adraw, hok, if_true, h1, Option.map_some]
  · intro j t hj ht
    simp only [Array.length_toList, Nat.zero_add] at h2 h3 hj
    cases hh : lay π c (fun a => !d.fl.contains a) d.al d.C t with
    | none => exact hh
    | some o =>
      rcases lay_some hh with ⟨y, hy, _, h5, _⟩ | h5
      · have := h3 y hy
        have h6 : Under (child π (c + y.1)) t := h5 ▸ tokOf_under _
        have := Under.apart ht h6
        omega
      · rw [h2 j t hj ht] at h5
        cases h5
theorem RunD.nil (hk : D E C al fl) : RunD call P π c ops B base [] i E C al fl D := fun hf ha => ⟨_, rfl, hf, ha, hk⟩
theorem dcons {s1 : DSt} {s : DSt} (h1 : dstep call P π c ops B base i o s = some s1) (hf : FrC π (c + (i + 1)) s1.C) (ha : ∀ x ∈ s1.al, x.1 < i + 1) (hk : RunD call P π c ops B base r (i + 1) s1.E s1.C s1.al s1.fl D) : ∃ s', dseq call P π c ops B base (o :: r) i s = some s' ∧ FrC π (c + (i + (o :: r).length)) s'.C ∧ (∀ x ∈ s'.al, x.1 < i + (o :: r).length) ∧ D s'.E s'.C s'.al s'.fl := by
  obtain ⟨s', h2, h3, h4, h5⟩ := hk hf ha
  rw [List.length_cons, show i + (r.length + 1) = i + 1 + r.length by omega]
  exact ⟨s', by simp only [dseq, h1, Option.bind_some, h2], h3, h4, h5⟩
theorem RunD.off (hi : i + 1 = i') (hw : awant ops E o = false) (hk : RunD call P π c ops B base r i' (putE E o.dst undef) C al fl D) : RunD call P π c ops B base (o :: r) i E C al fl D := fun hf ha => by
  subst hi
  exact dcons (s1 := ⟨putE E o.dst undef, C, al, fl⟩) (by simp only [dstep, hw, Bool.false_eq_true, if_false]) (FrC.le hf (by omega)) (fun x hx => Nat.lt_succ_of_lt (ha x hx)) hk
theorem RunD.guard {op : Op} {ty : TypeId} {ps : String} {af : Array Edge} {g : Nat × Bool} (hi : i + 1 = i') (hw : awant ops E ⟨d, op, ty, ps, af, some g⟩ = b) (ht : b = true → RunD call P π c ops B base (⟨d, op, ty, ps, af, none⟩ :: r) i E C al fl D) (hf : b = false → RunD call P π c ops B base r i' (putE E d undef) C al fl D) : RunD call P π c ops B base (⟨d, op, ty, ps, af, some g⟩ :: r) i E C al fl D := by
  cases b with
  | true =>
    intro hfr ha
    obtain ⟨s', h1, h2⟩ := ht rfl hfr ha
    refine ⟨s', ?_, h2⟩
    simp only [dseq, dstep, hw, if_true] at h1 ⊢
    exact h1
  | false => exact RunD.off hi hw (hf rfl)
/-- What makes one thing and asks nothing of the heap. -/
theorem RunD.make {op : Op} {ty : TypeId} {ps : String} {af : Array Edge} {g : Option (Nat × Bool)} {z : AObj} (hi : i + 1 = i') (hk : c + i = k) (hw : awant ops E ⟨d, op, ty, ps, af, g⟩ = true) (hc : cls P op = .free) (hx : aexec call P (child π k) E (fun _ => none) ⟨d, op, ty, ps, af, g⟩ = some (v, AH.upd (fun _ => none) (tokOf (child π k)) (some z))) (hn : RunD call P π c ops B base r i' (putE E d v) C (al ++ [(i, z)]) fl D) : RunD call P π c ops B base (⟨d, op, ty, ps, af, g⟩ :: r) i E C al fl D := fun hf ha => by
  subst hi
  subst hk
  refine dcons (s1 := ⟨putE E d v, C, al ++ [(i, z)], fl⟩) (by simp only [dstep, hw, if_true, hc, hx, Option.map_some, AH.upd_same]) (FrC.le hf (by omega)) ?_ hn
  intro x hx'
  rcases List.mem_append.1 hx' with h1 | h1
  · exact Nat.lt_succ_of_lt (ha x h1)
  · obtain rfl := List.mem_singleton.1 h1
    exact Nat.lt_succ_self i
/-- What makes nothing and asks nothing of the heap. -/
theorem RunD.pure {op : Op} {ty : TypeId} {ps : String} {af : Array Edge} {g : Option (Nat × Bool)} (hi : i + 1 = i') (hk : c + i = k) (hw : awant ops E ⟨d, op, ty, ps, af, g⟩ = true) (hc : cls P op = .free) (hx : aexec call P (child π k) E (fun _ => none) ⟨d, op, ty, ps, af, g⟩ = some (v, (fun _ => none))) (hn : RunD call P π c ops B base r i' (putE E d v) C al fl D) : RunD call P π c ops B base (⟨d, op, ty, ps, af, g⟩ :: r) i E C al fl D := fun hf ha => by
  subst hi
  subst hk
  exact dcons (s1 := ⟨putE E d v, C, al, fl⟩) (by simp only [dstep, hw, if_true, hc, hx, Option.map_some]) (FrC.le hf (by omega)) (fun x hx => Nat.lt_succ_of_lt (ha x hx)) hn
theorem RunD.look {op : Op} {ty : TypeId} {ps : String} {af : Array Edge} {g : Option (Nat × Bool)} (hi : i + 1 = i') (hk : c + i = k) (hw : awant ops E ⟨d, op, ty, ps, af, g⟩ = true) (hc : cls P op = .look) (hx : aexec call P (child π k) E base ⟨d, op, ty, ps, af, g⟩ = some (v, base)) (hn : RunD call P π c ops B base r i' (putE E d v) C al fl D) : RunD call P π c ops B base (⟨d, op, ty, ps, af, g⟩ :: r) i E C al fl D := fun hf ha => by
  subst hi
  subst hk
  refine dcons (s1 := ⟨putE E d v, C, al, fl⟩) ?_ (FrC.le hf (by omega)) (fun x hx => Nat.lt_succ_of_lt (ha x hx)) hn
  simp only [dstep, hw, if_true, hc, hx, Quiet.refl base]
theorem lay_frc {cond : Nat → Bool} (hf : FrC π (c + i) C) (ha : ∀ x ∈ al, x.1 < i) : FrC π (c + i) (lay π c cond al C) := fun j t hj ht => by
  cases hh : lay π c cond al C t with
  | none => rfl
  | some o =>
    rcases lay_some hh with ⟨y, hy, _, h5, _⟩ | h5
    · have := ha y hy
      have h6 : Under (child π (c + y.1)) t := h5 ▸ tokOf_under _
      have := Under.apart ht h6
      omega
    · rw [hf j t hj ht] at h5
      cases h5
theorem RunD.chain {op : Op} {ty : TypeId} {ps : String} {af : Array Edge} {g : Option (Nat × Bool)} {H : AH} {bi : List Nat} (hi : i + 1 = i') (hk : c + i = k) (hw : awant ops E ⟨d, op, ty, ps, af, g⟩ = true) (hc : cls P op = .chain) (hb : B.getD i [] = bi) (hl : lay π c (fun a => bi.contains a && !fl.contains a) al C = H) (hx : aexec call P (child π k) E H ⟨d, op, ty, ps, af, g⟩ = some (v, h')) (hq : allLook P ops bi = true ∨ Quiet base h') (hdm : FrC π k H → Dom (child π k) H h')
    (hn : FrC π (k + 1) h' → RunD call P π c ops B base r i' (putE E d v) h' al (bi ++ fl) D) : RunD call P π c ops B base (⟨d, op, ty, ps, af, g⟩ :: r) i E C al fl D := fun hf ha => by
  subst hi
  subst hk
  subst hb
  subst hl
  have hfl := lay_frc (cond := fun a => (B.getD i []).contains a && !fl.contains a) hf ha
  have hf' : FrC π (c + (i + 1)) h' := FrC.dom hfl (hdm hfl)
  refine dcons (s1 := ⟨putE E d v, h', al, B.getD i [] ++ fl⟩) ?_ hf' (fun x hx => Nat.lt_succ_of_lt (ha x hx)) (hn hf')
  simp only [dstep, hw, if_true, hc, hx, hq]
theorem RunD.calls {op : Op} {ty : TypeId} {ps : String} {af : Array Edge} {g : Option (Nat × Bool)} {H : AH} {bi : List Nat} {f : FuncId} {args : List Value} {R : Value → AH → Prop} (hi : i + 1 = i') (hk : c + i = k) (hw : awant ops E ⟨d, op, ty, ps, af, g⟩ = true) (hc : cls P op = .chain) (hb : B.getD i [] = bi) (hl : lay π c (fun a => bi.contains a && !fl.contains a) al C = H) (hx : aop P (child π k) E H ⟨d, op, ty, ps, af, g⟩ = some (.enter f args))
    (hcl : Fr (child π k) H → CallS call f args H (child π k) R) (hq : ∀ v h', R v h' → allLook P ops bi = true ∨ Quiet base h')
    (hn : ∀ v h', R v h' → Dom (child π k) H h' → FrC π (k + 1) h' → RunD call P π c ops B base r i' (putE E d v) h' al (bi ++ fl) D) : RunD call P π c ops B base (⟨d, op, ty, ps, af, g⟩ :: r) i E C al fl D := fun hf ha => by
  have hfl : FrC π k H := by
    subst hk
    subst hl
    exact lay_frc hf ha
  obtain ⟨v, h', h1, h2, h3⟩ := hcl (FrC.fr hfl (Nat.le_refl _))
  exact RunD.chain (v := v) (h' := h') hi hk hw hc hb hl (by simp only [aexec, hx, h1]) (hq v h' h3) (fun _ => h2) (hn v h' h3 h2) hf ha
end
/-! ### functions -/
def fin (P : Program) (p : Nat) (rs : List ResultVar) (h : AH) (Q : Value → AH → Prop) : AX → St → Prop
  | .exit _, _ => False
  | .normal, s => ∃ l, ares P s.h s.E rs = some l ∧ Q (oneV l) (if tokenless (oneV l) then bound h s.h else mask p h s.h)
  | .ret, s => ∃ l, ares P s.h s.E rs = some l ∧ Q (oneV l) (if tokenless (oneV l) then bound h s.h else mask p h s.h)
theorem CallS.intro {P : Program} {f : FuncId} {fn : Func} {c : Code} {n : Nat} {args : List Value} {h : AH} {p : Nat} {Q : Value → AH → Prop} (hf : P.funcs[f]? = some fn) (hb : fn.body = some c) (hc : boundsC fn.ntmps c = true) (hfr : Fr p h)
    {rs : List ResultVar} (hrs : fn.results.toList = rs) (hr : Run (acall P n) P p c ⟨fun t => args.getD t undef, h, 0⟩ (fin P p rs h Q)) : CallS (acall P (n + 1)) f args h p Q := by
  subst hrs
  obtain ⟨e, s', h1, h2, h3⟩ := hr (hfr.frc 0)
  have key : ∀ l, ares P s'.h s'.E fn.results.toList = some l → (∀ id, e ≠ .exit id) → acall P (n + 1) f args h p = some (oneV l, if tokenless (oneV l) then bound h s'.h else mask p h s'.h) := by
    intro l hl hne
    rw [acall]
    simp only [hf, hb, hc, if_true, h1]
    cases e with
    | normal => simp only [hl, Option.map_some]
    | ret => simp only [hl, Option.map_some]
    | exit id => exact absurd rfl (hne id)
  have dom : ∀ l, Dom p h (if tokenless (oneV l) then bound h s'.h else mask p h s'.h) := by
    intro l
    split
    · exact bound_dom p h _
    · exact mask_dom p h _
  cases e with
  | normal =>
    obtain ⟨l, hl, hq⟩ := h3
    exact ⟨_, _, key l hl (by simp), dom l, hq⟩
  | ret =>
    obtain ⟨l, hl, hq⟩ := h3
    exact ⟨_, _, key l hl (by simp), dom l, hq⟩
  | exit id => exact h3.elim
theorem Quiet.upd {h h1 : AH} (q : Quiet h h1) {t : Nat} (ht : h t = none) (o : Option AObj) : Quiet h (h1.upd t o) := fun u hu => by
  rw [AH.upd_ne _ (fun e => hu (by rw [e]; exact ht))]
  exact q u hu
theorem Fr.tok {p : Nat} {h : AH} (hf : Fr p h) (k : Nat) : h (tokOf (child p k)) = none := hf _ (Under.child_of (tokOf_under _))
section
variable {P : Program} {p c : Nat} {rs : List ResultVar} {h h' : AH} {Q : Value → AH → Prop} {E : Nat → Value} {v : Value} {l : List Value}
theorem fin.r (hl : ares P h' E rs = some l) (hq : Q (oneV l) (if tokenless (oneV l) then bound h h' else mask p h h')) : fin P p rs h Q .ret ⟨E, h', c⟩ := ⟨l, hl, hq⟩
theorem fin.n (hl : ares P h' E rs = some l) (hq : Q (oneV l) (if tokenless (oneV l) then bound h h' else mask p h h')) : fin P p rs h Q .normal ⟨E, h', c⟩ := ⟨l, hl, hq⟩
/-- One plain value. -/
theorem fin.r1 (hl : ares P h' E rs = some [v]) (ht : tokenless v = true) (q : Quiet h h') (hq : Q v h) : fin P p rs h Q .ret ⟨E, h', c⟩ := fin.r hl (by
  show Q v (if tokenless v then bound h h' else mask p h h')
  rw [if_pos ht, bound_quiet q]
  exact hq)
end
attribute [irreducible] Run RunO RunD fin thn inB CallS
end Go.Proofs.Ythdnjihmjdbdkaa.AE
