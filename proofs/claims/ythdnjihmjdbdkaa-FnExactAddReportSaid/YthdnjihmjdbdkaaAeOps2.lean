/- More of the abstract evaluator's operations, each with its law: what closed values give, equality with nil, conversions, append. Conditions: none. -/
import Derived.Test.YthdnjihmjdbdkaaAeOps
namespace Go.Proofs.Ythdnjihmjdbdkaa.AE
open Go Go.RowKit
set_option linter.unusedVariables false
set_option linter.unusedSimpArgs false

/-! ### what neither reads memory nor asks -/
def prun (P : Program) {α : Type} : Sem α → Option α
  | .pure a => some a
  | .program k => prun P (k P)
  | .mark _ k => prun P k
  | _ => none
theorem prun_sound {P : Program} {α : Type} {s : Sem α} {a : α} (h : prun P s = some a) (W : World) : s.run P W = .ok a W := by
  induction s with
  | pure b => simp only [prun, Option.some.injEq] at h; subst h; rfl
  | program k ih => simp only [prun] at h; exact ih P h
  | mark m k ih => simp only [prun] at h; exact ih h
  | _ => simp [prun] at h
theorem prun_bind {P : Program} {α β : Type} (s : Sem α) (f : α → Sem β) : prun P (s >>= f) = (prun P s).bind fun a => prun P (f a) := by
  show prun P (s.bind f) = _
  induction s with
  | pure a => rfl
  | program k ih => simp only [Sem.bind, prun]; exact ih P
  | mark m k ih => simp only [Sem.bind, prun]; exact ih
  | _ => rfl
theorem prun_pure {P : Program} {α : Type} (a : α) : prun P (Pure.pure a : Sem α) = some a := rfl
theorem prun_program {P : Program} : prun P program = some P := rfl
theorem prun_ite {P : Program} {α : Type} (c : Prop) [Decidable c] (x y : Sem α) : prun P (if c then x else y) = if c then prun P x else prun P y := by split <;> rfl
def clo (o : Option Value) : Option Value := o.bind fun v => if closedV v then some v else none
theorem clo_some {o : Option Value} {v : Value} (h : clo o = some v) : o = some v ∧ closedV v = true := by
  unfold clo at h
  obtain ⟨u, hu, h2⟩ := Option.bind_eq_some_iff.1 h
  split at h2
  · rename_i hc
    obtain rfl := Option.some.inj h2
    exact ⟨hu, hc⟩
  · cases h2
def isNil : Value → Option Bool
  | .slice none 0 0 => some true
  | .slice (some _) _ _ => some false
  | .pointer none => some true
  | .pointer (some _) => some false
  | _ => none
def anil (P : Program) (op : BinOp) (t : TypeId) (x y : Value) : Option Value :=
  match op, isNil x, isNil y, P.underlying t with
  | .eql, some true, some b, some (.slice _) | .eql, some b, some true, some (.slice _) => match x, y with | .slice _ _ _, .slice _ _ _ => some (.bool b) | _, _ => none
  | .neq, some true, some b, some (.slice _) | .neq, some b, some true, some (.slice _) => match x, y with | .slice _ _ _, .slice _ _ _ => some (.bool !b) | _, _ => none
  | _, _, _, _ => none
def abin (P : Program) (op : BinOp) (t : TypeId) (xo yo : Operand) (x y : Value) : Option Value :=
  if closedV x && closedV y then clo (prun P (do eqGuard op t xo yo x y; binOp op t x y)) else anil P op t x y
theorem isNil_slice {ρ : Ren} {x x' : Value} (h : VR ρ x x') {a : Option Addr} {n m : Nat} (hx : x = .slice a n m) : ∃ a' n' m', x' = .slice a' n' m' ∧ a'.isNone = a.isNone := by
  subst hx
  cases h with
  | sl0 => exact ⟨_, _, _, rfl, rfl⟩
  | sl o n m c h hn hf hm => exact ⟨_, _, _, rfl, rfl⟩
  | sle o o' m c sp h hf hm hsp => exact ⟨_, _, _, rfl, rfl⟩
theorem equal_nil {P : Program} {t e : TypeId} (hu : P.underlying t = some (.slice e)) (d : Nat) {a b : Option Addr} (n m k l : Nat) (hab : a.isNone = true ∨ b.isNone = true) (W : World) :
    (Op.equalIn (d + 1) t (.slice a n m) (.slice b k l)).run P W = .ok (a.isNone && b.isNone) W := by
  cases a <;> cases b <;> simp at hab <;> simp only [Op.equalIn, Sem.run_bind, run_underlying hu, Result.andThen_ok] <;> rfl
theorem anil_sound {P : Program} {ρ : Ren} {W : World} {op : BinOp} {t : TypeId} {xo yo : Operand} {x x' y y' v : Value} (h : anil P op t x y = some v) (hx : VR ρ x x') (hy : VR ρ y y') :
    ((do eqGuard op t xo yo x' y'; binOp op t x' y') : Sem Value).run P W = .ok v W ∧ VR ρ v v := by
  have key : ∀ (a b : Option Addr) (n m n2 m2 : Nat) (e : TypeId), x = .slice a n m → y = .slice b n2 m2 → P.underlying t = some (.slice e) → (a.isNone = true ∨ b.isNone = true) →
      ((do eqGuard .eql t xo yo x' y'; binOp .eql t x' y') : Sem Value).run P W = .ok (.bool (a.isNone && b.isNone)) W ∧ ((do eqGuard .neq t xo yo x' y'; binOp .neq t x' y') : Sem Value).run P W = .ok (.bool !(a.isNone && b.isNone)) W := by
    intro a b n m n2 m2 e ex ey hu hab
    obtain ⟨a', n', m', rfl, ha⟩ := isNil_slice hx ex
    obtain ⟨b', k', l', rfl, hb⟩ := isNil_slice hy ey
    rw [← ha, ← hb] at hab ⊢
    have he := equal_nil hu 9999 n' m' k' l' hab W
    have he2 : (Op.equal t (.slice a' n' m') (.slice b' k' l')).run P W = .ok (a'.isNone && b'.isNone) W := he
    constructor
    · have h1 : (eqGuard .eql t xo yo (.slice a' n' m') (.slice b' k' l')).run P W = .ok () W := by simp [eqGuard]
      have h2 : binOp .eql t (.slice a' n' m') (.slice b' k' l') = (do pure (.bool (← Op.equal t (.slice a' n' m') (.slice b' k' l')))) := by simp only [binOp]
      rw [Sem.run_bind, h1, Result.andThen_ok, h2, Sem.run_bind, he2, Result.andThen_ok, Sem.run_pure]
    · have h1 : (eqGuard .neq t xo yo (.slice a' n' m') (.slice b' k' l')).run P W = .ok () W := by simp [eqGuard]
      have h2 : binOp .neq t (.slice a' n' m') (.slice b' k' l') = (do pure (.bool (!(← Op.equal t (.slice a' n' m') (.slice b' k' l'))))) := by simp only [binOp]
      rw [Sem.run_bind, h1, Result.andThen_ok, h2, Sem.run_bind, he2, Result.andThen_ok, Sem.run_pure]
  unfold anil at h
  have hnil : ∀ {z : Value} {b : Bool} {a : Option Addr} {n m : Nat}, isNil z = some b → z = .slice a n m → b = a.isNone := by
    intro z b a n m hz hza
    subst hza
    cases a with
    | none =>
      unfold isNil at hz
      split at hz <;> simp_all
    | some _ => simpa [isNil] using hz.symm
  split at h
  · rename_i b e h1 h2 hu
    split at h
    · obtain rfl := Option.some.inj h
      have e1 := hnil h1 rfl
      have e2 := hnil h2 rfl
      obtain ⟨k1, _⟩ := key _ _ _ _ _ _ e rfl rfl hu (.inl e1.symm)
      rw [← e1, ← e2] at k1
      exact ⟨by simpa using k1, .bool _⟩
    · cases h
  · rename_i b e _ h1 h2 hu
    split at h
    · obtain rfl := Option.some.inj h
      have e1 := hnil h1 rfl
      have e2 := hnil h2 rfl
      obtain ⟨k1, _⟩ := key _ _ _ _ _ _ e rfl rfl hu (.inr e2.symm)
      rw [← e1, ← e2] at k1
      exact ⟨by simpa using k1, .bool _⟩
    · cases h
  · rename_i b e h1 h2 hu
    split at h
    · obtain rfl := Option.some.inj h
      have e1 := hnil h1 rfl
      have e2 := hnil h2 rfl
      obtain ⟨_, k1⟩ := key _ _ _ _ _ _ e rfl rfl hu (.inl e1.symm)
      rw [← e1, ← e2] at k1
      exact ⟨by simpa using k1, .bool _⟩
    · cases h
  · rename_i b e _ h1 h2 hu
    split at h
    · obtain rfl := Option.some.inj h
      have e1 := hnil h1 rfl
      have e2 := hnil h2 rfl
      obtain ⟨_, k1⟩ := key _ _ _ _ _ _ e rfl rfl hu (.inr e2.symm)
      rw [← e1, ← e2] at k1
      exact ⟨by simpa using k1, .bool _⟩
    · cases h
  · cases h
theorem abin_sound {P : Program} {ρ : Ren} {W : World} {op : BinOp} {t : TypeId} {xo yo : Operand} {x x' y y' v : Value} (h : abin P op t xo yo x y = some v) (hx : VR ρ x x') (hy : VR ρ y y') :
    ((do eqGuard op t xo yo x' y'; binOp op t x' y') : Sem Value).run P W = .ok v W ∧ VR ρ v v := by
  unfold abin at h
  split at h
  · rename_i hc
    rw [Bool.and_eq_true] at hc
    obtain ⟨h1, h2⟩ := clo_some h
    rw [hx.eq hc.1, hy.eq hc.2]
    exact ⟨prun_sound h1 W, .closedV h2⟩
  · exact anil_sound h hx hy
def aun (P : Program) (op : UnOp) (x : Value) : Option Value := if closedV x then clo (prun P (Op.unary op x)) else none
theorem aun_sound {P : Program} {ρ : Ren} {W : World} {op : UnOp} {x x' v : Value} (h : aun P op x = some v) (hx : VR ρ x x') : (Op.unary op x').run P W = .ok v W ∧ VR ρ v v := by
  unfold aun at h
  split at h
  · rename_i hc
    obtain ⟨h1, h2⟩ := clo_some h
    rw [hx.eq hc]
    exact ⟨prun_sound h1 W, .closedV h2⟩
  · cases h

/-! ### len, min, max -/
def alen (P : Program) (t : TypeId) (H : AH) (x : Value) : Option Value :=
  match P.underlying t, x with
  | some .string, .string s => some (.int .i64 s.size)
  | some (.slice _), .slice _ n _ => some (.int .i64 n)
  | some (.map _ _), .map none => some (.int .i64 0)
  | some (.map _ _), .map (some k) => match H k with | some (.map es) => some (.int .i64 es.length) | _ => none
  | _, _ => none
theorem alen_sound {P : Program} {b0 : Nat} {ρ : Ren} {H : AH} {W : World} {t ty : TypeId} {x x' v : Value} (h : alen P t H x = some v) (hx : VR ρ x x') (hR : Rel b0 ρ H W) : (Builtin.len_ #[t] ty #[x']).run P W = .ok v W ∧ VR ρ v v := by
  unfold alen at h
  split at h
  · rename_i s hu
    obtain rfl := Option.some.inj h
    cases hx
    exact ⟨by simp [Builtin.len_, run_underlying hu, goInt], .int _ _⟩
  · rename_i a n m e hu
    obtain rfl := Option.some.inj h
    cases hx <;> exact ⟨by simp [Builtin.len_, run_underlying hu, goInt], .int _ _⟩
  · rename_i a b hu
    obtain rfl := Option.some.inj h
    cases hx
    exact ⟨by simp [Builtin.len_, run_underlying hu, goInt], .int _ _⟩
  · rename_i a b k hu
    split at h
    · rename_i es hk
      obtain rfl := Option.some.inj h
      cases hx with
      | @map _ s hs =>
        obtain ⟨s', hs', arr, clock, ha, hl, _⟩ := hR.tok k _ hk
        rw [hs] at hs'
        cases hs'
        refine ⟨?_, .int _ _⟩
        have hg : (getObj s.b).run P W = .ok (.map arr clock) W := by simp [getObj, Sem.run, ha]
        simp [Builtin.len_, run_underlying hu, goInt, hg, hl]
    · cases h
  · cases h
def amm (P : Program) (mx : Bool) (args : List Value) : Option Value :=
  if args.all closedV then clo (prun P (if mx then Builtin.max_ #[] 0 args.toArray else Builtin.min_ #[] 0 args.toArray)) else none
theorem LR.eq {ρ : Ren} {a b : List Value} (h : LR ρ a b) (hc : a.all closedV = true) : b = a := by
  apply List.ext_getElem h.1.symm
  intro i h1 h2
  have h3 := h.2 i h2
  have h4 : closedV (a.getD i undef) = true := by
    have := List.all_eq_true.1 hc _ (List.getElem_mem h2)
    simpa [List.getD_eq_getElem?_getD, List.getElem?_eq_getElem h2] using this
  have h5 := h3.eq h4
  simpa [List.getD_eq_getElem?_getD, List.getElem?_eq_getElem h2, List.getElem?_eq_getElem h1] using h5
theorem amm_sound {P : Program} {ρ : Ren} {W : World} {mx : Bool} {args : List Value} {args' : Array Value} {v : Value} {ats : Array TypeId} {ty : TypeId} (h : amm P mx args = some v) (hx : LR ρ args args'.toList) :
    (if mx then Builtin.max_ ats ty args' else Builtin.min_ ats ty args').run P W = .ok v W ∧ VR ρ v v := by
  unfold amm at h
  split at h
  · rename_i hc
    obtain ⟨h1, h2⟩ := clo_some h
    have he := hx.eq hc
    have he2 : args' = args.toArray := by rw [← he]
    subst he2
    refine ⟨?_, .closedV h2⟩
    have := prun_sound h1 W
    cases mx <;> simpa [Builtin.max_, Builtin.min_] using this
  · cases h
end Go.Proofs.Ythdnjihmjdbdkaa.AE
