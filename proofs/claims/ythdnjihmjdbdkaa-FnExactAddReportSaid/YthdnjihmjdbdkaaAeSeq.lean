/- The abstract evaluator at a row of operations in the text's order, and the law that the machine comes to the same. Conditions: none. -/
import Derived.Test.YthdnjihmjdbdkaaAeOp
namespace Go.Proofs.Ythdnjihmjdbdkaa.AE
open Go Go.RowKit
set_option linter.unusedVariables false
set_option linter.unusedSimpArgs false

structure St where
  E : Nat → Value
  h : AH
  c : Nat
abbrev CallT := FuncId → List Value → AH → Nat → Option (Value × AH)
def putE (E : Nat → Value) (dst : Option Tmp) (v : Value) : Nat → Value :=
  match dst with
  | some d => fun t => if t = d then v else E t
  | none => E
def awant (ops : Array Oper) (E : Nat → Value) (o : Oper) : Bool :=
  match o.guard with
  | none => true
  | some (j, w) =>
    match (ops[j]?).bind (·.dst) with
    | some d => (match E d with | .bool b => b == w | _ => false)
    | none => false
/-- One operation that is wanted: its value, the heap behind it. -/
def aexec (call : CallT) (P : Program) (p : Nat) (E : Nat → Value) (H : AH) (o : Oper) : Option (Value × AH) :=
  match aop P p E H o with
  | some (.val v h') => some (v, h')
  | some (.skip h') => some (undef, h')
  | some (.enter f args) => call f args H p
  | none => none
def astep (call : CallT) (P : Program) (π : Nat) (ops : Array Oper) (i : Nat) (o : Oper) (s : St) : Option St :=
  if awant ops s.E o then (aexec call P (child π (s.c + i)) s.E s.h o).map fun r => ⟨putE s.E o.dst r.1, r.2, s.c⟩
  else some ⟨putE s.E o.dst undef, s.h, s.c⟩
def aseq (call : CallT) (P : Program) (π : Nat) (ops : Array Oper) : List Oper → Nat → St → Option St
  | [], _, s => some s
  | o :: r, i, s => (astep call P π ops i o s).bind (aseq call P π ops r (i + 1))
def CallOk (P : Program) (call : CallT) : Prop :=
  ∀ (f : FuncId) (args : List Value) (h : AH) (p : Nat) (v : Value) (h' : AH), call f args h p = some (v, h') → ∀ (b0 : Nat) (ρ : Ren) (W : World) (args' : Array Value),
    LR ρ args args'.toList → Rel b0 ρ h W → (∀ t, Under p t → ρ t = none) → p % 2 = 1 →
    Calls P f args' W fun e W' => ∃ v' ρ', e = .returned v' ∧ Stp b0 p ρ h W ρ' h' W' ∧ VR ρ' v v'
structure Inv (b0 π n : Nat) (ρ0 : Ren) (H0 : AH) (W0 : World) (ρ : Ren) (s : St) (a : Act) (W : World) : Prop where
  env : EnvR ρ s.E a
  stp : Stp b0 π ρ0 H0 W0 ρ s.h W
  defers : a.defers = []
  size : n ≤ a.tmps.size
def FreshI (π k : Nat) (ρ : Ren) : Prop := ∀ j t, k ≤ j → Under (child π j) t → ρ t = none
theorem EnvR.put {ρ ρ' : Ren} {E : Nat → Value} {a : Act} {dst : Option Tmp} {v v' : Value} (hE : EnvR ρ E a) (hρ : ∀ t s, ρ t = some s → ρ' t = some s) (hv : VR ρ' v v') (hd : ∀ d, dst = some d → d < a.tmps.size) : EnvR ρ' (putE E dst v) (a.put dst v') := by
  intro t
  cases dst with
  | none => exact (hE t).mono hρ
  | some d =>
    have hlt := hd d rfl
    simp only [putE, Act.put]
    by_cases htd : t = d
    · subst htd
      simpa [Array.getD_eq_getD_getElem?, hlt] using hv
    · rw [if_neg htd]
      have : d ≠ t := Ne.symm htd
      simpa [Array.getD_eq_getD_getElem?, Array.getElem?_setIfInBounds_ne this] using (hE t).mono hρ
theorem put_size (a : Act) (dst : Option Tmp) (v : Value) : (a.put dst v).tmps.size = a.tmps.size := by
  cases dst <;> simp [Act.put]
theorem put_defers (a : Act) (dst : Option Tmp) (v : Value) : (a.put dst v).defers = a.defers := by
  cases dst <;> rfl
theorem awant_eq {ρ : Ren} {E : Nat → Value} {a : Act} (hE : EnvR ρ E a) (ops : Array Oper) (o : Oper) : Region.wanted o (yielded ops a.tmps) = awant ops E o := by
  unfold Region.wanted awant
  cases o.guard with
  | none => rfl
  | some g =>
    obtain ⟨j, w⟩ := g
    simp only
    cases hd : (ops[j]?).bind (·.dst) with
    | none => simp [yielded, hd]
    | some d =>
      have h1 := hE d
      simp only [yielded, hd, Option.bind_some]
      cases ht : a.tmps[d]? with
      | none =>
        rw [show a.tmps.getD d undef = undef by simp [Array.getD_eq_getD_getElem?, ht]] at h1
        generalize E d = x at h1
        cases h1 with
        | tuple => rfl
      | some y =>
        rw [show a.tmps.getD d undef = y by simp [Array.getD_eq_getD_getElem?, ht]] at h1
        generalize E d = x at h1
        cases h1 <;> first | rfl | (rename_i b; cases b <;> cases w <;> rfl)
theorem Under.child_of {π j t : Nat} (h : Under (AE.child π j) t) : Under π t := (Under.step j .refl).trans h
/-- One operation that is wanted. -/
theorem aexec_sound {P : Program} {call : CallT} {b0 p : Nat} {ρ : Ren} {E : Nat → Value} {H h' : AH} {W : World} {a : Act} {o : Oper} {v : Value} {K : Act → World → Prop} {Q : Exit → Act → World → Prop} (hP : Plain P) (hcall : CallOk P call)
    (h : aexec call P p E H o = some (v, h')) (hE : EnvR ρ E a) (hR : Rel b0 ρ H W) (hf : ∀ t, Under p t → ρ t = none) (hp : p % 2 = 1)
    (hK : ∀ v' ρ' W', Stp b0 p ρ H W ρ' h' W' → VR ρ' v v' → K (a.put o.dst v') W') : o.wp P a W K Q := by
  unfold aexec at h
  unfold Oper.wp
  split at h
  · rename_i u hh hr
    simp only [Option.some.injEq, Prod.mk.injEq] at h
    obtain ⟨rfl, rfl⟩ := h
    obtain ⟨v', W', ρ', h1, h2, h3⟩ := aop_sound hP hr hE hR hf hp
    rw [h1]
    exact hK v' ρ' W' h2 h3
  · rename_i hh hr
    simp only [Option.some.injEq, Prod.mk.injEq] at h
    obtain ⟨rfl, rfl⟩ := h
    obtain ⟨W', ρ', h1, h2⟩ := aop_sound hP hr hE hR hf hp
    rw [h1]
    exact hK undef ρ' W' h2 (VR.undef _)
  · rename_i f args hr
    obtain ⟨args', h1, h2⟩ := aop_sound hP hr hE hR hf hp
    rw [h1]
    refine Calls.mono (hcall f args H p v h' h b0 ρ W args' h2 hR hf hp) ?_
    rintro e W' ⟨v', ρ', rfl, h3, h4⟩
    exact hK v' ρ' W' h3 h4
  · cases h
theorem aseq_sound {P : Program} {call : CallT} {b0 π n : Nat} {ρ0 : Ren} {H0 : AH} {W0 : World} {ops : Array Oper} {Q : Exit → Act → World → Prop} (hP : Plain P) (hcall : CallOk P call) (hπ : π % 2 = 1) (hdst : ∀ o ∈ ops.toList, ∀ d, o.dst = some d → d < n) :
    ∀ (l : List Oper) (i : Nat) (s s' : St) (ρ : Ren) (a : Act) (W : World), i ≤ ops.size → ops.toList.drop i = l → aseq call P π ops l i s = some s' → Inv b0 π n ρ0 H0 W0 ρ s a W → FreshI π (s.c + i) ρ →
      (∀ ρ' a' W', s'.c = s.c → Inv b0 π n ρ0 H0 W0 ρ' s' a' W' → FreshI π (s.c + ops.size) ρ' → Q .normal a' W') → wpOps P ops Q (List.range' i (ops.size - i)) a W
  | [], i, s, s', ρ, a, W, hle, hl, h, hI, hF, hK => by
    have hi : ops.size ≤ i := by simpa using hl
    rw [show ops.size - i = 0 by omega]
    obtain rfl : s = s' := by simpa [aseq] using h
    simp only [List.range'_zero, wpOps]
    exact hK ρ a W rfl hI (fun j t hj ht => hF j t (by omega) ht)
  | o :: l, i, s, s', ρ, a, W, hle, hl, h, hI, hF, hK => by
    have hlt : i < ops.size := by
      rcases Nat.lt_or_ge i ops.size with hlt | hge
      · exact hlt
      · rw [List.drop_eq_nil_of_le (by simpa using hge)] at hl
        cases hl
    have hoi : ops[i]? = some o := by
      have := congrArg (·[0]?) hl
      simpa using this
    have hl' : ops.toList.drop (i + 1) = l := by
      rw [← List.drop_drop, hl]
      rfl
    have hmem : o ∈ ops.toList := by
      rw [Array.mem_toList_iff]
      exact Array.mem_of_getElem? hoi
    obtain ⟨m, hm⟩ : ∃ m, ops.size - i = m + 1 := ⟨ops.size - i - 1, by omega⟩
    rw [hm, List.range'_succ]
    have hm' : m = ops.size - (i + 1) := by omega
    simp only [wpOps, hoi]
    simp only [aseq, astep] at h
    have hd : ∀ d, o.dst = some d → d < a.tmps.size := fun d hd => Nat.lt_of_lt_of_le (hdst o hmem d hd) hI.size
    rw [awant_eq hI.env]
    split at h
    · rename_i hw
      rw [if_pos hw]
      obtain ⟨s1, h1, h2⟩ := Option.bind_eq_some_iff.1 h
      obtain ⟨⟨v, h'⟩, hx, rfl⟩ := Option.map_eq_some_iff.1 h1
      left
      refine aexec_sound hP hcall hx hI.env hI.stp.rel (fun t ht => hF (s.c + i) t (Nat.le_refl _) ht) (child_odd _ _) (fun v' ρ' W' hs hv => ?_)
      rw [hm']
      have hw2 : Stp b0 π ρ s.h W ρ' h' W' := hs.wide (fun t ht => Under.child_of ht)
      refine aseq_sound hP hcall hπ hdst l (i + 1) _ s' ρ' _ W' hlt hl' h2 ⟨hI.env.put hs.ext.1 hv hd, hI.stp.trans hw2, by rw [put_defers]; exact hI.defers, by rw [put_size]; exact hI.size⟩ (fun j t hj ht => ?_) hK
      have hn : ρ t = none := hF j t (by simp only at hj; omega) ht
      cases hr : ρ' t with
      | none => rfl
      | some q =>
        rcases hs.ext.2 t (by rw [hr]; simp) with h5 | h5
        · exact absurd hn h5
        · have := Under.apart ht h5
          simp only at hj
          omega
    · rename_i hw
      rw [if_neg hw]
      simp only [Option.bind_some] at h
      rw [hm']
      refine aseq_sound hP hcall hπ hdst l (i + 1) _ s' ρ _ W hlt hl' h ⟨hI.env.put (fun _ _ e => e) (VR.undef _) hd, hI.stp, by rw [put_defers]; exact hI.defers, by rw [put_size]; exact hI.size⟩ (fun j t hj ht => hF j t (by simp only at hj; omega) ht) hK
end Go.Proofs.Ythdnjihmjdbdkaa.AE
