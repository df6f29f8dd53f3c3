/- The abstract evaluator at code and at calls, and its law. Conditions: none. -/
import Derived.Test.YthdnjihmjdbdkaaAeDraw4
import Derived.LoopN
import Derived.Scope
namespace Go.Proofs.Ythdnjihmjdbdkaa.AE
open Go Go.RowKit
set_option linter.unusedVariables false
set_option linter.unusedSimpArgs false

inductive AX | normal | exit (id : Nat) | ret
def AX.to : AX → Exit
  | .normal => .normal
  | .exit id => .exit id
  | .ret => .ret
inductive LoopR (f : St → Option (AX × St)) : St → AX → St → Prop
  | stop {s : St} {e : AX} {s' : St} (h : f s = some (e, s')) (he : e ≠ .normal) : LoopR f s e s'
  | more {s s1 : St} {e : AX} {s' : St} (h : f s = some (.normal, s1)) (r : LoopR f s1 e s') : LoopR f s e s'
theorem LoopR.fn {f : St → Option (AX × St)} {s : St} {e e2 : AX} {s' s2 : St} (h : LoopR f s e s') (h2 : LoopR f s e2 s2) : e = e2 ∧ s' = s2 := by
  induction h with
  | stop h he =>
    cases h2 with
    | stop h3 he3 =>
      have := h.symm.trans h3
      simp only [Option.some.injEq, Prod.mk.injEq] at this
      exact this
    | more h3 r3 =>
      have := h.symm.trans h3
      simp only [Option.some.injEq, Prod.mk.injEq] at this
      exact (he this.1).elim
  | more h r ih =>
    cases h2 with
    | stop h3 he3 =>
      have := h.symm.trans h3
      simp only [Option.some.injEq, Prod.mk.injEq] at this
      exact (he3 this.1.symm).elim
    | more h3 r3 =>
      have := h.symm.trans h3
      simp only [Option.some.injEq, Prod.mk.injEq] at this
      obtain ⟨_, rfl⟩ := this
      exact ih r3
open Classical in
noncomputable def aloop (f : St → Option (AX × St)) (s : St) : Option (AX × St) := if h : ∃ r : AX × St, LoopR f s r.1 r.2 then some h.choose else none
theorem aloop_eq {f : St → Option (AX × St)} {s : St} {e : AX} {s' : St} (h : LoopR f s e s') : aloop f s = some (e, s') := by
  have hx : ∃ r : AX × St, LoopR f s r.1 r.2 := ⟨(e, s'), h⟩
  unfold aloop
  rw [dif_pos hx]
  obtain ⟨h1, h2⟩ := LoopR.fn hx.choose_spec h
  exact congrArg some (Prod.ext h1 h2)
theorem aloop_some {f : St → Option (AX × St)} {s : St} {r : AX × St} (h : aloop f s = some r) : LoopR f s r.1 r.2 := by
  unfold aloop at h
  split at h
  · rename_i hx
    obtain rfl := Option.some.inj h
    exact hx.choose_spec
  · cases h
noncomputable def acode (call : CallT) (P : Program) (π : Nat) : Code → St → Option (AX × St)
  | .skip, s => some (.normal, s)
  | .label _, s => some (.normal, s)
  | .region _ ops false, s => (aseq call P π ops ops.toList 0 s).map fun s' => (.normal, { s' with c := s.c + ops.size })
  | .region _ ops true, s => (adraw call P π ops s).map (Prod.mk .normal)
  | .seq a b, s => (match acode call P π a s with | some (.normal, s') => acode call P π b s' | r => r)
  | .cond c a b, s => (match evo s.E c with | some (.bool true) => acode call P π a s | some (.bool false) => acode call P π b s | _ => none)
  | .block id c, s => (match acode call P π c s with | some (.exit id', s') => if id' = id then some (.normal, s') else some (.exit id', s') | r => r)
  | .loop c, s => aloop (acode call P π c) s
  | .scope c, s => acode call P π c s
  | .exit id, s => some (.exit id, s)
  | .ret, s => some (.ret, s)
  | _, _ => none
def boundsC (N : Nat) : Code → Bool
  | .region _ ops _ => ops.toList.all fun o => match o.dst with | some d => decide (d < N) | none => true
  | .seq a b => boundsC N a && boundsC N b
  | .cond _ a b => boundsC N a && boundsC N b
  | .block _ c => boundsC N c
  | .loop c => boundsC N c
  | .scope c => boundsC N c
  | _ => true
theorem bounds_region {N : Nat} {ops : Array Oper} (h : (ops.toList.all fun o => match o.dst with | some d => decide (d < N) | none => true) = true) : ∀ o ∈ ops.toList, ∀ d, o.dst = some d → d < N := fun o ho d hd => by
  have := List.all_eq_true.1 h o ho
  rw [hd] at this
  simpa using this
section
variable {P : Program} {call : CallT} {b0 π N : Nat} {ρ0 : Ren} {H0 : AH} {W0 : World}
theorem acode_sound (hm : P.follows .mixedOrders = true) (hP : Plain P) (hcall : CallOk P call) (hπ : π % 2 = 1) : ∀ (co : Code) (s : St) (e : AX) (s' : St) (ρ : Ren) (a : Act) (W : World) (Q : Exit → Act → World → Prop), boundsC N co = true → acode call P π co s = some (e, s') →
    Inv b0 π N ρ0 H0 W0 ρ s a W → FreshI π s.c ρ → (∀ ρ' a' W', Inv b0 π N ρ0 H0 W0 ρ' s' a' W' → FreshI π s'.c ρ' → Q e.to a' W') → co.wp P Q a W
  | .skip, s, e, s', ρ, a, W, Q, hb, h, hI, hF, hQ => by
    simp only [acode, Option.some.injEq, Prod.mk.injEq] at h
    obtain ⟨rfl, rfl⟩ := h
    exact wp_skip (hQ ρ a W hI hF)
  | .label _, s, e, s', ρ, a, W, Q, hb, h, hI, hF, hQ => by
    simp only [acode, Option.some.injEq, Prod.mk.injEq] at h
    obtain ⟨rfl, rfl⟩ := h
    exact wp_label (hQ ρ a W hI hF)
  | .exit _, s, e, s', ρ, a, W, Q, hb, h, hI, hF, hQ => by
    simp only [acode, Option.some.injEq, Prod.mk.injEq] at h
    obtain ⟨rfl, rfl⟩ := h
    exact wp_exit (hQ ρ a W hI hF)
  | .ret, s, e, s', ρ, a, W, Q, hb, h, hI, hF, hQ => by
    simp only [acode, Option.some.injEq, Prod.mk.injEq] at h
    obtain ⟨rfl, rfl⟩ := h
    exact wp_ret (hQ ρ a W hI hF)
  | .region id ops false, s, e, s', ρ, a, W, Q, hb, h, hI, hF, hQ => by
    simp only [acode] at h
    obtain ⟨s1, h1, h2⟩ := Option.map_eq_some_iff.1 h
    simp only [Prod.mk.injEq] at h2
    obtain ⟨rfl, rfl⟩ := h2
    exact aregion_sound hP hcall hπ h1 (bounds_region hb) hI hF (fun ρ' a' W' h3 h4 => hQ ρ' a' W' h3 h4)
  | .region id ops true, s, e, s', ρ, a, W, Q, hb, h, hI, hF, hQ => by
    simp only [acode] at h
    obtain ⟨s1, h1, h2⟩ := Option.map_eq_some_iff.1 h
    simp only [Prod.mk.injEq] at h2
    obtain ⟨rfl, rfl⟩ := h2
    exact adraw_sound hm hP hcall h1 (bounds_region hb) hI hF (fun ρ' a' W' h3 h4 => hQ ρ' a' W' h3 h4)
  | .seq x y, s, e, s', ρ, a, W, Q, hb, h, hI, hF, hQ => by
    simp only [boundsC, Bool.and_eq_true] at hb
    simp only [acode] at h
    refine wp_seq ?_
    cases hx : acode call P π x s with
    | none => rw [hx] at h; cases h
    | some r =>
      obtain ⟨e1, s1⟩ := r
      rw [hx] at h
      cases e1 with
      | normal => exact acode_sound hm hP hcall hπ x s _ s1 ρ a W _ hb.1 hx hI hF (fun ρ' a' W' h3 h4 => acode_sound hm hP hcall hπ y s1 e s' ρ' a' W' Q hb.2 h h3 h4 hQ)
      | exit id =>
        simp only [Option.some.injEq, Prod.mk.injEq] at h
        obtain ⟨rfl, rfl⟩ := h
        exact acode_sound hm hP hcall hπ x s _ s1 ρ a W _ hb.1 hx hI hF hQ
      | ret =>
        simp only [Option.some.injEq, Prod.mk.injEq] at h
        obtain ⟨rfl, rfl⟩ := h
        exact acode_sound hm hP hcall hπ x s _ s1 ρ a W _ hb.1 hx hI hF hQ
  | .cond c x y, s, e, s', ρ, a, W, Q, hb, h, hI, hF, hQ => by
    simp only [boundsC, Bool.and_eq_true] at hb
    simp only [acode] at h
    split at h
    · rename_i hc
      have h1 := evo_sound hI.env hc
      generalize hcv : a.eval c = cv at h1
      cases h1
      exact wp_cond_true hcv (acode_sound hm hP hcall hπ x s e s' ρ a W Q hb.1 h hI hF hQ)
    · rename_i hc
      have h1 := evo_sound hI.env hc
      generalize hcv : a.eval c = cv at h1
      cases h1
      exact wp_cond_false hcv (acode_sound hm hP hcall hπ y s e s' ρ a W Q hb.2 h hI hF hQ)
    · cases h
  | .block id c, s, e, s', ρ, a, W, Q, hb, h, hI, hF, hQ => by
    simp only [boundsC] at hb
    simp only [acode] at h
    refine wp_block ?_
    cases hx : acode call P π c s with
    | none => rw [hx] at h; cases h
    | some r =>
      obtain ⟨e1, s1⟩ := r
      rw [hx] at h
      cases e1 with
      | normal =>
        simp only [Option.some.injEq, Prod.mk.injEq] at h
        obtain ⟨rfl, rfl⟩ := h
        exact acode_sound hm hP hcall hπ c s _ s1 ρ a W _ hb hx hI hF hQ
      | ret =>
        simp only [Option.some.injEq, Prod.mk.injEq] at h
        obtain ⟨rfl, rfl⟩ := h
        exact acode_sound hm hP hcall hπ c s _ s1 ρ a W _ hb hx hI hF hQ
      | exit id' =>
        simp only at h
        refine acode_sound hm hP hcall hπ c s _ s1 ρ a W _ hb hx hI hF (fun ρ' a' W' h3 h4 => ?_)
        simp only [AX.to, Exit.inBlock]
        split at h
        · rename_i hid
          simp only [Option.some.injEq, Prod.mk.injEq] at h
          obtain ⟨rfl, rfl⟩ := h
          rw [if_pos hid]
          exact hQ ρ' a' W' h3 h4
        · rename_i hid
          simp only [Option.some.injEq, Prod.mk.injEq] at h
          obtain ⟨rfl, rfl⟩ := h
          rw [if_neg hid]
          exact hQ ρ' a' W' h3 h4
  | .scope c, s, e, s', ρ, a, W, Q, hb, h, hI, hF, hQ => by
    simp only [boundsC] at hb
    simp only [acode] at h
    refine wp_scope_straight (acode_sound hm hP hcall hπ c s e s' ρ a W _ hb h hI hF (fun ρ' a' W' h3 h4 => ?_))
    have := hQ ρ' a' W' h3 h4
    cases e <;> exact this
  | .loop c, s, e, s', ρ, a, W, Q, hb, h, hI, hF, hQ => by
    simp only [boundsC] at hb
    simp only [acode] at h
    have hl := aloop_some h
    simp only at hl
    have key : ∃ n, ∀ ρ a W, Inv b0 π N ρ0 H0 W0 ρ s a W → FreshI π s.c ρ → Code.rounds P c Q n a W := by
      clear hI hF h
      induction hl with
      | @stop s e s' h he =>
        refine ⟨1, fun ρ a W hI hF => ?_⟩
        refine acode_sound hm hP hcall hπ c s e s' ρ a W _ hb h hI hF (fun ρ' a' W' h3 h4 => ?_)
        have := hQ ρ' a' W' h3 h4
        cases e with
        | normal => exact (he rfl).elim
        | exit id => exact this
        | ret => exact this
      | @more s s1 e s' h r ih =>
        obtain ⟨n, hn⟩ := ih hQ
        refine ⟨n + 1, fun ρ a W hI hF => ?_⟩
        exact acode_sound hm hP hcall hπ c s _ s1 ρ a W _ hb h hI hF (fun ρ' a' W' h3 h4 => hn ρ' a' W' h3 h4)
    obtain ⟨n, hn⟩ := key
    exact wp_loop_rounds n (hn ρ a W hI hF)
  | .rangeFunc .., s, e, s', ρ, a, W, Q, hb, h, hI, hF, hQ => by simp [acode] at h
  | .goto _, s, e, s', ρ, a, W, Q, hb, h, hI, hF, hQ => by simp [acode] at h
  | .refuse _, s, e, s', ρ, a, W, Q, hb, h, hI, hF, hQ => by simp [acode] at h
end
/-! ### calls -/
def ares (P : Program) (h : AH) (E : Nat → Value) : List ResultVar → Option (List Value)
  | [] => some []
  | .tmp t :: r => (ares P h E r).map (E t :: ·)
  | .cell a t :: r => (match aload P t h (E a), ares P h E r with | some v, some l => some (v :: l) | _, _ => none)
def tokenless : Value → Bool
  | .tuple cs => cs.all closed1
  | v => closedV v
def oneV : List Value → Value
  | [v] => v
  | l => .tuple l.toArray
def bound (h h' : AH) : AH := fun t => match h t with | none => none | some _ => h' t
open Classical in
noncomputable def mask (p : Nat) (h h' : AH) : AH := fun t => if h t ≠ none ∨ Under p t then h' t else none
noncomputable def acall (P : Program) : Nat → CallT
  | 0, _, _, _, _ => none
  | n + 1, f, args, h, p =>
    match P.funcs[f]? with
    | none => none
    | some fn =>
      match fn.body with
      | none => none
      | some c =>
        if boundsC fn.ntmps c then
          match acode (acall P n) P p c ⟨fun t => args.getD t undef, h, 0⟩ with
          | some (.exit _, _) => none
          | none => none
          | some (_, s) => (ares P s.h s.E fn.results.toList).map fun l => (oneV l, if tokenless (oneV l) then bound h s.h else mask p h s.h)
        else none
theorem aload_var {P : Program} {b0 : Nat} {ρ : Ren} {H : AH} {W : World} {t : TypeId} {x x' v : Value} (h : aload P t H x = some v) (hx : VR ρ x x') (hR : Rel b0 ρ H W) :
    ∃ v', (do loadVar t (← asAddr x') : Sem Value).run P W = .ok v' W ∧ VR ρ v v' := by
  obtain ⟨v', h1, h2⟩ := aload_sound h hx hR
  refine ⟨v', ?_, h2⟩
  unfold aload at h
  split at h
  · cases hx with
    | ptr o hs => simpa [Instr.loadAt, Instr.sureAddr, asAddr] using h1
  · cases h
theorem ares_sound {P : Program} {b0 : Nat} {ρ : Ren} {H : AH} {E : Nat → Value} {a : Act} {W : World} (hE : EnvR ρ E a) (hR : Rel b0 ρ H W) : ∀ {rs : List ResultVar} {l : List Value}, ares P H E rs = some l →
    ∃ l', (rs.mapM (fun | .tmp t => pure (a.tmps.getD t undef) | .cell c t => do loadVar t (← asAddr (a.tmps.getD c undef)) : ResultVar → Sem Value)).run P W = .ok l' W ∧ LR ρ l l'
  | [], l, h => by
    obtain rfl : [] = l := by simpa [ares] using h
    exact ⟨[], by simp, LR.nil ρ⟩
  | .tmp t :: r, l, h => by
    simp only [ares] at h
    obtain ⟨l1, h1, rfl⟩ := Option.map_eq_some_iff.1 h
    obtain ⟨l', h2, h3⟩ := ares_sound hE hR h1
    refine ⟨a.tmps.getD t undef :: l', ?_, LR.cons (hE t) h3⟩
    rw [List.mapM_cons, Sem.run_bind, Sem.run_pure, Result.andThen_ok, Sem.run_bind, h2, Result.andThen_ok, Sem.run_pure]
  | .cell c t :: r, l, h => by
    simp only [ares] at h
    split at h
    · rename_i v l1 hv h1
      obtain rfl := Option.some.inj h
      obtain ⟨l', h2, h3⟩ := ares_sound hE hR h1
      obtain ⟨v', h4, h5⟩ := aload_var hv (hE c) hR
      refine ⟨v' :: l', ?_, LR.cons h5 h3⟩
      rw [List.mapM_cons, Sem.run_bind, h4, Result.andThen_ok, Sem.run_bind, h2, Result.andThen_ok, Sem.run_pure]
    · cases h
theorem oneV_sound {ρ : Ren} {l : List Value} {l' : Array Value} (h : LR ρ l l'.toList) : VR ρ (oneV l) (if h : l'.size = 1 then l'[0] else .tuple l') := by
  obtain ⟨l'⟩ := l'
  match l, l', h with
  | [], [], h => exact VR.tuple _ _ rfl (fun i hi => by simp at hi)
  | [v], [v'], h => simpa [oneV] using h.tail.1
  | v :: w :: r, v' :: w' :: r', h =>
    simp only [oneV, List.size_toArray, List.length_cons, Nat.reduceEqDiff, dite_false]
    exact .tuple _ _ (by simpa using h.1) (fun i hi => by simpa [List.getD_eq_getElem?_getD, Array.getD_eq_getD_getElem?] using h.2 i (by simpa using hi))
  | [], _ :: _, h => simp [LR] at h
  | [_], [], h => simp [LR] at h
  | [_], _ :: _ :: _, h => simp [LR] at h
  | _ :: _ :: _, [], h => simp [LR] at h
  | _ :: _ :: _, [_], h => simp [LR] at h
theorem acall_ok {P : Program} (hm : P.follows .mixedOrders = true) (hP : Plain P) : ∀ n, CallOk P (acall P n)
  | 0 => fun f args h p v h' hc => by cases hc
  | n + 1 => fun f args h p v h' hc b0 ρ W args' hl hR hf hp => by
    have ih := acall_ok hm hP n
    unfold acall at hc
    split at hc
    · cases hc
    · rename_i fn hfn
      split at hc
      · cases hc
      · rename_i c hbody
        split at hc
        · rename_i hb
          have hstart : Inv b0 p fn.ntmps ρ h W ρ ⟨fun t => args.getD t undef, h, 0⟩ { tmps := args' ++ Array.replicate (fn.ntmps - args'.size) undef, defers := [] } W := by
            refine ⟨fun t => ?_, .refl hR, rfl, by simp; omega⟩
            simp only
            rcases Nat.lt_or_ge t args.length with hlt | hge
            · have h1 := hl.2 t hlt
              have hlt' : t < args'.size := by have := hl.1; simp at this; omega
              simpa [Array.getD_eq_getD_getElem?, Array.getElem?_append_left hlt', List.getD_eq_getElem?_getD] using h1
            · have hge' : args'.size ≤ t := by have := hl.1; simp at this; omega
              rw [List.getD_eq_getElem?_getD, List.getElem?_eq_none hge, Array.getD_eq_getD_getElem?, Array.getElem?_append_right hge', Array.getElem?_replicate]
              split <;> exact VR.undef ρ
          refine calls_of_wp hfn hbody ?_
          have fin : ∀ {e s l}, acode (acall P n) P p c ⟨fun t => args.getD t undef, h, 0⟩ = some (e, s) → (∀ id, e ≠ .exit id) → ares P s.h s.E fn.results.toList = some l → v = oneV l → h' = (if tokenless (oneV l) then bound h s.h else mask p h s.h) →
              c.wp P (bodyPost P fn fun e W' => ∃ v' ρ', e = .returned v' ∧ Stp b0 p ρ h W ρ' h' W' ∧ VR ρ' v v') { tmps := args' ++ Array.replicate (fn.ntmps - args'.size) undef, defers := [] } W := by
            intro e s l hx hne hr hv hh'
            refine acode_sound hm hP ih hp c _ e s ρ _ W _ hb hx hstart (fun j t _ ht => hf t (Under.child_of ht)) (fun ρ' a' W' hI _ => ?_)
            have hpost : a'.defers = [] ∧ ∃ w, (results fn a'.tmps).run P W' = .ok w W' ∧ ∃ v' ρ', Ending.returned w = .returned v' ∧ Stp b0 p ρ h W ρ' h' W' ∧ VR ρ' v v' := by
              obtain ⟨l', h1, h2⟩ := ares_sound hI.env hI.stp.rel hr
              refine ⟨hI.defers, (if h : l'.toArray.size = 1 then l'.toArray[0] else .tuple l'.toArray), ?_, _, ρ', rfl, ?_, ?_⟩
              · unfold results
                rw [Sem.run_bind, Array.mapM_eq_mapM_toList, Sem.run_map]
                exact (congrArg (fun r => (Result.andThen r fun (x : List Value) w' => Result.ok x.toArray w').andThen fun (x : Array Value) w' => (Pure.pure (if h : x.size = 1 then x[0] else Value.tuple x) : Sem Value).run P w') h1).trans rfl
              · rw [hh']
                split
                · refine hI.stp.sub (fun t o ho => ?_)
                  unfold bound at ho
                  cases hh : h t with
                  | none => rw [hh] at ho; cases ho
                  | some q => rw [hh] at ho; exact ho
                · refine hI.stp.sub (fun t o ho => ?_)
                  unfold mask at ho
                  split at ho
                  · exact ho
                  · cases ho
              · rw [hv]
                exact oneV_sound (l' := l'.toArray) (by simpa using h2)
            cases e with
            | normal => exact hpost
            | exit id => exact (hne id rfl).elim
            | ret => exact hpost
          split at hc
          · cases hc
          · cases hc
          · rename_i e s hne hx
            obtain ⟨l, hl2, hvl⟩ := Option.map_eq_some_iff.1 hc
            simp only [Prod.mk.injEq] at hvl
            refine fin hx (fun id hid => ?_) hl2 hvl.1.symm hvl.2.symm
            subst hid
            first | exact hne id rfl | exact hne id s rfl
        · cases hc
end Go.Proofs.Ythdnjihmjdbdkaa.AE
