/- The abstract evaluator at a row of operations that come in an order not told: its law for every order. Conditions: none. -/
import Derived.Test.YthdnjihmjdbdkaaAeSeq
namespace Go.Proofs.Ythdnjihmjdbdkaa.AE
open Go Go.RowKit
set_option linter.unusedVariables false
set_option linter.unusedSimpArgs false

/-! ### what an operation's answer hangs on -/
theorem evs_congr {E E' : Nat → Value} : ∀ {xs : List Operand}, (∀ x ∈ xs, evo E x = evo E' x) → evs E xs = evs E' xs
  | [], _ => rfl
  | x :: r, h => by simp only [evs, h x (by simp), evs_congr (xs := r) (fun y hy => h y (by simp [hy]))]
theorem evp_congr {E E' : Nat → Value} : ∀ {xs : List (Nat × Operand)}, (∀ x ∈ xs.map (·.2), evo E x = evo E' x) → evp E xs = evp E' xs
  | [], _ => rfl
  | x :: r, h => by simp only [evp, h x.2 (by simp), evp_congr (xs := r) (fun y hy => h y (by simp only [List.map_cons, List.mem_cons]; exact .inr hy))]
theorem acall1_congr {P : Program} {p : Nat} {E E' : Nat → Value} {H : AH} {c : Call} (h : ∀ x ∈ c.operands, evo E x = evo E' x) : acall1 P p E H c = acall1 P p E' H c := by
  obtain ⟨callee, args, ats⟩ := c
  have ha : evs E args.toList = evs E' args.toList := evs_congr fun x hx => h x (by simp only [Call.operands, Array.mem_append]; exact .inr (by simpa using hx))
  unfold acall1
  simp only [ha]
  cases callee with
  | value f =>
    have hf : evo E f = evo E' f := h f (by simp [Call.operands])
    simp only [hf]
  | invoke r m => rfl
  | builtin b => cases b <;> rfl
theorem aop_congr {P : Program} {p : Nat} {E E' : Nat → Value} {H : AH} {o : Oper} (h : ∀ x ∈ o.op.operands, evo E x = evo E' x) : aop P p E H o = aop P p E' H o := by
  obtain ⟨dst, op, type, pos, after, guard⟩ := o
  cases op <;> simp only [Op.operands] at h
  case build t ps => simp only [aop, evp_congr (xs := ps.toList) fun x hx => h x (by simpa using hx)]
  case buildSlice t n ps => simp only [aop, evp_congr (xs := ps.toList) fun x hx => h x (by simpa using hx)]
  case makeFunc fn first captured =>
    have hc : evs E captured.toList = evs E' captured.toList := evs_congr fun x hx => h x (by simp only [Array.mem_append]; exact .inr (by simpa using hx))
    cases fn <;> simp only [aop, hc]
  case call c => simp only [aop, acall1_congr h]
  case makeMap t r => cases r <;> simp only [aop]
  case slice t x lo hi mx =>
    have hx : evo E x = evo E' x := h x (by simp)
    cases lo <;> cases hi <;> cases mx <;> simp only [aop, hx]
    · rename_i a
      rw [h a (by simp)]
    · rename_i a
      rw [h a (by simp)]
    · rename_i a b
      rw [h a (by simp), h b (by simp)]
  all_goals simp only [aop]
  all_goals simp_all
theorem evo_congr {E E' : Nat → Value} {x : Operand} (h : ∀ t, x = .tmp t → E t = E' t) : evo E x = evo E' x := by
  cases x with
  | tmp t => simp only [evo, h t rfl]
  | _ => rfl
theorem aexec_congr {call : CallT} {P : Program} {p : Nat} {E E' : Nat → Value} {H : AH} {o : Oper} {ops : Array Oper} (h : ∀ t ∈ o.looksAt ops, E t = E' t) : aexec call P p E H o = aexec call P p E' H o := by
  unfold aexec
  rw [aop_congr (E := E) (E' := E') fun x hx => evo_congr fun t ht => h t (by
    subst ht
    exact List.mem_append_left _ (List.mem_filterMap.2 ⟨.tmp t, by simpa using hx, rfl⟩))]
theorem awant_congr {E E' : Nat → Value} {o : Oper} {ops : Array Oper} (h : ∀ t ∈ o.looksAt ops, E t = E' t) : awant ops E o = awant ops E' o := by
  unfold awant
  cases hg : o.guard with
  | none => rfl
  | some g =>
    obtain ⟨j, w⟩ := g
    simp only
    cases hd : (ops[j]?).bind (·.dst) with
    | none => rfl
    | some d => simp only [h d (by simp [Oper.looksAt, hg, hd])]

/-! ### a step on a part of the heap -/
def over (Hall Hin Hout : AH) : AH := fun t => match Hout t with | some o => some o | none => (match Hin t with | some _ => none | none => Hall t)
theorem Stp.over {b0 p : Nat} {ρ ρ' : Ren} {Hin Hout Hall : AH} {W W' : World} (h : Stp b0 p ρ Hin W ρ' Hout W') (hA : Rel b0 ρ Hall W) (hin : ∀ t o, Hin t = some o → Hall t = some o) : Stp b0 p ρ Hall W ρ' (AE.over Hall Hin Hout) W' := by
  have notOwn : ∀ t o, Hall t = some o → Hin t = none → ∀ s, ρ t = some s → ¬ Own ρ Hin s.b := by
    rintro t o ho hn s hs ⟨t', s', h1, h2, h3, h4⟩
    obtain ⟨s1, e1, _, hod, hev⟩ := (hA.tok t o ho).slot
    obtain rfl : s = s1 := Option.some.inj (hs.symm.trans e1)
    obtain ⟨o', ho'⟩ := Option.ne_none_iff_exists'.1 h2
    have hA' := hin t' o' ho'
    rcases Nat.mod_two_eq_zero_or_one t with h0 | h0
    · obtain ⟨s2, e2, _, hod2, _⟩ := (hA.tok t' o' hA').slot
      obtain rfl : s' = s2 := Option.some.inj (h3.symm.trans e2)
      have := hod2 h1
      have := hev h0
      omega
    · have := hA.inj t' t s' s h1 h0 (by rw [hA']; simp) (by rw [ho]; simp) h3 hs h4
      subst this
      exact h2 hn
  have spl : ∀ t o, AE.over Hall Hin Hout t = some o → Hout t = some o ∨ (Hin t = none ∧ Hall t = some o) := by
    intro t o ho
    unfold AE.over at ho
    cases hout : Hout t with
    | some x => rw [hout] at ho; exact .inl ho
    | none =>
      rw [hout] at ho
      simp only at ho
      cases hi : Hin t with
      | some x => rw [hi] at ho; cases ho
      | none => rw [hi] at ho; exact .inr ⟨rfl, ho⟩
  have spl' : ∀ t, AE.over Hall Hin Hout t ≠ none → Hout t ≠ none ∨ ∃ o, (Hin t = none ∧ Hall t = some o) := by
    intro t ht
    obtain ⟨o, ho⟩ := Option.ne_none_iff_exists'.1 ht
    rcases spl t o ho with h1 | h1
    · exact .inl (by rw [h1]; simp)
    · exact .inr ⟨o, h1⟩
  have mix : ∀ t t' s s', t % 2 = 1 → Hout t ≠ none → (∃ o, Hin t' = none ∧ Hall t' = some o) → ρ' t = some s → ρ' t' = some s' → s.b = s'.b → False := by
    rintro t t' s s' h1 h2 ⟨o, h3, h4⟩ h5 h6 h7
    obtain ⟨s1, e1, hlt, _, _⟩ := (hA.tok t' o h4).slot
    obtain rfl : s' = s1 := Option.some.inj (h6.symm.trans (h.ext.1 _ _ e1))
    rcases h.own s.b ⟨t, s, h1, h2, h5, rfl⟩ with h8 | h8
    · exact notOwn t' o h4 h3 s' e1 (h7 ▸ h8)
    · omega
  refine ⟨h.ext, ⟨fun t o ho => ?_, ?_, h.rel.le⟩, h.size, ?_, ?_, ?_, h.same⟩
  · rcases spl t o ho with h1 | ⟨h1, h2⟩
    · exact h.rel.tok t o h1
    · refine (hA.tok t o h2).mono h.ext.1 (fun s hs => ?_)
      obtain ⟨s1, e1, hlt, _, _⟩ := (hA.tok t o h2).slot
      obtain rfl : s = s1 := Option.some.inj (hs.symm.trans e1)
      exact h.frame _ hlt (notOwn t o h2 h1 s hs)
  · intro t t' s s' ht ht' h1 h2 h3 h4 h5
    rcases spl' t h1 with h6 | h6 <;> rcases spl' t' h2 with h7 | h7
    · exact h.rel.inj t t' s s' ht ht' h6 h7 h3 h4 h5
    · exact (mix t t' s s' ht h6 h7 h3 h4 h5).elim
    · exact (mix t' t s' s ht' h7 h6 h4 h3 h5.symm).elim
    · obtain ⟨o, _, h6⟩ := h6
      obtain ⟨o', _, h7⟩ := h7
      obtain ⟨s1, e1, _⟩ := (hA.tok t o h6).slot
      obtain ⟨s2, e2, _⟩ := (hA.tok t' o' h7).slot
      obtain rfl : s = s1 := Option.some.inj (h3.symm.trans (h.ext.1 _ _ e1))
      obtain rfl : s' = s2 := Option.some.inj (h4.symm.trans (h.ext.1 _ _ e2))
      exact hA.inj t t' s s' ht ht' (by rw [h6]; simp) (by rw [h7]; simp) e1 e2 h5
  · intro b hb hn
    refine h.frame b hb (fun ⟨t, s, h1, h2, h3, h4⟩ => hn ⟨t, s, h1, ?_, h3, h4⟩)
    obtain ⟨o, ho⟩ := Option.ne_none_iff_exists'.1 h2
    rw [hin t o ho]
    simp
  · rintro b ⟨t, s, h1, h2, h3, h4⟩
    rcases spl' t h2 with h6 | ⟨o, _, h6⟩
    · rcases h.own b ⟨t, s, h1, h6, h3, h4⟩ with ⟨t', s', g1, g2, g3, g4⟩ | h7
      · obtain ⟨o, ho⟩ := Option.ne_none_iff_exists'.1 g2
        exact .inl ⟨t', s', g1, by rw [hin t' o ho]; simp, g3, g4⟩
      · exact .inr h7
    · obtain ⟨s1, e1, _⟩ := (hA.tok t o h6).slot
      obtain rfl : s = s1 := Option.some.inj (h3.symm.trans (h.ext.1 _ _ e1))
      exact .inl ⟨t, s, h1, by rw [h6]; simp, e1, h4⟩
  · intro t ht
    rcases spl' t ht with h6 | ⟨o, _, h6⟩
    · rcases h.dom t h6 with h7 | h7
      · obtain ⟨o, ho⟩ := Option.ne_none_iff_exists'.1 h7
        exact .inl (by rw [hin t o ho]; simp)
      · exact .inr h7
    · exact .inl (by rw [h6]; simp)
theorem Rel.sub {b0 : Nat} {ρ : Ren} {H H' : AH} {W : World} (h : Rel b0 ρ H W) (hs : ∀ t o, H' t = some o → H t = some o) : Rel b0 ρ H' W := by
  refine ⟨fun t o ho => h.tok t o (hs t o ho), fun t t' s s' h1 h2 h3 h4 => h.inj t t' s s' h1 h2 ?_ ?_, h.le⟩
  · obtain ⟨o, ho⟩ := Option.ne_none_iff_exists'.1 h3
    rw [hs t o ho]; simp
  · obtain ⟨o, ho⟩ := Option.ne_none_iff_exists'.1 h4
    rw [hs t' o ho]; simp
theorem Stp.sub {b0 p : Nat} {ρ ρ' : Ren} {H H' H'' : AH} {W W' : World} (h : Stp b0 p ρ H W ρ' H' W') (hs : ∀ t o, H'' t = some o → H' t = some o) : Stp b0 p ρ H W ρ' H'' W' := by
  have hn : ∀ t, H'' t ≠ none → H' t ≠ none := fun t ht => by
    obtain ⟨o, ho⟩ := Option.ne_none_iff_exists'.1 ht
    rw [hs t o ho]; simp
  exact ⟨h.ext, h.rel.sub hs, h.size, h.frame, fun b ⟨t, s, h1, h2, h3, h4⟩ => h.own b ⟨t, s, h1, hn t h2, h3, h4⟩, fun t ht => h.dom t (hn t ht), h.same⟩
end Go.Proofs.Ythdnjihmjdbdkaa.AE
