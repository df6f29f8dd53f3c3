/- Functions that write into a slice of plain rows that is loaned to them. Conditions: none. -/
import Derived.Test.YthdnjihmjdbdkaaVlLib
namespace Go.Proofs.Ythdnjihmjdbdkaa.AE
open Go Go.RowKit
set_option linter.unusedVariables false
set_option linter.unusedSimpArgs false
/-! ### a temporary that is never written -/
def noW (t : Nat) : Code → Bool
  | .region _ ops false => ops.toList.all fun o => o.dst != some t
  | .region _ _ true => false
  | .seq a b => noW t a && noW t b
  | .cond _ a b => noW t a && noW t b
  | .block _ c => noW t c
  | .loop c => noW t c
  | .scope c => noW t c
  | _ => true
theorem putE_offW {E : Nat → Value} {d : Option Tmp} {v : Value} {t : Nat} (h : d ≠ some t) : putE E d v t = E t := by
  cases d with
  | none => rfl
  | some d =>
    have : ¬ t = d := fun e => h (by rw [e])
    simp only [putE, if_neg this]
section
variable {call : CallT} {P : Program} {π t : Nat}
theorem astep_noW {ops : Array Oper} {i : Nat} {o : Oper} {s s' : St} (hd : o.dst ≠ some t) (h : astep call P π ops i o s = some s') : s'.E t = s.E t := by
  unfold astep at h
  split at h
  · obtain ⟨r, h1, rfl⟩ := Option.map_eq_some_iff.1 h
    exact putE_offW hd
  · obtain rfl := Option.some.inj h
    exact putE_offW hd
theorem aseq_noW {ops : Array Oper} : ∀ {l : List Oper} {i : Nat} {s s' : St}, (∀ o ∈ l, o.dst ≠ some t) → aseq call P π ops l i s = some s' → s'.E t = s.E t
  | [], i, s, s', _, h => by
    obtain rfl := Option.some.inj h
    rfl
  | o :: r, i, s, s', hd, h => by
    unfold aseq at h
    obtain ⟨s1, h1, h2⟩ := Option.bind_eq_some_iff.1 h
    rw [aseq_noW (fun o ho => hd o (by simp [ho])) h2, astep_noW (hd o (by simp)) h1]
theorem loop_noW {f : St → Option (AX × St)} (hf : ∀ s e s', f s = some (e, s') → s'.E t = s.E t) {s : St} {e : AX} {s' : St} (h : LoopR f s e s') : s'.E t = s.E t := by
  induction h with
  | stop h _ => exact hf _ _ _ h
  | more h _ ih => rw [ih, hf _ _ _ h]
theorem acode_noW : ∀ (co : Code) (s : St) (e : AX) (s' : St), noW t co = true → acode call P π co s = some (e, s') → s'.E t = s.E t
  | .skip, s, e, s', _, h => by simp only [acode, Option.some.injEq, Prod.mk.injEq] at h; rw [← h.2]
  | .label _, s, e, s', _, h => by simp only [acode, Option.some.injEq, Prod.mk.injEq] at h; rw [← h.2]
  | .exit _, s, e, s', _, h => by simp only [acode, Option.some.injEq, Prod.mk.injEq] at h; rw [← h.2]
  | .ret, s, e, s', _, h => by simp only [acode, Option.some.injEq, Prod.mk.injEq] at h; rw [← h.2]
  | .region _ ops false, s, e, s', hn, h => by
    simp only [acode] at h
    obtain ⟨s1, h1, h2⟩ := Option.map_eq_some_iff.1 h
    simp only [Prod.mk.injEq] at h2
    obtain ⟨_, rfl⟩ := h2
    have h3 : s1.E t = s.E t := aseq_noW (fun o ho e => by
      have := List.all_eq_true.1 hn o ho
      simp [e] at this) h1
    exact h3
  | .region _ ops true, s, e, s', hn, h => by cases hn
  | .seq a b, s, e, s', hn, h => by
    simp only [noW, Bool.and_eq_true] at hn
    simp only [acode] at h
    cases hx : acode call P π a s with
    | none => rw [hx] at h; cases h
    | some r =>
      obtain ⟨e1, s1⟩ := r
      rw [hx] at h
      have h1 := acode_noW a s e1 s1 hn.1 hx
      cases e1 with
      | normal => exact (acode_noW b s1 e s' hn.2 h).trans h1
      | exit id =>
        simp only [Option.some.injEq, Prod.mk.injEq] at h
        rw [← h.2]; exact h1
      | ret =>
        simp only [Option.some.injEq, Prod.mk.injEq] at h
        rw [← h.2]; exact h1
  | .cond c a b, s, e, s', hn, h => by
    simp only [noW, Bool.and_eq_true] at hn
    simp only [acode] at h
    split at h
    · exact acode_noW a s e s' hn.1 h
    · exact acode_noW b s e s' hn.2 h
    · cases h
  | .block id c, s, e, s', hn, h => by
    simp only [acode] at h
    cases hx : acode call P π c s with
    | none => rw [hx] at h; cases h
    | some r =>
      obtain ⟨e1, s1⟩ := r
      rw [hx] at h
      have h1 := acode_noW c s e1 s1 hn hx
      cases e1 with
      | normal =>
        simp only [Option.some.injEq, Prod.mk.injEq] at h
        rw [← h.2]; exact h1
      | exit id' =>
        simp only at h
        split at h <;> (simp only [Option.some.injEq, Prod.mk.injEq] at h; rw [← h.2]; exact h1)
      | ret =>
        simp only [Option.some.injEq, Prod.mk.injEq] at h
        rw [← h.2]; exact h1
  | .loop c, s, e, s', hn, h => by
    simp only [acode] at h
    exact loop_noW (fun s e s' h => acode_noW c s e s' hn h) (aloop_some h)
  | .scope c, s, e, s', hn, h => acode_noW c s e s' hn (by simpa only [acode] using h)
end
/-! ### plain rows -/
def sc : T → Bool
  | .bool _ => true
  | .int _ _ => true
  | .str _ => true
  | _ => false
def scR (rows : List (List T)) : Prop := ∀ r ∈ rows, ∀ t ∈ r, sc t = true
theorem sc_clean {t : T} (h : sc t = true) : Clean t := by
  cases t <;> first | exact .bool _ | exact .int _ _ | exact .str _ | (simp [sc] at h; done)
theorem SL.sc {hf h : AH} : ∀ {ts : List T} {vs : List Value} {N : List Nat}, SL hf h ts vs N → (∀ t ∈ ts, AE.sc t = true) → N = []
  | _, _, _, .nil, _ => rfl
  | _, _, _, .cons (t := t) hs hr, hc => by
    rw [SL.sc hr (fun t ht => hc t (by simp [ht]))]
    have h1 := hc t (by simp)
    cases hs with
    | fz hr => rfl
    | _ => simp [AE.sc] at h1
theorem scR.flat {rows : List (List T)} (h : scR rows) : ∀ t ∈ rows.flatten, sc t = true := fun t ht => by
  obtain ⟨r, hr, htr⟩ := List.mem_flatten.1 ht
  exact h r hr t htr
theorem S.slInv {hf h : AH} {sz : Nat} {rows : List (List T)} {v : Value} {N : List Nat} (hs : S hf h (.sl true sz rows) v N) : (rows = [] ∧ N = [] ∧ (v = .slice none 0 0 ∨ ∃ a o, v = .slice (some ⟨a, o, none⟩) 0 0)) ∨ ∃ a cs M m, N = a :: M ∧ v = .slice (some ⟨a, 0, none⟩) rows.length m ∧ 0 < m ∧ h a = some (.cells sz cs) ∧ a % 2 = 1 ∧ (∀ r ∈ rows, r.length = sz) ∧ rows.length * sz ≤ cs.length ∧ SL hf h rows.flatten (cs.take (rows.length * sz)) M := by
  cases hs with
  | fz hr => cases hr
  | ow0 => exact .inl ⟨rfl, rfl, .inl rfl⟩
  | owe sz a o => exact .inl ⟨rfl, rfl, .inr ⟨a, o, rfl⟩⟩
  | ow sz rows m hm hk hodd hlen hfit hsl => exact .inr ⟨_, _, _, m, rfl, rfl, hm, hk, hodd, hlen, hfit, hsl⟩
/-- Called with a slice that reads as rows, f leaves it reading as rows', and leaves all else that stood. -/
def Mut (call : CallT) (f : FuncId) (sz : Nat) (rows : List (List T)) (us : List T) (r : Int) (rows' : List (List T)) : Prop := ∀ (h : AH) (p : Nat) (hf : AH) (v0 : Value) (N : List Nat) (vs : List Value), Fr p h → (∀ b o, hf b = some o → h b = some o ∧ b ∉ N) → S (fun _ => none) h (.sl true sz rows) v0 N → N.Nodup → RL hf us vs →
  CallS call f (v0 :: vs) h p (fun v h' => (∀ b, h b ≠ none → b ∉ N → h' b = h b) ∧ v = .int .i64 r ∧ S (fun _ => none) h' (.sl true sz rows') v0 N)
def vmut (rt : Tmp) (r : Int) (sz : Nat) (rows' : List (List T)) : AX → Env → Objs → Nat → Prop
  | .exit _, _, _, _ => False
  | _, E, O, _ => gE E rt = .int .i64 r ∧ ∃ k, gE E 0 = .os sz k 0 rows'.length ∧ gO O k = some (.rows sz rows')
theorem vmut.r {rt : Tmp} {r r0 : Int} {sz k n : Nat} {rows rows' : List (List T)} {E : Env} {O : Objs} {nx : Nat} (h1 : gE E rt = .int .i64 r0) (h2 : gE E 0 = .os sz k 0 n) (h3 : gO O k = some (.rows sz rows)) (e1 : r0 = r) (e2 : rows = rows') (e3 : n = rows.length) : vmut rt r sz rows' .ret E O nx := by
  subst e1
  subst e2
  subst e3
  exact ⟨h1, k, h2, h3⟩
theorem Mut.intro {P : Program} {f : FuncId} {fn : Func} {c : Code} {n sz : Nat} {rt : Tmp} {us : List T} {r : Int} {rows rows' : List (List T)} (hf : P.funcs[f]? = some fn) (hb : fn.body = some c) (hc : boundsC fn.ntmps c = true) (hrs : fn.results.toList = [.tmp rt]) (hn : noW 0 c = true) (hsc : scR rows) (hsc' : scR rows') {E0 : Env} (hE : tenv 1 us = E0) (hr : VRun (acall P n) P c ((0, .os sz 0 0 rows.length) :: E0) [(0, some (.rows sz rows))] 1 (vmut rt r sz rows')) : Mut (acall P (n + 1)) f sz rows us r rows' := by
  subst hE
  intro h p hfr v0 N vs hfp hfN hS hnd hvs
  classical
  let hb0 : AH := fun b => if b ∈ N then none else h b
  have hb1 : ∀ b, b ∉ N → hb0 b = h b := fun b hb => if_neg hb
  have hb2 : ∀ b, b ∈ N → hb0 b = none := fun b hb => if_pos hb
  have hb3 : ∀ b o, hb0 b = some o → b ∉ N ∧ h b = some o := fun b o hb => by
    by_cases hm : b ∈ N
    · rw [hb2 b hm] at hb; cases hb
    · exact ⟨hm, (hb1 b hm).symm.trans hb⟩
  have hs0 : SR p ⟨hb0, fun b => b ∈ N⟩ (fun _ => none) hb0 (fun _ => none) (tenv 1 us) [] 0 (fun t => (v0 :: vs).getD t undef) h := by
    refine ⟨fun t => ?_, fun k o hk => (by cases hk), fun a o ha => ⟨(hb3 a o ha).2, rfl⟩, fun a k ha => (by cases ha), fun _ _ => rfl, fun t ht => ?_⟩
    · rw [gE_tenv]
      split
      · exact .any _
      · cases t with
        | zero => exact absurd (by omega) ‹¬ 0 < 1›
        | succ t =>
          rw [Nat.add_sub_cancel, List.getD_cons_succ]
          rcases Nat.lt_or_ge t us.length with h1 | h1
          · exact .fz ((hvs.2 t h1).mono (fun b o hb => by rw [hb1 b (hfN b o hb).2]; exact (hfN b o hb).1))
          · rw [List.getD_eq_getElem?_getD, List.getElem?_eq_none h1]
            exact .any _
    · by_cases hm : t ∈ N
      · exact .inr (.inr hm)
      · exact .inl (by show hb0 t ≠ none; rw [hb1 t hm]; exact ht)
  obtain ⟨σ, own, hs1, _, hv, _⟩ := S.adopt hS hs0 hnd (fun a ha => ⟨.inr ha, hb2 a ha, hS.names a ha, hb2 a ha, rfl⟩)
  have hs2 := hs1.put hv (some 0)
  have hEa : putE (fun t => (v0 :: vs).getD t undef) (some 0) v0 = fun t => (v0 :: vs).getD t undef := by
    funext t
    cases t with
    | zero => rfl
    | succ t => rfl
  rw [hEa] at hs2
  unfold VRun at hr
  have hrun := hr p _ σ _ own _ h 0 hs2
  have hrun2 : Run (acall P n) P p c ⟨fun t => (v0 :: vs).getD t undef, h, 0⟩ (fun e s => KK p ⟨hb0, fun b => b ∈ N⟩ (vmut rt r sz rows' e) s.E s.h ∧ s.E 0 = v0) := by
    unfold Run at hrun ⊢
    intro hfc
    obtain ⟨e, s', h1, h2, h3⟩ := hrun hfc
    exact ⟨e, s', h1, h2, h3, acode_noW _ _ _ _ hn h1⟩
  refine CallS.intro (rs := [.tmp rt]) hf hb hc hfp hrs (Run.mono hrun2 ?_)
  rintro e s' ⟨⟨σ', hf', own', E, O, nx, h1, h2⟩, h0⟩
  have key : (gE E rt = .int .i64 r ∧ ∃ k, gE E 0 = .os sz k 0 rows'.length ∧ gO O k = some (.rows sz rows')) → ∃ l, ares P s'.h s'.E [.tmp rt] = some l ∧ (fun v h' => (∀ b, h b ≠ none → b ∉ N → h' b = h b) ∧ v = .int .i64 r ∧ S (fun _ => none) h' (.sl true sz rows') v0 N) (oneV l) (if tokenless (oneV l) then bound h s'.h else mask p h s'.h) := by
    rintro ⟨g1, k, g2, g3⟩
    have e1 := h1.env rt
    rw [g1] at e1
    have e2 := e1.intInv
    refine ⟨[.int .i64 r], ares_tmp (congrArg some e2) rfl, ?_⟩
    have ht : tokenless (oneV [Value.int .i64 r]) = true := rfl
    rw [if_pos ht]
    have hbd : ∀ b, h b ≠ none → bound h s'.h b = s'.h b := fun b hb => by
      unfold bound
      cases hh : h b with
      | none => exact absurd hh hb
      | some o => rfl
    refine ⟨fun b hb hbN => ?_, rfl, ?_⟩
    · rw [hbd b hb]
      have e3 : hf' b = hb0 b := h1.base b (by show hb0 b ≠ none; rw [hb1 b hbN]; exact hb)
      rw [hb1 b hbN] at e3
      obtain ⟨o, ho⟩ := Option.ne_none_iff_exists'.1 hb
      rw [ho] at e3
      rw [(h1.fro b o e3).1, ho]
    · have e3 := h1.env 0
      rw [g2, h0] at e3
      obtain ⟨M, hM1, hM2, e4⟩ := h1.objAt g3
      obtain ⟨_, ⟨a, m, e5, e6, e7⟩ | ⟨e6, _, e7, e8⟩⟩ := e3.osInv
      · rw [e6] at e4
        rw [Nat.zero_mul] at e5
        cases e4 with
        | rows hh hodd hlen hfit hsl =>
          obtain rfl := hsl.sc hsc'.flat
          rcases hS.slInv with ⟨_, _, e9 | ⟨_, _, e9⟩⟩ | ⟨a2, cs2, M2, m2, rfl, e9, e10, e11, e12, e13, e14, e15⟩
          · rw [e5] at e9; exact absurd e9 (by simp)
          · rw [e5] at e9
            simp only [Value.slice.injEq] at e9
            omega
          · obtain rfl := e15.sc hsc.flat
            rw [e5] at e9
            simp only [Value.slice.injEq, Option.some.injEq, Addr.mk.injEq] at e9
            obtain ⟨⟨rfl, _⟩, _⟩ := e9
            subst e5
            refine S.mono (fun _ _ e => e) (S.clean (.ow sz rows' m e7 hh hodd hlen hfit hsl) (.sl _ _ fun r hr t ht => sc_clean (hsc' r hr t ht))) (fun b hb => ?_)
            obtain rfl := List.mem_singleton.1 hb
            exact hbd _ (by rw [e11]; simp)
      · obtain rfl := List.eq_nil_of_length_eq_zero e7
        rcases hS.slInv with ⟨_, rfl, _⟩ | ⟨a2, cs2, M2, m2, rfl, e9, e10, e11⟩
        · rcases e8 with rfl | ⟨a, o, rfl⟩
          · exact .ow0 sz
          · exact .owe sz a o
        · rcases e8 with e8 | ⟨a, o, e8⟩
          · rw [e9] at e8; exact absurd e8 (by simp)
          · rw [e9] at e8
            simp only [Value.slice.injEq] at e8
            omega
  cases e with
  | normal => unfold fin; exact key h2
  | ret => unfold fin; exact key h2
  | exit id => exact h2.elim
section
variable {call : CallT} {P : Program} {E : Env} {O : Objs} {d : Option Tmp} {ty : TypeId} {ps : String} {af : Array Edge} {g : Option (Nat × Bool)} {nx : Nat}
theorem OC.callMut {f : FuncId} {args : Array Operand} {tys : Array TypeId} {ts : List T} {sz k n : Nat} {r : Int} {rows rows' : List (List T)} (hb : hasBody P f = true) (ha : VEvs E args.toList (.os sz k 0 n :: ts)) (hk : gO O k = some (.rows sz rows)) (hn : n = rows.length) (hts : ∀ t ∈ ts, isPl t = true) (hsc : scR rows) (hsc' : scR rows') (hp : Mut call f sz rows ts r rows') :
    OC call P E O nx ⟨d, .call ⟨.value (.func f), args, tys⟩, ty, ps, af, g⟩ (.int .i64 r) ((k, some (.rows sz rows')) :: O) nx [k] := ⟨Nat.le_refl _, fun q p h0 σ hf own Ea h hs hu hF => by
  subst hn
  obtain ⟨vs, h1, h2⟩ := ha σ hf nx Ea hs.env
  obtain ⟨v0, l, rfl, h3, h4⟩ := h2.tail
  obtain ⟨N, hN1, hN2, h5⟩ := hs.objAt hk
  have hS : ∃ N', S (fun _ => none) h (.sl true sz rows) v0 N' ∧ N'.Nodup ∧ (∀ a ∈ N', own a = some k) ∧ ((∃ a M m, N' = a :: M ∧ σ k = some a ∧ v0 = .slice (some ⟨a, 0, none⟩) rows.length m ∧ 0 < m) ∨ (N' = [] ∧ rows = [] ∧ σ k = none ∧ (v0 = .slice none 0 0 ∨ ∃ a o, v0 = .slice (some ⟨a, o, none⟩) 0 0))) := by
    obtain ⟨_, ⟨a, m, e5, e6, e7⟩ | ⟨e6, _, e7, e8⟩⟩ := h3.osInv
    · rw [e6] at h5
      rw [Nat.zero_mul] at e5
      cases h5 with
      | rows hh hodd hlen hfit hsl =>
        subst e5
        exact ⟨_, S.clean (.ow sz rows m e7 hh hodd hlen hfit hsl) (.sl _ _ fun r hr t ht => sc_clean (hsc r hr t ht)), hN1, hN2, .inl ⟨_, _, m, rfl, e6, rfl, e7⟩⟩
    · obtain rfl := List.eq_nil_of_length_eq_zero e7
      refine ⟨[], ?_, by simp, by simp, .inr ⟨rfl, rfl, e6, e8⟩⟩
      rcases e8 with rfl | ⟨a, o, rfl⟩
      · exact .ow0 sz
      · exact .owe sz a o
  obtain ⟨N', g1, g2, g3, g4⟩ := hS
  have h6 := hp h q hf v0 N' l hF (fun b o hb => ⟨(hs.fro b o hb).1, fun hm => by have := g3 b hm; rw [(hs.fro b o hb).2] at this; cases this⟩) g1 g2 (h4.pl hts)
  unfold CallS at h6
  obtain ⟨v, h', k1, k2, k3, rfl, k5⟩ := h6
  refine ⟨_, h', σ, own, by simp only [aexec, X.calls hb h1, k1], k2, fun _ _ => rfl, ⟨hs.env, fun k' o hk' => ?_, fun b o hb => ?_, fun b k' hb => ?_, hs.base, fun t ht => ?_⟩, .fz (.int _ _), fun b hb hnk => k3 b hb (fun hm => hnk k (by simp) (g3 b hm)), fun b k' e => .inl e⟩
  · simp only [gO] at hk'
    split at hk'
    · rename_i e
      subst e
      obtain rfl := Option.some.inj hk'
      refine ⟨(hs.obj _ _ hk).1, N', g2, g3, ?_⟩
      rcases g4 with ⟨a, M, m, rfl, g5, g6, g7⟩ | ⟨rfl, rfl, g5, g6⟩
      · rcases k5.slInv with ⟨_, e9, _⟩ | ⟨a2, cs2, M2, m2, e8, e9, e10, e11, e12, e13, e14, e15⟩
        · cases e9
        · cases e8
          rw [g5]
          exact .rows e11 e12 e13 e14 (e15.clean (fun t ht => sc_clean (hsc'.flat t ht)))
      · rcases k5.slInv with ⟨rfl, _, _⟩ | ⟨a2, cs2, M2, m2, e8, _⟩
        · rw [g5]
          exact .none sz
        · cases e8
    · rename_i hne
      obtain ⟨m1, N2, m2, m3, m4⟩ := hs.obj k' o hk'
      refine ⟨m1, N2, m2, m3, m4.mono (fun _ _ e => e) (Nat.le_refl _) (fun _ _ => rfl) (fun b hb => k3 b (hs.mine b k' (m3 b hb)).2.2.1 (fun hm => ?_))⟩
      have := g3 b hm
      rw [m3 b hb] at this
      exact hne (Option.some.inj this)
  · obtain ⟨m1, m2⟩ := hs.fro b o hb
    refine ⟨?_, m2⟩
    rw [k3 b (by rw [m1]; simp) (fun hm => by have := g3 b hm; rw [m2] at this; cases this)]
    exact m1
  · obtain ⟨m1, m2, m3, m4⟩ := hs.mine b k' hb
    refine ⟨m1, m2, ?_, m4⟩
    by_cases hm : b ∈ N'
    · exact k5.names b hm
    · rw [k3 b m3 hm]
      exact m3
  · rcases k2 t ht with e | e
    · exact hs.dom t e
    · exact .inr (hu t e)⟩
end
attribute [irreducible] vmut
theorem scMap {α : Type} {enc : Bool → α → List T} (he : ∀ x, (enc true x).all sc = true) (l : List α) : scR (l.map (enc true)) := fun r hr t ht => by
  obtain ⟨x, _, rfl⟩ := List.mem_map.1 hr
  exact List.all_eq_true.1 (he x) t ht
/-! ### bytes to a string -/
theorem SL.ints {hf h : AH} {k : IntKind} : ∀ {l : List Int} {vs : List Value} {N : List Nat}, SL hf h (l.map (T.int k)) vs N → vs = l.map (Value.int k)
  | [], _, _, .nil => rfl
  | n :: l, _, _, .cons hs hr => by
    rw [SL.ints hr]
    cases hs with
    | fz hr => cases hr; rfl
theorem bstr_ints : ∀ l : List Int, bstr (l.map (Value.int .u8)) = some l
  | [] => rfl
  | n :: l => by simp only [List.map_cons, bstr, bstr_ints l, Option.map_some]
theorem bytes_flat : ∀ l : List Int, (l.map (eByte true)).flatten = l.map (T.int .u8)
  | [] => rfl
  | n :: l => by simp only [List.map_cons, List.flatten_cons, bytes_flat l]; rfl
theorem B.convBS {call : CallT} {P : Program} {E : Env} {O : Objs} {d : Option Tmp} {ty st dt e : TypeId} {ps : String} {af : Array Edge} {g : Option (Nat × Bool)} {x : Operand} {k n : Nat} {l : List Int} (hx : VEv E x (.os 1 k 0 n)) (hk : gO O k = some (.rows 1 (l.map (eByte true)))) (hn : n = l.length) (hu : P.underlying st = some (.slice e)) (he : P.underlying e = some (.int .u8)) (hd : P.underlying dt = some .string) :
    OL call P E O ⟨d, .convert st dt x, ty, ps, af, g⟩ (.str (mkStr l)) := fun q p h0 σ hf own nx Ea h hs => by
  subst hn
  obtain ⟨v, h1, h2⟩ := hx σ hf nx Ea hs.env
  obtain ⟨N, hN1, hN2, h5⟩ := hs.objAt hk
  refine ⟨.string (mkStr l), X.convert h1 (h' := h) ?_, .fz (.str _)⟩
  obtain ⟨_, ⟨a, m, rfl, e6, e7⟩ | ⟨e6, _, e7, e8⟩⟩ := h2.osInv
  · rw [e6] at h5
    generalize hrr : l.map (eByte true) = rws at h5
    cases h5 with
    | rows hh hodd hlen hfit hsl =>
      rename_i cs N
      subst hrr
      rw [bytes_flat] at hsl
      have e10 := hsl.ints
      rw [List.length_map, Nat.mul_one] at e10 hfit
      simp only [aconv, hu, he, hd]
      by_cases hz : l.length = 0
      · rw [if_pos hz]
        obtain rfl := List.eq_nil_of_length_eq_zero hz
        rfl
      · rw [if_neg hz]
        simp only [hh, Nat.zero_mul, Nat.zero_add, if_pos hfit, List.drop_zero, e10, bstr_ints, Option.map_some]
  · obtain rfl := List.eq_nil_of_length_eq_zero e7
    rcases e8 with rfl | ⟨a, o, rfl⟩
    · simp only [aconv, hu, he, hd]; rfl
    · simp only [aconv, hu, he, hd, if_true]; rfl
/-! ### marks -/
section
variable {α : Type}
def mkN (f : Nat → α) (w k n : Nat) : List α := (List.range n).map fun j => f (k + w * j)
def mkI (f : Nat → α) (w k : Nat) (a : List α) (i : Nat) : List α := mkN f w k i ++ a.drop i
theorem mkN_len (f : Nat → α) (w k n : Nat) : (mkN f w k n).length = n := by simp [mkN]
theorem mkI_len {f : Nat → α} {w k : Nat} {a : List α} {i : Nat} (h : i ≤ a.length) : (mkI f w k a i).length = a.length := by
  simp only [mkI, List.length_append, mkN_len, List.length_drop]
  omega
theorem mkI_all {f : Nat → α} {w k : Nat} {a : List α} {i : Nat} (h : i ≤ a.length) (h2 : ¬ i < a.length) : mkI f w k a i = mkN f w k a.length := by
  obtain rfl : i = a.length := by omega
  simp [mkI]
theorem mkI_set {f : Nat → α} {w k : Nat} {a : List α} {i : Nat} (h : i < a.length) : (mkI f w k a i).set i (f (k + w * i)) = mkI f w k a (i + 1) := by
  unfold mkI
  rw [List.drop_eq_getElem_cons h, List.set_append_right _ _ (by rw [mkN_len]; omega), mkN_len, Nat.sub_self, List.set_cons_zero]
  simp only [mkN, List.range_succ, List.map_append, List.map_cons, List.map_nil, List.append_assoc, List.cons_append, List.nil_append]
theorem mkN_at {f : Nat → α} {w k i : Nat} {a : List α} {x : α} (h : a = mkN f w k a.length) (hx : a[i]? = some x) : x = f (k + w * i) := by
  rw [h] at hx
  unfold mkN at hx
  rw [List.getElem?_map] at hx
  obtain ⟨j, h1, rfl⟩ := Option.map_eq_some_iff.1 hx
  obtain ⟨h2, h3⟩ := List.getElem?_eq_some_iff.1 h1
  rw [List.getElem_range] at h3
  rw [h3]
theorem mkN_self (f : Nat → α) (w k n : Nat) : mkN f w k n = mkN f w k (mkN f w k n).length := by rw [mkN_len]
theorem set_at {l : List α} {i : Nat} {v : α} (h : i < l.length) : (l.set i v)[i]? = some v := by simp [h]
end
end Go.Proofs.Ythdnjihmjdbdkaa.AE
