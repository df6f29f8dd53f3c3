/- A part of what the row of FnExactPointsOf uses. Conditions: as each theorem states. -/
import Derived.Test.YtcccmceoplcciaaGreatZFnExactPointsOfb
import Derived.Test.YtcccmceoplcciaaGreatProg
import Derived.KernelRfl
namespace Go.Proofs.YtcccmceoplcciaaGreat.AE
open Go Go.RowKit
set_option linter.unusedVariables false
set_option linter.unusedSimpArgs false
def noW (t : Nat) : Code → Bool
  | .region _ ops _ => ops.toList.all fun o => o.dst != some t
  | .seq a b => noW t a && noW t b
  | .cond _ a b => noW t a && noW t b
  | .block _ c => noW t c
  | .loop c => noW t c
  | .scope c => noW t c
  | _ => true
theorem putE_offW {E : Nat → Value} {d : Option Tmp} {v : Value} {t : Nat} (h : d ≠ some t) : putE E d v t = E t := by
  cases d with
  | none => rfl
  | some d =>
    have : ¬ t = d := fun e => h (by rw [e])
    simp only [putE, if_neg this]
section
variable {call : CallT} {P : Program} {π t : Nat}
theorem astep_noW {ops : Array Oper} {i : Nat} {o : Oper} {s s' : St} (hd : o.dst ≠ some t) (h : astep call P π ops i o s = some s') : s'.E t = s.E t := by
  unfold astep at h
  split at h
  · obtain ⟨r, h1, rfl⟩ := Option.map_eq_some_iff.1 h
    exact putE_offW hd
  · obtain rfl := Option.some.inj h
    exact putE_offW hd
theorem aseq_noW {ops : Array Oper} : ∀ {l : List Oper} {i : Nat} {s s' : St}, (∀ o ∈ l, o.dst ≠ some t) → aseq call P π ops l i s = some s' → s'.E t = s.E t
  | [], i, s, s', _, h => by
    obtain rfl := Option.some.inj h
    rfl
  | o :: r, i, s, s', hd, h => by
    unfold aseq at h
    obtain ⟨s1, h1, h2⟩ := Option.bind_eq_some_iff.1 h
    rw [aseq_noW (fun o ho => hd o (by simp [ho])) h2, astep_noW (hd o (by simp)) h1]
theorem dstep_noW {c : Nat} {ops : Array Oper} {B : List (List Nat)} {base : AH} {i : Nat} {o : Oper} {s s' : DSt} (hd : o.dst ≠ some t) (h : dstep call P π c ops B base i o s = some s') : s'.E t = s.E t := by
  unfold dstep at h
  split at h
  · split at h
    · obtain ⟨r, h1, rfl⟩ := Option.map_eq_some_iff.1 h
      exact putE_offW hd
    · split at h
      · split at h
        · obtain rfl := Option.some.inj h
          exact putE_offW hd
        · cases h
      · cases h
    · split at h
      · split at h
        · obtain rfl := Option.some.inj h
          exact putE_offW hd
        · cases h
      · cases h
  · obtain rfl := Option.some.inj h
    exact putE_offW hd
theorem dseq_noW {c : Nat} {ops : Array Oper} {B : List (List Nat)} {base : AH} : ∀ {l : List Oper} {i : Nat} {s s' : DSt}, (∀ o ∈ l, o.dst ≠ some t) → dseq call P π c ops B base l i s = some s' → s'.E t = s.E t
  | [], i, s, s', _, h => by
    unfold dseq at h
    obtain rfl := Option.some.inj h
    rfl
  | o :: r, i, s, s', hd, h => by
    unfold dseq at h
    obtain ⟨s1, h1, h2⟩ := Option.bind_eq_some_iff.1 h
    rw [dseq_noW (fun o ho => hd o (by simp [ho])) h2, dstep_noW (hd o (by simp)) h1]
theorem adraw_noW {ops : Array Oper} {s s' : St} (hd : ∀ o ∈ ops.toList, o.dst ≠ some t) (h : adraw call P π ops s = some s') : s'.E t = s.E t := by
  unfold adraw at h
  simp only at h
  split at h
  · obtain ⟨d, h1, rfl⟩ := Option.map_eq_some_iff.1 h
    have h3 : d.E t = s.E t := dseq_noW hd h1
    exact h3
  · cases h
theorem loop_noW {f : St → Option (AX × St)} (hf : ∀ s e s', f s = some (e, s') → s'.E t = s.E t) {s : St} {e : AX} {s' : St} (h : LoopR f s e s') : s'.E t = s.E t := by
  induction h with
  | stop h _ => exact hf _ _ _ h
  | more h _ ih => rw [ih, hf _ _ _ h]
theorem acode_noW : ∀ (co : Code) (s : St) (e : AX) (s' : St), noW t co = true → acode call P π co s = some (e, s') → s'.E t = s.E t
  | .skip, s, e, s', _, h => by simp only [acode, Option.some.injEq, Prod.mk.injEq] at h; rw [← h.2]
  | .label _, s, e, s', _, h => by simp only [acode, Option.some.injEq, Prod.mk.injEq] at h; rw [← h.2]
  | .exit _, s, e, s', _, h => by simp only [acode, Option.some.injEq, Prod.mk.injEq] at h; rw [← h.2]
  | .ret, s, e, s', _, h => by simp only [acode, Option.some.injEq, Prod.mk.injEq] at h; rw [← h.2]
  | .region _ ops false, s, e, s', hn, h => by
    simp only [acode] at h
    obtain ⟨s1, h1, h2⟩ := Option.map_eq_some_iff.1 h
    simp only [Prod.mk.injEq] at h2
    obtain ⟨_, rfl⟩ := h2
    have h3 : s1.E t = s.E t := aseq_noW (fun o ho e => by
      have := List.all_eq_true.1 hn o ho
      simp [e] at this) h1
    exact h3
  | .region _ ops true, s, e, s', hn, h => by
    simp only [acode] at h
    obtain ⟨s1, h1, h2⟩ := Option.map_eq_some_iff.1 h
    simp only [Prod.mk.injEq] at h2
    obtain ⟨_, rfl⟩ := h2
    exact adraw_noW (fun o ho e => by
      have := List.all_eq_true.1 hn o ho
      simp [e] at this) h1
  | .seq a b, s, e, s', hn, h => by
    simp only [noW, Bool.and_eq_true] at hn
    simp only [acode] at h
    cases hx : acode call P π a s with
    | none => rw [hx] at h; cases h
    | some r =>
      obtain ⟨e1, s1⟩ := r
      rw [hx] at h
      have h1 := acode_noW a s e1 s1 hn.1 hx
      cases e1 with
      | normal => exact (acode_noW b s1 e s' hn.2 h).trans h1
      | exit id =>
        simp only [Option.some.injEq, Prod.mk.injEq] at h
        rw [← h.2]; exact h1
      | ret =>
        simp only [Option.some.injEq, Prod.mk.injEq] at h
        rw [← h.2]; exact h1
  | .cond c a b, s, e, s', hn, h => by
    simp only [noW, Bool.and_eq_true] at hn
    simp only [acode] at h
    split at h
    · exact acode_noW a s e s' hn.1 h
    · exact acode_noW b s e s' hn.2 h
    · cases h
  | .block id c, s, e, s', hn, h => by
    simp only [acode] at h
    cases hx : acode call P π c s with
    | none => rw [hx] at h; cases h
    | some r =>
      obtain ⟨e1, s1⟩ := r
      rw [hx] at h
      have h1 := acode_noW c s e1 s1 hn hx
      cases e1 with
      | normal =>
        simp only [Option.some.injEq, Prod.mk.injEq] at h
        rw [← h.2]; exact h1
      | exit id' =>
        simp only at h
        split at h <;> (simp only [Option.some.injEq, Prod.mk.injEq] at h; rw [← h.2]; exact h1)
      | ret =>
        simp only [Option.some.injEq, Prod.mk.injEq] at h
        rw [← h.2]; exact h1
  | .loop c, s, e, s', hn, h => by
    simp only [acode] at h
    exact loop_noW (fun s e s' h => acode_noW c s e s' hn h) (aloop_some h)
  | .scope c, s, e, s', hn, h => acode_noW c s e s' hn (by simpa only [acode] using h)
end
def sc : T → Bool
  | .bool _ => true
  | .int _ _ => true
  | .str _ => true
  | _ => false
def scR (rows : List (List T)) : Prop := ∀ r ∈ rows, ∀ t ∈ r, sc t = true
theorem sc_clean {t : T} (h : sc t = true) : Clean t := by
  cases t <;> first | exact .bool _ | exact .int _ _ | exact .str _ | (simp [sc] at h; done)
theorem SL.sc {hf h : AH} : ∀ {ts : List T} {vs : List Value} {N : List Nat}, SL hf h ts vs N → (∀ t ∈ ts, AE.sc t = true) → N = []
  | _, _, _, .nil, _ => rfl
  | _, _, _, .cons (t := t) hs hr, hc => by
    rw [SL.sc hr (fun t ht => hc t (by simp [ht]))]
    have h1 := hc t (by simp)
    cases hs with
    | fz hr => rfl
    | _ => simp [AE.sc] at h1
theorem scR.flat {rows : List (List T)} (h : scR rows) : ∀ t ∈ rows.flatten, sc t = true := fun t ht => by
  obtain ⟨r, hr, htr⟩ := List.mem_flatten.1 ht
  exact h r hr t htr
theorem S.slInv {hf h : AH} {sz : Nat} {rows : List (List T)} {v : Value} {N : List Nat} (hs : S hf h (.sl true sz rows) v N) : (rows = [] ∧ N = [] ∧ (v = .slice none 0 0 ∨ ∃ a o, v = .slice (some ⟨a, o, none⟩) 0 0)) ∨ ∃ a cs M m, N = a :: M ∧ v = .slice (some ⟨a, 0, none⟩) rows.length m ∧ 0 < m ∧ h a = some (.cells sz cs) ∧ a % 2 = 1 ∧ (∀ r ∈ rows, r.length = sz) ∧ rows.length * sz ≤ cs.length ∧ SL hf h rows.flatten (cs.take (rows.length * sz)) M := by
  cases hs with
  | fz hr => cases hr
  | ow0 => exact .inl ⟨rfl, rfl, .inl rfl⟩
  | owe sz a o => exact .inl ⟨rfl, rfl, .inr ⟨a, o, rfl⟩⟩
  | ow sz rows m hm hk hodd hlen hfit hsl => exact .inr ⟨_, _, _, m, rfl, rfl, hm, hk, hodd, hlen, hfit, hsl⟩
def rvV : Option Int → Value
  | some r => .int .i64 r
  | none => .tuple #[]
def rvT : Option Int → T
  | some r => .int .i64 r
  | none => .tup []
def rvR (rt : Tmp) : Option Int → List ResultVar
  | some _ => [.tmp rt]
  | none => []
theorem rv_R (hf : AH) (rv : Option Int) : R hf (rvT rv) (rvV rv) := by
  cases rv with
  | none => exact .tup [] #[] rfl (fun i hi => by simp at hi)
  | some r => exact .int _ _
def Mut (call : CallT) (f : FuncId) (sz : Nat) (rows : List (List T)) (us : List T) (r : Option Int) (rows' : List (List T)) : Prop := ∀ (h : AH) (p : Nat) (hf : AH) (v0 : Value) (N : List Nat) (vs : List Value), Fr p h → (∀ b o, hf b = some o → h b = some o ∧ b ∉ N) → S (fun _ => none) h (.sl true sz rows) v0 N → N.Nodup → RL hf us vs →
  CallS call f (v0 :: vs) h p (fun v h' => (∀ b, h b ≠ none → b ∉ N → h' b = h b) ∧ v = rvV r ∧ S (fun _ => none) h' (.sl true sz rows') v0 N)
def vmut (rt : Tmp) (r : Option Int) (sz : Nat) (rows' : List (List T)) : AX → Env → Objs → Nat → Prop
  | .exit _, _, _, _ => False
  | _, E, O, _ => (∀ n, r = some n → gE E rt = .int .i64 n) ∧ ∃ k, gE E 0 = .os sz k 0 rows'.length ∧ gO O k = some (.rows sz rows')
theorem vmut.v {rt : Tmp} {sz k n : Nat} {rows rows' : List (List T)} {E : Env} {O : Objs} {nx : Nat} (h2 : gE E 0 = .os sz k 0 n) (h3 : gO O k = some (.rows sz rows)) (e2 : rows = rows') (e3 : n = rows.length) : vmut rt none sz rows' .normal E O nx := by
  subst e2
  subst e3
  exact ⟨fun n hn => (by cases hn), k, h2, h3⟩
theorem Mut.intro {P : Program} {f : FuncId} {fn : Func} {c : Code} {n sz : Nat} {rt : Tmp} {us : List T} {r : Option Int} {rows rows' : List (List T)} (hf : P.funcs[f]? = some fn) (hb : fn.body = some c) (hc : boundsC fn.ntmps c = true) (hrs : fn.results.toList = rvR rt r) (hn : noW 0 c = true) (hsc : scR rows) (hsc' : scR rows') {E0 : Env} (hE : tenv 1 us = E0) (hr : VRun (acall P n) P c ((0, .os sz 0 0 rows.length) :: E0) [(0, some (.rows sz rows))] 1 (vmut rt r sz rows')) (hpr : noPrim f = true := by rfl) : Mut (acall P (n + 1)) f sz rows us r rows' := by
  subst hE
  intro h p hfr v0 N vs hfp hfN hS hnd hvs
  classical
  let hb0 : AH := fun b => if b ∈ N then none else h b
  have hb1 : ∀ b, b ∉ N → hb0 b = h b := fun b hb => if_neg hb
  have hb2 : ∀ b, b ∈ N → hb0 b = none := fun b hb => if_pos hb
  have hb3 : ∀ b o, hb0 b = some o → b ∉ N ∧ h b = some o := fun b o hb => by
    by_cases hm : b ∈ N
    · rw [hb2 b hm] at hb; cases hb
    · exact ⟨hm, (hb1 b hm).symm.trans hb⟩
  have hs0 : SR p ⟨hb0, fun b => b ∈ N⟩ (fun _ => none) hb0 (fun _ => none) (tenv 1 us) [] 0 (fun t => (v0 :: vs).getD t undef) h := by
    refine ⟨fun t => ?_, fun k o hk => (by cases hk), fun a o ha => ⟨(hb3 a o ha).2, rfl⟩, fun a k ha => (by cases ha), fun _ _ => rfl, fun t ht => ?_⟩
    · rw [gE_tenv]
      split
      · exact .any _
      · cases t with
        | zero => exact absurd (by omega) ‹¬ 0 < 1›
        | succ t =>
          rw [Nat.add_sub_cancel, List.getD_cons_succ]
          rcases Nat.lt_or_ge t us.length with h1 | h1
          · exact .fz ((hvs.2 t h1).mono (fun b o hb => by rw [hb1 b (hfN b o hb).2]; exact (hfN b o hb).1))
          · rw [List.getD_eq_getElem?_getD, List.getElem?_eq_none h1]
            exact .any _
    · by_cases hm : t ∈ N
      · exact .inr (.inr hm)
      · exact .inl (by show hb0 t ≠ none; rw [hb1 t hm]; exact ht)
  obtain ⟨σ, own, hs1, _, hv, _⟩ := S.adopt hS hs0 hnd (fun a ha => ⟨.inr ha, hb2 a ha, hS.names a ha, hb2 a ha, rfl⟩)
  have hs2 := hs1.put hv (some 0)
  have hEa : putE (fun t => (v0 :: vs).getD t undef) (some 0) v0 = fun t => (v0 :: vs).getD t undef := by
    funext t
    cases t with
    | zero => rfl
    | succ t => rfl
  rw [hEa] at hs2
  unfold VRun at hr
  have hrun := hr p _ σ _ own _ h 0 hs2
  have hrun2 : Run (acall P n) P p c ⟨fun t => (v0 :: vs).getD t undef, h, 0⟩ (fun e s => KK p ⟨hb0, fun b => b ∈ N⟩ (vmut rt r sz rows' e) s.E s.h ∧ s.E 0 = v0) := by
    unfold Run at hrun ⊢
    intro hfc
    obtain ⟨e, s', h1, h2, h3⟩ := hrun hfc
    exact ⟨e, s', h1, h2, h3, acode_noW _ _ _ _ hn h1⟩
  refine CallS.intro (hpr := hpr) (rs := rvR rt r) hf hb hc hfp hrs (Run.mono hrun2 ?_)
  rintro e s' ⟨⟨σ', hf', own', E, O, nx, h1, h2⟩, h0⟩
  have key : ((∀ n, r = some n → gE E rt = .int .i64 n) ∧ ∃ k, gE E 0 = .os sz k 0 rows'.length ∧ gO O k = some (.rows sz rows')) → ∃ l, ares P s'.h s'.E (rvR rt r) = some l ∧ (fun v h' => (∀ b, h b ≠ none → b ∉ N → h' b = h b) ∧ v = rvV r ∧ S (fun _ => none) h' (.sl true sz rows') v0 N) (oneV l) (if tokenless (oneV l) then bound h s'.h else mask p h s'.h) := by
    rintro ⟨g1, k, g2, g3⟩
    have hl : ∃ l, ares P s'.h s'.E (rvR rt r) = some l ∧ oneV l = rvV r := by
      cases r with
      | none => exact ⟨[], rfl, rfl⟩
      | some r =>
        have e1 := h1.env rt
        rw [g1 r rfl] at e1
        exact ⟨[.int .i64 r], ares_tmp (congrArg some e1.intInv) rfl, rfl⟩
    obtain ⟨l, hl1, hl2⟩ := hl
    refine ⟨l, hl1, ?_⟩
    have ht : tokenless (oneV l) = true := by rw [hl2]; cases r <;> simp [rvV, tokenless, closedV, closed1]
    rw [if_pos ht, hl2]
    have hbd : ∀ b, h b ≠ none → bound h s'.h b = s'.h b := fun b hb => by
      unfold bound
      cases hh : h b with
      | none => exact absurd hh hb
      | some o => rfl
    refine ⟨fun b hb hbN => ?_, rfl, ?_⟩
    · rw [hbd b hb]
      have e3 : hf' b = hb0 b := h1.base b (by show hb0 b ≠ none; rw [hb1 b hbN]; exact hb)
      rw [hb1 b hbN] at e3
      obtain ⟨o, ho⟩ := Option.ne_none_iff_exists'.1 hb
      rw [ho] at e3
      rw [(h1.fro b o e3).1, ho]
    · have e3 := h1.env 0
      rw [g2, h0] at e3
      obtain ⟨M, hM1, hM2, e4⟩ := h1.objAt g3
      obtain ⟨_, ⟨a, m, e5, e6, e7⟩ | ⟨e6, _, e7, e8⟩⟩ := e3.osInv
      · rw [e6] at e4
        rw [Nat.zero_mul] at e5
        cases e4 with
        | rows hh hodd hlen hfit hsl =>
          obtain rfl := hsl.sc hsc'.flat
          rcases hS.slInv with ⟨_, _, e9 | ⟨_, _, e9⟩⟩ | ⟨a2, cs2, M2, m2, rfl, e9, e10, e11, e12, e13, e14, e15⟩
          · rw [e5] at e9; exact absurd e9 (by simp)
          · rw [e5] at e9
            simp only [Value.slice.injEq] at e9
            omega
          · obtain rfl := e15.sc hsc.flat
            rw [e5] at e9
            simp only [Value.slice.injEq, Option.some.injEq, Addr.mk.injEq] at e9
            obtain ⟨⟨rfl, _⟩, _⟩ := e9
            subst e5
            refine S.mono (fun _ _ e => e) (S.clean (.ow sz rows' m e7 hh hodd hlen hfit hsl) (.sl _ _ fun r hr t ht => sc_clean (hsc' r hr t ht))) (fun b hb => ?_)
            obtain rfl := List.mem_singleton.1 hb
            exact hbd _ (by rw [e11]; simp)
      · obtain rfl := List.eq_nil_of_length_eq_zero e7
        rcases hS.slInv with ⟨_, rfl, _⟩ | ⟨a2, cs2, M2, m2, rfl, e9, e10, e11⟩
        · rcases e8 with rfl | ⟨a, o, rfl⟩
          · exact .ow0 sz
          · exact .owe sz a o
        · rcases e8 with e8 | ⟨a, o, e8⟩
          · rw [e9] at e8; exact absurd e8 (by simp)
          · rw [e9] at e8
            simp only [Value.slice.injEq] at e8
            omega
  cases e with
  | normal => unfold fin; exact key h2
  | ret => unfold fin; exact key h2
  | exit id => exact h2.elim
section
variable {call : CallT} {P : Program} {E : Env} {O : Objs} {d : Option Tmp} {ty : TypeId} {ps : String} {af : Array Edge} {g : Option (Nat × Bool)} {nx : Nat}
theorem OC.callMut {f : FuncId} {args : Array Operand} {tys : Array TypeId} {ts : List T} {sz k n : Nat} {r : Option Int} {rows rows' : List (List T)} (hb : hasBody P f = true) (ha : VEvs E args.toList (.os sz k 0 n :: ts)) (hk : gO O k = some (.rows sz rows)) (hn : n = rows.length) (hts : ∀ t ∈ ts, isPl t = true) (hsc : scR rows) (hsc' : scR rows') (hp : Mut call f sz rows ts r rows') :
    OC call P E O nx ⟨d, .call ⟨.value (.func f), args, tys⟩, ty, ps, af, g⟩ (rvT r) ((k, some (.rows sz rows')) :: O) nx [k] := ⟨Nat.le_refl _, fun q p h0 σ hf own Ea h hs hu hF => by
  subst hn
  obtain ⟨vs, h1, h2⟩ := ha σ hf nx Ea hs.env
  obtain ⟨v0, l, rfl, h3, h4⟩ := h2.tail
  obtain ⟨N, hN1, hN2, h5⟩ := hs.objAt hk
  have hS : ∃ N', S (fun _ => none) h (.sl true sz rows) v0 N' ∧ N'.Nodup ∧ (∀ a ∈ N', own a = some k) ∧ ((∃ a M m, N' = a :: M ∧ σ k = some a ∧ v0 = .slice (some ⟨a, 0, none⟩) rows.length m ∧ 0 < m) ∨ (N' = [] ∧ rows = [] ∧ σ k = none ∧ (v0 = .slice none 0 0 ∨ ∃ a o, v0 = .slice (some ⟨a, o, none⟩) 0 0))) := by
    obtain ⟨_, ⟨a, m, e5, e6, e7⟩ | ⟨e6, _, e7, e8⟩⟩ := h3.osInv
    · rw [e6] at h5
      rw [Nat.zero_mul] at e5
      cases h5 with
      | rows hh hodd hlen hfit hsl =>
        subst e5
        exact ⟨_, S.clean (.ow sz rows m e7 hh hodd hlen hfit hsl) (.sl _ _ fun r hr t ht => sc_clean (hsc r hr t ht)), hN1, hN2, .inl ⟨_, _, m, rfl, e6, rfl, e7⟩⟩
    · obtain rfl := List.eq_nil_of_length_eq_zero e7
      refine ⟨[], ?_, by simp, by simp, .inr ⟨rfl, rfl, e6, e8⟩⟩
      rcases e8 with rfl | ⟨a, o, rfl⟩
      · exact .ow0 sz
      · exact .owe sz a o
  obtain ⟨N', g1, g2, g3, g4⟩ := hS
  have h6 := hp h q hf v0 N' l hF (fun b o hb => ⟨(hs.fro b o hb).1, fun hm => by have := g3 b hm; rw [(hs.fro b o hb).2] at this; cases this⟩) g1 g2 (h4.pl hts)
  unfold CallS at h6
  obtain ⟨v, h', k1, k2, k3, rfl, k5⟩ := h6
  refine ⟨_, h', σ, own, by simp only [aexec, X.calls hb h1, k1], k2, fun _ _ => rfl, ⟨hs.env, fun k' o hk' => ?_, fun b o hb => ?_, fun b k' hb => ?_, hs.base, fun t ht => ?_⟩, .fz (rv_R _ _), fun b hb hnk => k3 b hb (fun hm => hnk k (by simp) (g3 b hm)), fun b k' e => .inl e⟩
  · simp only [gO] at hk'
    split at hk'
    · rename_i e
      subst e
      obtain rfl := Option.some.inj hk'
      refine ⟨(hs.obj _ _ hk).1, N', g2, g3, ?_⟩
      rcases g4 with ⟨a, M, m, rfl, g5, g6, g7⟩ | ⟨rfl, rfl, g5, g6⟩
      · rcases k5.slInv with ⟨_, e9, _⟩ | ⟨a2, cs2, M2, m2, e8, e9, e10, e11, e12, e13, e14, e15⟩
        · cases e9
        · cases e8
          rw [g5]
          exact .rows e11 e12 e13 e14 (e15.clean (fun t ht => sc_clean (hsc'.flat t ht)))
      · rcases k5.slInv with ⟨rfl, _, _⟩ | ⟨a2, cs2, M2, m2, e8, _⟩
        · rw [g5]
          exact .none sz
        · cases e8
    · rename_i hne
      obtain ⟨m1, N2, m2, m3, m4⟩ := hs.obj k' o hk'
      refine ⟨m1, N2, m2, m3, m4.mono (fun _ _ e => e) (Nat.le_refl _) (fun _ _ => rfl) (fun b hb => k3 b (hs.mine b k' (m3 b hb)).2.2.1 (fun hm => ?_))⟩
      have := g3 b hm
      rw [m3 b hb] at this
      exact hne (Option.some.inj this)
  · obtain ⟨m1, m2⟩ := hs.fro b o hb
    refine ⟨?_, m2⟩
    rw [k3 b (by rw [m1]; simp) (fun hm => by have := g3 b hm; rw [m2] at this; cases this)]
    exact m1
  · obtain ⟨m1, m2, m3, m4⟩ := hs.mine b k' hb
    refine ⟨m1, m2, ?_, m4⟩
    by_cases hm : b ∈ N'
    · exact k5.names b hm
    · rw [k3 b m3 hm]
      exact m3
  · rcases k2 t ht with e | e
    · exact hs.dom t e
    · exact .inr (hu t e)⟩
end
attribute [irreducible] vmut
theorem scMap {α : Type} {enc : Bool → α → List T} (he : ∀ x, (enc true x).all sc = true) (l : List α) : scR (l.map (enc true)) := fun r hr t ht => by
  obtain ⟨x, _, rfl⟩ := List.mem_map.1 hr
  exact List.all_eq_true.1 (he x) t ht
theorem SL.ints {hf h : AH} {k : IntKind} : ∀ {l : List Int} {vs : List Value} {N : List Nat}, SL hf h (l.map (T.int k)) vs N → vs = l.map (Value.int k)
  | [], _, _, .nil => rfl
  | n :: l, _, _, .cons hs hr => by
    rw [SL.ints hr]
    cases hs with
    | fz hr => cases hr; rfl
theorem bstr_ints : ∀ l : List Int, bstr (l.map (Value.int .u8)) = some l
  | [] => rfl
  | n :: l => by simp only [List.map_cons, bstr, bstr_ints l, Option.map_some]
theorem bytes_flat : ∀ l : List Int, (l.map (eByte true)).flatten = l.map (T.int .u8)
  | [] => rfl
  | n :: l => by simp only [List.map_cons, List.flatten_cons, bytes_flat l]; rfl
theorem B.convBS {call : CallT} {P : Program} {E : Env} {O : Objs} {d : Option Tmp} {ty st dt e : TypeId} {ps : String} {af : Array Edge} {g : Option (Nat × Bool)} {x : Operand} {k n : Nat} {l : List Int} (hx : VEv E x (.os 1 k 0 n)) (hk : gO O k = some (.rows 1 (l.map (eByte true)))) (hn : n = l.length) (hu : P.underlying st = some (.slice e)) (he : P.underlying e = some (.int .u8)) (hd : P.underlying dt = some .string) :
    OL call P E O ⟨d, .convert st dt x, ty, ps, af, g⟩ (.str (mkStr l)) := fun q p h0 σ hf own nx Ea h hs => by
  subst hn
  obtain ⟨v, h1, h2⟩ := hx σ hf nx Ea hs.env
  obtain ⟨N, hN1, hN2, h5⟩ := hs.objAt hk
  refine ⟨.string (mkStr l), X.convert h1 (h' := h) ?_, .fz (.str _)⟩
  obtain ⟨_, ⟨a, m, rfl, e6, e7⟩ | ⟨e6, _, e7, e8⟩⟩ := h2.osInv
  · rw [e6] at h5
    generalize hrr : l.map (eByte true) = rws at h5
    cases h5 with
    | rows hh hodd hlen hfit hsl =>
      rename_i cs N
      subst hrr
      rw [bytes_flat] at hsl
      have e10 := hsl.ints
      rw [List.length_map, Nat.mul_one] at e10 hfit
      simp only [aconv, hu, he, hd]
      by_cases hz : l.length = 0
      · rw [if_pos hz]
        obtain rfl := List.eq_nil_of_length_eq_zero hz
        rfl
      · rw [if_neg hz]
        simp only [hh, Nat.zero_mul, Nat.zero_add, if_pos hfit, List.drop_zero, e10, bstr_ints, Option.map_some]
  · obtain rfl := List.eq_nil_of_length_eq_zero e7
    rcases e8 with rfl | ⟨a, o, rfl⟩
    · simp only [aconv, hu, he, hd]; rfl
    · simp only [aconv, hu, he, hd, if_true]; rfl
def bys (s : ByteArray) : List Int := s.data.toList.map fun b => (b.toNat : Int)
theorem bys_len (s : ByteArray) : (bys s).length = s.size := by rw [bys, List.length_map]; exact Array.length_toList
theorem bcells_bys (s : ByteArray) : bcells s = (bys s).map (Value.int .u8) := by
  simp [bcells, byteCells, bys, Function.comp_def]
theorem SL_ints (hf h : AH) (k : IntKind) : ∀ l : List Int, SL hf h (l.map (T.int k)) (l.map (Value.int k)) []
  | [] => .nil
  | n :: l => .cons (N := []) (M := []) (.fz (.int _ _)) (SL_ints hf h k l)
theorem B.convSB {call : CallT} {P : Program} {E : Env} {nx : Nat} {d : Option Tmp} {ty st dt e : TypeId} {ps : String} {af : Array Edge} {g : Option (Nat × Bool)} {x : Operand} {s : ByteArray} (hx : VEv E x (.str s)) (hu : P.underlying st = some .string) (hd : P.underlying dt = some (.slice e)) (he : P.underlying e = some (.int .u8)) :
    OM call P E nx ⟨d, .convert st dt x, ty, ps, af, g⟩ (.os 1 nx 0 ((bys s).map (eByte true)).length) (.rows 1 ((bys s).map (eByte true))) := fun q σ hf Ea hE => by
  obtain ⟨v, h1, h2⟩ := hx σ hf nx Ea hE
  obtain rfl := h2.strInv
  have hl : ((bys s).map (eByte true)).length = s.size := by rw [List.length_map, bys_len]
  refine ⟨.slice (some ⟨tokOf q, 0, none⟩) s.size 1, .cells 1 (bcells s), some (tokOf q), [tokOf q], fun h => X.convert h1 ?_, .inl ⟨rfl, rfl⟩, ?_, fun h => ?_⟩
  · simp only [aconv, hu, hd, he]
  · rw [hl]
    have := V.os (σ := fun k => if k = nx then some (tokOf q) else σ k) (hf := hf) (nx := nx + 1) (a := tokOf q) 1 nx 0 s.size 1 (by omega) (by simp) (by omega)
    rw [Nat.zero_mul] at this
    exact this
  · refine .rows (N := []) (AH.upd_same _ _ _) (tok_odd q) (fun r hr => ?_) ?_ ?_
    · obtain ⟨n, _, rfl⟩ := List.mem_map.1 hr
      rfl
    · rw [bcells_bys, List.length_map, List.length_map]; omega
    · rw [bytes_flat, bcells_bys, List.take_of_length_le (by rw [List.length_map, List.length_map]; omega)]
      exact SL_ints _ _ _ _
section
variable {α : Type}
def mkN (f : Nat → α) (w k n : Nat) : List α := (List.range n).map fun j => f (k + w * j)
theorem mkN_len (f : Nat → α) (w k n : Nat) : (mkN f w k n).length = n := by simp [mkN]
theorem mkN_self (f : Nat → α) (w k n : Nat) : mkN f w k n = mkN f w k (mkN f w k n).length := by rw [mkN_len]
end
end Go.Proofs.YtcccmceoplcciaaGreat.AE
namespace Go.Proofs.YtcccmceoplcciaaGreat.AE
open Go Go.RowKit
set_option linter.unusedVariables false
set_option linter.unusedSimpArgs false
def eM (l : List (Int × Int)) : List (T × T) := l.map fun p => (.int .i64 p.1, .int .i64 p.2)
def vM (l : List (Int × Int)) : List (Value × Value) := l.map fun p => (.int .i64 p.1, .int .i64 p.2)
def mput : List (Int × Int) → Int → Int → List (Int × Int)
  | [], n, v => [(n, v)]
  | p :: r, n, v => if n = p.1 then (n, v) :: r else p :: mput r n v
theorem RL.ints {hf : AH} : ∀ {l : List Int} {vs : List Value}, RL hf (l.map (fun n => T.int .i64 n)) vs → vs = l.map (fun n => Value.int .i64 n)
  | [], vs, h => List.eq_nil_of_length_eq_zero h.1.symm
  | n :: l, [], h => by cases h.1
  | n :: l, v :: vs, h => by
    obtain ⟨h1, h2⟩ := RL.tail h
    cases h1
    rw [RL.ints h2]
    rfl
theorem vM_of {ev : List (Value × Value)} {l : List (Int × Int)} (h1 : RL (fun _ => none) ((eM l).map (·.1)) (ev.map (·.1))) (h2 : RL (fun _ => none) ((eM l).map (·.2)) (ev.map (·.2))) : ev = vM l := by
  have e1 : (eM l).map (·.1) = (l.map (·.1)).map (fun n => T.int .i64 n) := by simp [eM, Function.comp_def]
  have e2 : (eM l).map (·.2) = (l.map (·.2)).map (fun n => T.int .i64 n) := by simp [eM, Function.comp_def]
  rw [e1] at h1
  rw [e2] at h2
  have g1 := RL.ints h1
  have g2 := RL.ints h2
  clear h1 h2 e1 e2
  induction l generalizing ev with
  | nil => simpa [vM] using g1
  | cons p l ih =>
    cases ev with
    | nil => simp at g1
    | cons q ev =>
      simp only [List.map_cons, List.cons.injEq] at g1 g2
      rw [ih g1.2 g2.2]
      show q :: vM l = (_, _) :: vM l
      rw [← g1.1, ← g2.1]
theorem RL_ints (hf : AH) : ∀ l : List Int, RL hf (l.map (fun n => T.int .i64 n)) (l.map (fun n => Value.int .i64 n))
  | [] => RL.nil hf
  | n :: l => RL.cons (.int _ _) (RL_ints hf l)
theorem eM_RL (l : List (Int × Int)) : RL (fun _ => none) ((eM l).map (·.1)) ((vM l).map (·.1)) ∧ RL (fun _ => none) ((eM l).map (·.2)) ((vM l).map (·.2)) := by
  constructor
  · have := RL_ints (fun _ => none) (l.map (·.1))
    simpa [eM, vM, Function.comp_def] using this
  · have := RL_ints (fun _ => none) (l.map (·.2))
    simpa [eM, vM, Function.comp_def] using this
theorem mpos_put (n v : Int) : ∀ l : List (Int × Int), (∃ j w, mpos .i64 n (vM l) = some (some (j, w)) ∧ (vM l).set j (.int .i64 n, .int .i64 v) = vM (mput l n v)) ∨ (mpos .i64 n (vM l) = some none ∧ vM l ++ [(.int .i64 n, .int .i64 v)] = vM (mput l n v))
  | [] => .inr ⟨rfl, rfl⟩
  | p :: r => by
    by_cases h : n = p.1
    · refine .inl ⟨0, .int .i64 p.2, ?_, ?_⟩
      · simp [vM, mpos, h]
      · simp [vM, mput, h]
    · have hb : (n == p.1) = false := by simp [h]
      rcases mpos_put n v r with ⟨j, w, h1, h2⟩ | ⟨h1, h2⟩
      · refine .inl ⟨j + 1, w, ?_, ?_⟩
        · show mpos .i64 n ((.int .i64 p.1, .int .i64 p.2) :: vM r) = _
          simp only [mpos, if_true, hb, Bool.false_eq_true, if_false, h1]
          rfl
        · simp only [mput, if_neg h]
          show (_ :: (vM r)).set (j + 1) _ = _ :: vM (mput r n v)
          rw [List.set_cons_succ, h2]
      · refine .inr ⟨?_, ?_⟩
        · show mpos .i64 n ((.int .i64 p.1, .int .i64 p.2) :: vM r) = _
          simp only [mpos, if_true, hb, Bool.false_eq_true, if_false, h1]
          rfl
        · simp only [mput, if_neg h]
          show _ :: (vM r ++ _) = _ :: vM (mput r n v)
          rw [h2]
def mget : List (Int × Int) → Int → Int
  | [], _ => 0
  | p :: r, n => if n = p.1 then p.2 else mget r n
theorem mget_put (n v c : Int) : ∀ l : List (Int × Int), mget (mput l n v) c = if c = n then v else mget l c
  | [] => by simp [mput, mget]
  | p :: r => by
    simp only [mput]
    by_cases h : n = p.1
    · rw [if_pos h]
      simp only [mget]
      by_cases h2 : c = n
      · rw [if_pos h2, if_pos h2]
      · rw [if_neg h2, if_neg h2, if_neg (fun e => h2 (e.trans h.symm))]
    · rw [if_neg h]
      simp only [mget, mget_put n v c r]
      by_cases h2 : c = n
      · subst h2; simp [h]
      · simp [h2]
theorem mpos_get (n : Int) : ∀ l : List (Int × Int), ∃ o, mpos .i64 n (vM l) = some o ∧ (o.map (·.2)).getD (.int .i64 0) = .int .i64 (mget l n)
  | [] => ⟨none, rfl, rfl⟩
  | p :: r => by
    by_cases h : n = p.1
    · exact ⟨some (0, .int .i64 p.2), by simp [vM, mpos, h], by simp [mget, h]⟩
    · have hb : (n == p.1) = false := by simp [h]
      obtain ⟨o, h1, h2⟩ := mpos_get n r
      refine ⟨o.map fun x => (x.1 + 1, x.2), ?_, ?_⟩
      · show mpos .i64 n ((.int .i64 p.1, .int .i64 p.2) :: vM r) = _
        simp only [mpos, if_true, hb, Bool.false_eq_true, if_false, h1]
        rfl
      · simp only [mget, if_neg h, ← h2]
        cases o <;> rfl
theorem V.omInv {σ : Nat → Option Nat} {hf : AH} {nx k : Nat} {v : Value} (h : V σ hf nx (.om k) v) : ∃ a, v = .map (some a) ∧ σ k = some a ∧ k < nx := by
  cases h with
  | fz hr => cases hr
  | om k hk hs => exact ⟨_, rfl, hs, hk⟩
section
variable {call : CallT} {P : Program} {E : Env} {O : Objs} {d : Option Tmp} {ty tt kt et : TypeId} {ps : String} {af : Array Edge} {g : Option (Nat × Bool)} {x y z : Operand} {nx k : Nat} {l l' : List (Int × Int)}
theorem B.makeMap : OM call P E nx ⟨d, .makeMap tt none, ty, ps, af, g⟩ (.om nx) (.map (eM [])) := fun q σ hf Ea he =>
  ⟨.map (some (tokOf q)), .map [], some (tokOf q), [tokOf q], fun h => X.makeMap, .inl ⟨rfl, rfl⟩, .om nx (by omega) (by simp), fun h => .map (AH.upd_same _ _ _) (tok_odd _) (RL.nil _) (RL.nil _)⟩
theorem B.mapSet {n v : Int} {k0 : IntKind} (hx : VEv E x (.om k)) (hy : VEv E y (.int .i64 n)) (hz : VEv E z (.int .i64 v)) (hk : gO O k = some (.map (eM l))) (hu : P.underlying tt = some (.map kt et)) (hkt : P.underlying kt = some (.int k0)) (hl : mput l n v = l') : OC call P E O nx ⟨d, .mapUpdate tt x y z, ty, ps, af, g⟩ .any ((k, some (.map (eM l'))) :: O) nx [k] := ⟨Nat.le_refl _, fun q p h0 σ hf own Ea h hs hu' hF => by
  subst hl
  obtain ⟨v1, a1, a2⟩ := hx σ hf nx Ea hs.env
  obtain ⟨v2, a3, a4⟩ := hy σ hf nx Ea hs.env
  obtain ⟨v3, a5, a6⟩ := hz σ hf nx Ea hs.env
  obtain ⟨a, rfl, h3, h4⟩ := a2.omInv
  obtain rfl := a4.intInv
  obtain rfl := a6.intInv
  obtain ⟨N, hN1, hN2, h5⟩ := hs.objAt hk
  rw [h3] at h5
  cases h5 with
  | map hh hodd g1 g2 =>
    rename_i ev
    obtain rfl := vM_of g1 g2
    have hown : own a = some k := hN2 a (by simp)
    have hset : amapset P tt h (.map (some a)) (.int .i64 n) (.int .i64 v) = some (h.upd a (some (.map (vM (mput l n v))))) := by
      simp only [amapset, hu, hkt, hh]
      rcases mpos_put n v l with ⟨j, w, e1, e2⟩ | ⟨e1, e2⟩
      · simp only [e1, e2]
      · simp only [e1, e2]
    refine ⟨undef, _, σ, own, X.mapUpdate a1 a3 a5 hset, Dom.old (by rw [hh]; simp) _, fun _ _ => rfl, hs.upd h3 h4 hown (N := [a]) (by simp) (by simpa using hown) (.map (AH.upd_same _ _ _) hodd (eM_RL _).1 (eM_RL _).2), .any _, fun b hb hnk => AH.upd_ne _ (fun e => ?_) _, fun b k' e => .inl e⟩
    exact hnk k (by simp) (e ▸ hown)⟩
theorem B.mapGet {n : Int} {k0 : IntKind} (hx : VEv E x (.om k)) (hy : VEv E y (.int .i64 n)) (hk : gO O k = some (.map (eM l))) (hu : P.underlying tt = some (.map kt et)) (hkt : P.underlying kt = some (.int k0)) (hz : zeroOf P et = some (.int .i64 0)) : OL call P E O ⟨d, .lookup tt x y false, ty, ps, af, g⟩ (.int .i64 (mget l n)) := fun q p h0 σ hf own nx Ea h hs => by
  obtain ⟨v1, a1, a2⟩ := hx σ hf nx Ea hs.env
  obtain ⟨v2, a3, a4⟩ := hy σ hf nx Ea hs.env
  obtain ⟨a, rfl, h3, h4⟩ := a2.omInv
  obtain rfl := a4.intInv
  obtain ⟨N, hN1, hN2, h5⟩ := hs.objAt hk
  rw [h3] at h5
  cases h5 with
  | map hh hodd g1 g2 =>
    rename_i ev
    obtain rfl := vM_of g1 g2
    obtain ⟨o, e1, e2⟩ := mpos_get n l
    refine ⟨_, X.lookup a1 a3 (w := .int .i64 (mget l n)) ?_, .fz (.int _ _)⟩
    have hc : closedV (.int .i64 0) = true := rfl
    simp only [alookup, hu, hkt, hh, hz, hc, e1, Option.map_some, e2, and_self, if_true]
end
end Go.Proofs.YtcccmceoplcciaaGreat.AE
namespace Go.Proofs.YtcccmceoplcciaaGreat.AE
open Go Go.RowKit
set_option linter.unusedVariables false
set_option linter.unusedSimpArgs false
theorem V.vpInv {σ : Nat → Option Nat} {hf : AH} {nx : Nat} {ts : List T} {v : Value} (h : V σ hf nx (.vp ts) v) : ∃ a o es cs, v = .pointer (some ⟨a, o, none⟩) ∧ hf a = some (.cells es cs) ∧ o + ts.length ≤ cs.length ∧ ∀ i, i < ts.length → V σ hf nx (ts.getD i .any) (cs.getD (o + i) undef) := by
  cases h with
  | fz hr => cases hr
  | vp ts o hk hfit h => exact ⟨_, o, _, _, rfl, hk, hfit, h⟩
section
variable {call : CallT} {P : Program} {E : Env} {O : Objs} {d : Option Tmp} {ty tt : TypeId} {ps : String} {af : Array Edge} {g : Option (Nat × Bool)} {x y z : Operand} {t : T} {nx : Nat}
theorem OL.loadV1 {ts : List T} (hx : VEv E x (.vp ts)) (ht : ts[0]? = some t) (hst : isStruct P tt = some false) : OL call P E O ⟨d, .load tt x, ty, ps, af, g⟩ t := fun q p h0 σ hf own nx Ea h hs => by
  obtain ⟨v, h1, h2⟩ := hx σ hf nx Ea hs.env
  obtain ⟨a, o, es, cs, rfl, h3, h4, h5⟩ := h2.vpInv
  have hlt : 0 < ts.length := (List.getElem?_eq_some_iff.1 ht).1
  have h6 := h5 0 hlt
  rw [Nat.add_zero, List.getD_eq_getElem?_getD, ht, List.getD_eq_getElem?_getD, List.getElem?_eq_getElem (show o < cs.length by omega)] at h6
  exact ⟨_, X.load h1 (aload_one hst (hs.fro _ _ h3).1 (List.getElem?_eq_getElem (show o < cs.length by omega))), h6⟩
end
def Loan (call : CallT) (f : FuncId) (sz : Nat) (rows : List (List T)) (ts : List T) (r : T) (rows' : List (List T)) : Prop := ∀ (h : AH) (p : Nat) (hf : AH) (σ : Nat → Option Nat) (N : List Nat) (vs : List Value), Fr p h → (∀ b o, hf b = some o → h b = some o ∧ b ∉ N) → N.Nodup → ObjR σ hf 1 h (.rows sz rows) (σ 0) N → VL σ hf 1 ts vs →
  CallS call f vs h p (fun v h' => (∀ b, h b ≠ none → b ∉ N → h' b = h b) ∧ V σ hf 1 r v ∧ ObjR σ hf 1 h' (.rows sz rows') (σ 0) N)
inductive Pin : T → Prop
  | os (sz n : Nat) : Pin (.os sz 0 0 n)
  | vp (sz n : Nat) : Pin (.vp [.os sz 0 0 n])
inductive LRes : T → Prop
  | none : LRes (.tup [])
  | int (k : IntKind) (n : Int) : LRes (.int k n)
  | bool (b : Bool) : LRes (.bool b)
  | os (sz n : Nat) : LRes (.os sz 0 0 n)
def vloan (P : Program) (rs : List ResultVar) (j : Nat) (pin : T) (sz : Nat) (rows' : List (List T)) (r : T) : AX → Env → Objs → Nat → Prop
  | .exit _, _, _, _ => False
  | _, E, O, _ => ∃ k ts, VRes P E O rs ts ∧ oneT ts = ren (fun _ => k) r ∧ gE E j = ren (fun _ => k) pin ∧ gO O k = some (.rows sz rows')
theorem vloan.r {P : Program} {rs : List ResultVar} {j sz nx : Nat} {pin r : T} {rows rows' : List (List T)} {E : Env} {O : Objs} {ts : List T} (k : Nat) (h : VRes P E O rs ts) (h1 : oneT ts = ren (fun _ => k) r) (h2 : gE E j = ren (fun _ => k) pin) (h3 : gO O k = some (.rows sz rows)) (e : rows = rows') : vloan P rs j pin sz rows' r .ret E O nx := ⟨k, ts, h, h1, h2, e ▸ h3⟩
theorem vloan.n {P : Program} {rs : List ResultVar} {j sz nx : Nat} {pin r : T} {rows rows' : List (List T)} {E : Env} {O : Objs} {ts : List T} (k : Nat) (h : VRes P E O rs ts) (h1 : oneT ts = ren (fun _ => k) r) (h2 : gE E j = ren (fun _ => k) pin) (h3 : gO O k = some (.rows sz rows)) (e : rows = rows') : vloan P rs j pin sz rows' r .normal E O nx := ⟨k, ts, h, h1, h2, e ▸ h3⟩
theorem osSame {σ σ' : Nat → Option Nat} {hf hf' : AH} {nx nx' sz k n : Nat} {v : Value} (h : V σ hf nx (.os sz 0 0 n) v) (h' : V σ' hf' nx' (.os sz k 0 n) v) : σ' k = σ 0 := by
  obtain ⟨_, ⟨a, m, e1, e2, e3⟩ | ⟨e1, _, e2, e3⟩⟩ := h.osInv
  · obtain ⟨_, ⟨a', m', f1, f2, f3⟩ | ⟨f1, _, f2, f3⟩⟩ := h'.osInv
    · rw [e1] at f1
      simp only [Value.slice.injEq, Option.some.injEq, Addr.mk.injEq] at f1
      rw [e2, f2, f1.1.1]
    · subst e1
      rcases f3 with f3 | ⟨b, o, f3⟩
      · exact absurd f3 (by simp)
      · simp only [Value.slice.injEq] at f3
        omega
  · obtain ⟨_, ⟨a', m', f1, f2, f3⟩ | ⟨f1, _, f2, f3⟩⟩ := h'.osInv
    · subst f1
      rcases e3 with e3 | ⟨b, o, e3⟩
      · exact absurd e3 (by simp)
      · simp only [Value.slice.injEq] at e3
        omega
    · rw [e1, f1]
theorem Pin.same {σ σ' : Nat → Option Nat} {hf hf' : AH} {nx nx' k : Nat} {pin : T} {v : Value} (hp : Pin pin) (hm : ∀ a o, hf a = some o → hf' a = some o) (h : V σ hf nx pin v) (h' : V σ' hf' nx' (ren (fun _ => k) pin) v) : σ' k = σ 0 := by
  cases hp with
  | os sz n => exact osSame h h'
  | vp sz n =>
    obtain ⟨a, o, es, cs, rfl, e1, e2, e3⟩ := h.vpInv
    obtain ⟨a', o', es', cs', f0, f1, f2, f3⟩ := V.vpInv h'
    simp only [Value.pointer.injEq, Option.some.injEq, Addr.mk.injEq] at f0
    obtain ⟨rfl, rfl, _⟩ := f0
    rw [hm _ _ e1] at f1
    cases f1
    have g1 := e3 0 (by simp)
    have g2 := f3 0 (by simp [renL])
    exact osSame g1 g2
theorem LRes.back {σ σ' : Nat → Option Nat} {hf hf' : AH} {nx nx' k : Nat} {r : T} {v : Value} (hr : LRes r) (h0 : 0 < nx) (hσ : σ' k = σ 0) (h : V σ' hf' nx' (ren (fun _ => k) r) v) : V σ hf nx r v := by
  cases hr with
  | none =>
    obtain ⟨l, rfl, h1⟩ := V.tupL h
    obtain rfl := List.eq_nil_of_length_eq_zero h1.1.symm
    exact .fz (.tup [] #[] rfl (fun i hi => by simp at hi))
  | int k n => obtain rfl := V.intInv h; exact .fz (.int _ _)
  | bool b => obtain rfl := V.boolInv h; exact .fz (.bool _)
  | os sz n =>
    obtain ⟨_, ⟨a, m, rfl, e2, e3⟩ | ⟨e1, e4, e2, e3⟩⟩ := V.osInv h
    · exact .os sz 0 0 n m h0 (hσ.symm.trans e2) e3
    · subst e2
      rcases e3 with rfl | ⟨a, o, rfl⟩
      · exact .os0 sz 0 h0 (hσ.symm.trans e1)
      · exact .ose sz 0 a o h0 (hσ.symm.trans e1)
theorem ObjR.one {σ : Nat → Option Nat} {hf h : AH} {nx sz : Nat} {rows : List (List T)} {oa : Option Nat} {N : List Nat} (h1 : ObjR σ hf nx h (.rows sz rows) oa N) (hsc : scR rows) : (oa = Option.none ∧ N = [] ∧ rows = []) ∨ ∃ a, oa = some a ∧ N = [a] ∧ h a ≠ Option.none := by
  cases h1 with
  | none sz => exact .inl ⟨rfl, rfl, rfl⟩
  | rows hk hodd hlen hfit hs =>
    obtain rfl := hs.sc hsc.flat
    exact .inr ⟨_, rfl, rfl, by rw [hk]; simp⟩
theorem ObjR.scM {σ σ' : Nat → Option Nat} {hf hf' h h' : AH} {nx nx' sz : Nat} {rows : List (List T)} {oa : Option Nat} {N : List Nat} (h1 : ObjR σ hf nx h (.rows sz rows) oa N) (hsc : scR rows) (hh : ∀ a ∈ N, h' a = h a) : ObjR σ' hf' nx' h' (.rows sz rows) oa N := by
  cases h1 with
  | none sz => exact .none sz
  | rows hk hodd hlen hfit hs =>
    obtain rfl := hs.sc hsc.flat
    exact .rows ((hh _ (by simp)).trans hk) hodd hlen hfit (SL.mono (fun _ _ e => e) (SL.clean hs (fun t ht => sc_clean (hsc.flat t ht))) (by simp))
theorem Loan.intro {P : Program} {f : FuncId} {fn : Func} {c : Code} {n sz j : Nat} {ts : List T} {r pin : T} {rows rows' : List (List T)} {rs : List ResultVar} (hf : P.funcs[f]? = some fn) (hb : fn.body = some c) (hc : boundsC fn.ntmps c = true) (hrs : fn.results.toList = rs) (hn : noW j c = true) (hj : ts[j]? = some pin) (hpin : Pin pin) (hr0 : LRes r) (hsc : scR rows) (hsc' : scR rows') {E0 : Env} (hE : tenv 0 ts = E0)
    (hr : VRun (acall P n) P c E0 [(0, some (.rows sz rows))] 1 (vloan P rs j pin sz rows' r)) (hpr : noPrim f = true := by rfl) : Loan (acall P (n + 1)) f sz rows ts r rows' := by
  subst hE
  intro h p hfz σ N vs hfp hfN hnd hO hvs
  classical
  let hb0 : AH := fun b => if b ∈ N then none else h b
  have hb1 : ∀ b, b ∉ N → hb0 b = h b := fun b hb => if_neg hb
  have hb2 : ∀ b, b ∈ N → hb0 b = none := fun b hb => if_pos hb
  have hb3 : ∀ b o, hb0 b = some o → b ∉ N ∧ h b = some o := fun b o hb => by
    by_cases hm : b ∈ N
    · rw [hb2 b hm] at hb; cases hb
    · exact ⟨hm, (hb1 b hm).symm.trans hb⟩
  have hsub : ∀ b o, hfz b = some o → hb0 b = some o := fun b o hb => (hb1 b (hfN b o hb).2).trans (hfN b o hb).1
  have hNn : ∀ a ∈ N, h a ≠ none := fun a ha => by
    rcases hO.one hsc with ⟨_, rfl, _⟩ | ⟨a', _, rfl, h3⟩
    · cases ha
    · obtain rfl := List.mem_singleton.1 ha
      exact h3
  have hjl : j < ts.length := (List.getElem?_eq_some_iff.1 hj).1
  have hs0 : SR p ⟨hb0, fun b => b ∈ N⟩ σ hb0 (fun b => if b ∈ N then some 0 else none) (tenv 0 ts) [(0, some (.rows sz rows))] 1 (fun t => vs.getD t undef) h := by
    refine ⟨fun t => ?_, fun k o hk => ?_, fun a o ha => ⟨(hb3 a o ha).2, if_neg (hb3 a o ha).1⟩, fun a k ha => ?_, fun _ _ => rfl, fun t ht => ?_⟩
    · rw [gE_tenv, if_neg (by omega), Nat.sub_zero]
      rcases Nat.lt_or_ge t ts.length with h1 | h1
      · exact (hvs.2 t h1).mono hsub (Nat.le_refl _) (fun _ _ => rfl)
      · rw [List.getD_eq_getElem?_getD, List.getElem?_eq_none h1]
        exact .any _
    · simp only [gO] at hk
      split at hk
      · rename_i e
        subst e
        obtain rfl := Option.some.inj hk
        exact ⟨by omega, N, hnd, fun a ha => if_pos ha, hO.mono hsub (Nat.le_refl _) (fun _ _ => rfl) (fun _ _ => rfl)⟩
      · cases hk
    · split at ha
      · rename_i hm
        obtain rfl := Option.some.inj ha
        exact ⟨.inr hm, hb2 a hm, hNn a hm, by omega⟩
      · cases ha
    · by_cases hm : t ∈ N
      · exact .inr (.inr hm)
      · exact .inl (by show hb0 t ≠ none; rw [hb1 t hm]; exact ht)
  unfold VRun at hr
  have hrun := hr p _ σ _ _ _ h 0 hs0
  have hrun2 : Run (acall P n) P p c ⟨fun t => vs.getD t undef, h, 0⟩ (fun e s => KK p ⟨hb0, fun b => b ∈ N⟩ (vloan P rs j pin sz rows' r e) s.E s.h ∧ s.E j = vs.getD j undef) := by
    unfold Run at hrun ⊢
    intro hfc
    obtain ⟨e, s', h1, h2, h3⟩ := hrun hfc
    exact ⟨e, s', h1, h2, h3, acode_noW _ _ _ _ hn h1⟩
  refine CallS.intro (hpr := hpr) (rs := rs) hf hb hc hfp hrs (Run.mono hrun2 ?_)
  rintro e s' ⟨⟨σ', hf', own', E, O, nx, h1, h2⟩, h0⟩
  have key : (∃ k ts, VRes P E O rs ts ∧ oneT ts = ren (fun _ => k) r ∧ gE E j = ren (fun _ => k) pin ∧ gO O k = some (.rows sz rows')) → ∃ l, ares P s'.h s'.E rs = some l ∧ (fun v h' => (∀ b, h b ≠ none → b ∉ N → h' b = h b) ∧ V σ hfz 1 r v ∧ ObjR σ hfz 1 h' (.rows sz rows') (σ 0) N) (oneV l) (if tokenless (oneV l) then bound h s'.h else mask p h s'.h) := by
    rintro ⟨k, us, g1, g2, g3, g4⟩
    obtain ⟨l, l1, l2⟩ := g1.run h1
    have g5 : V σ' hf' nx (oneT us) (oneV l) := by
      have hlen := l2.1
      match us, l, l2, hlen with
      | [], [], g4, _ => exact g4.toTup
      | [t], [v], g4, _ =>
        obtain ⟨v', r', e, g6, _⟩ := g4.tail
        cases e
        exact g6
      | t :: t' :: us, v :: v' :: l, g4, _ => exact g4.toTup
      | [], _ :: _, _, hl => cases hl
      | [_], [], _, hl => cases hl
      | [_], _ :: _ :: _, _, hl => cases hl
      | _ :: _ :: _, [], _, hl => cases hl
      | _ :: _ :: _, [_], _, hl => cases hl
    have hbase : ∀ a o, hb0 a = some o → hf' a = some o := fun a o ha => by
      have e3 : hf' a = hb0 a := h1.base a (by show hb0 a ≠ none; rw [ha]; simp)
      rw [e3, ha]
    have hσ : σ' k = σ 0 := by
      have p1 := hvs.2 j hjl
      rw [List.getD_eq_getElem?_getD, hj] at p1
      have p2 := h1.env j
      rw [g3, h0] at p2
      exact hpin.same (fun a o ha => hbase a o (hsub a o ha)) p1 p2
    have hold : ∀ b, h b ≠ none → (if tokenless (oneV l) then bound h s'.h else mask p h s'.h) b = s'.h b := fun b hb => by
      split
      · unfold bound
        cases hh : h b with
        | none => exact absurd hh hb
        | some o => rfl
      · exact mask_eq (.inl hb)
    refine ⟨l, l1, fun b hb hbN => ?_, hr0.back (by omega) hσ (by rw [← g2]; exact g5), ?_⟩
    · rw [hold b hb]
      obtain ⟨o, ho⟩ := Option.ne_none_iff_exists'.1 hb
      rw [(h1.fro b o (hbase b o ((hb1 b hbN).trans ho))).1, ho]
    · obtain ⟨M, hM1, hM2, e4⟩ := h1.objAt g4
      rw [hσ] at e4
      have hMN : M = N := by
        rcases hO.one hsc with ⟨q1, rfl, _⟩ | ⟨a, q1, rfl, _⟩
        · rcases e4.one hsc' with ⟨_, rfl, _⟩ | ⟨a', q3, _, _⟩
          · rfl
          · rw [q1] at q3; cases q3
        · rcases e4.one hsc' with ⟨q3, _, _⟩ | ⟨a', q3, rfl, _⟩
          · rw [q1] at q3; cases q3
          · rw [q1] at q3; rw [Option.some.inj q3]
      subst hMN
      exact e4.scM hsc' (fun a ha => hold a (hNn a ha))
  cases e with
  | normal => unfold fin; exact key h2
  | ret => unfold fin; exact key h2
  | exit id => exact h2.elim
section
variable {call : CallT} {P : Program} {E : Env} {O : Objs} {d : Option Tmp} {ty : TypeId} {ps : String} {af : Array Edge} {g : Option (Nat × Bool)} {nx : Nat}
theorem LRes.fwd {σ σ' : Nat → Option Nat} {hf hf' : AH} {nx nx' k : Nat} {r : T} {v : Value} (hr : LRes r) (hk : k < nx') (hσ : σ' k = σ 0) (h : V σ hf nx r v) : V σ' hf' nx' (ren (fun _ => k) r) v := by
  cases hr with
  | none =>
    obtain ⟨l, rfl, h1⟩ := V.tupL h
    obtain rfl := List.eq_nil_of_length_eq_zero h1.1.symm
    exact .fz (.tup [] #[] rfl (fun i hi => by simp at hi))
  | int k n => obtain rfl := V.intInv h; exact .fz (.int _ _)
  | bool b => obtain rfl := V.boolInv h; exact .fz (.bool _)
  | os sz n =>
    obtain ⟨_, ⟨a, m, rfl, e2, e3⟩ | ⟨e1, e4, e2, e3⟩⟩ := V.osInv h
    · exact .os sz k 0 n m hk (hσ.trans e2) e3
    · subst e2
      rcases e3 with rfl | ⟨a, o, rfl⟩
      · exact .os0 sz k hk (hσ.trans e1)
      · exact .ose sz k a o hk (hσ.trans e1)
theorem OC.loanX {f : FuncId} {o : Oper} {ts0 ts : List T} {sz k : Nat} {r : T} {rows rows' : List (List T)} (ho : ∀ (q p : Nat) (h0 : LB) (σ : Nat → Option Nat) (hf : AH) (own : Nat → Option Nat) (Ea : Nat → Value) (h : AH), SR p h0 σ hf own E O nx Ea h → ∃ vs, aop P q Ea h o = some (.enter f vs) ∧ VL σ hf nx ts0 vs) (hk : gO O k = some (.rows sz rows)) (hts : renL (fun _ => k) ts = ts0) (htl : tokLtL 1 ts = true) (hr0 : LRes r) (hsc : scR rows) (hsc' : scR rows') (hp : Loan call f sz rows ts r rows') :
    OC call P E O nx o (ren (fun _ => k) r) ((k, some (.rows sz rows')) :: O) nx [k] := ⟨Nat.le_refl _, fun q p h0 σ hf own Ea h hs hu hF => by
  subst hts
  obtain ⟨vs, h1, h2⟩ := ho q p h0 σ hf own Ea h hs
  obtain ⟨hkn, N, hN1, hN2, h5⟩ := hs.obj k _ hk
  have hl : VL (fun _ => σ k) hf 1 ts vs := by
    refine ⟨by have := h2.1; rw [renL_map, List.length_map] at this; exact this, fun i hi => ?_⟩
    have h6 := h2.2 i (by rw [renL_map, List.length_map]; exact hi)
    refine V.ren (σ' := fun _ => σ k) (nx' := 1) (fun _ _ => rfl) h6 ?_ ?_
    · rw [renL_map]
      simp [List.getD_eq_getElem?_getD, hi]
    · rw [tokLtL_all, List.all_eq_true] at htl
      refine htl _ ?_
      rw [List.getD_eq_getElem?_getD, List.getElem?_eq_getElem hi]
      exact List.getElem_mem hi
  have h6 := hp h q hf (fun _ => σ k) N vs hF (fun b o hb => ⟨(hs.fro b o hb).1, fun hm => by have := hN2 b hm; rw [(hs.fro b o hb).2] at this; cases this⟩) hN1 (h5.scM hsc (fun _ _ => rfl)) hl
  unfold CallS at h6
  obtain ⟨v, h', k1, k2, k3, k4, k5⟩ := h6
  refine ⟨v, h', σ, own, by simp only [aexec, h1, k1], k2, fun _ _ => rfl, ⟨hs.env, fun k' o hk' => ?_, fun b o hb => ?_, fun b k' hb => ?_, hs.base, fun t ht => ?_⟩, hr0.fwd hkn rfl k4, fun b hb hnk => k3 b hb (fun hm => hnk k (by simp) (hN2 b hm)), fun b k' e => .inl e⟩
  · simp only [gO] at hk'
    split at hk'
    · rename_i e
      subst e
      obtain rfl := Option.some.inj hk'
      exact ⟨hkn, N, hN1, hN2, k5.scM hsc' (fun _ _ => rfl)⟩
    · rename_i hne
      obtain ⟨m1, N2, m2, m3, m4⟩ := hs.obj k' o hk'
      refine ⟨m1, N2, m2, m3, m4.mono (fun _ _ e => e) (Nat.le_refl _) (fun _ _ => rfl) (fun b hb => k3 b (hs.mine b k' (m3 b hb)).2.2.1 (fun hm => ?_))⟩
      have := hN2 b hm
      rw [m3 b hb] at this
      exact hne (Option.some.inj this)
  · obtain ⟨m1, m2⟩ := hs.fro b o hb
    refine ⟨?_, m2⟩
    rw [k3 b (by rw [m1]; simp) (fun hm => by have := hN2 b hm; rw [m2] at this; cases this)]
    exact m1
  · obtain ⟨m1, m2, m3, m4⟩ := hs.mine b k' hb
    refine ⟨m1, m2, ?_, m4⟩
    by_cases hm : b ∈ N
    · rcases k5.one hsc' with ⟨_, rfl, _⟩ | ⟨a, _, rfl, h3⟩
      · cases hm
      · obtain rfl := List.mem_singleton.1 hm
        exact h3
    · rw [k3 b m3 hm]
      exact m3
  · rcases k2 t ht with e | e
    · exact hs.dom t e
    · exact .inr (hu t e)⟩
theorem OC.callLoan {f : FuncId} {args : Array Operand} {tys : Array TypeId} {ts0 ts : List T} {sz k : Nat} {r r' : T} {rows rows' : List (List T)} (hb : hasBody P f = true) (ha : VEvs E args.toList ts0) (hk : gO O k = some (.rows sz rows)) (hts : renL (fun _ => k) ts = ts0) (htl : tokLtL 1 ts = true) (hr0 : LRes r) (hrr : ren (fun _ => k) r = r') (hsc : scR rows) (hsc' : scR rows') (hp : Loan call f sz rows ts r rows') :
    OC call P E O nx ⟨d, .call ⟨.value (.func f), args, tys⟩, ty, ps, af, g⟩ r' ((k, some (.rows sz rows')) :: O) nx [k] := hrr ▸ OC.loanX (fun q p h0 σ hf own Ea h hs => by
  obtain ⟨vs, h1, h2⟩ := ha σ hf nx Ea hs.env
  exact ⟨vs, X.calls hb h1, h2⟩) hk hts htl hr0 hsc hsc' hp
theorem VL.app {σ : Nat → Option Nat} {hf : AH} {nx : Nat} : ∀ {ts us : List T} {vs ws : List Value}, VL σ hf nx ts vs → VL σ hf nx us ws → VL σ hf nx (ts ++ us) (vs ++ ws)
  | [], us, vs, ws, h, h2 => by
    obtain rfl := List.eq_nil_of_length_eq_zero h.1.symm
    exact h2
  | t :: ts, us, vs, ws, h, h2 => by
    obtain ⟨v, l, rfl, h3, h4⟩ := h.tail
    exact .cons h3 (VL.app h4 h2)
theorem OC.callvLoan {f : FuncId} {a : Tmp} {args : Array Operand} {tys : Array TypeId} {ts0 ts caps : List T} {sz k : Nat} {r r' : T} {rows rows' : List (List T)} (hf : gE E a = .fn f caps) (hb : hasBody P f = true) (ha : VEvs E args.toList ts0) (hk : gO O k = some (.rows sz rows)) (hts : renL (fun _ => k) ts = ts0 ++ caps) (htl : tokLtL 1 ts = true) (hr0 : LRes r) (hrr : ren (fun _ => k) r = r') (hsc : scR rows) (hsc' : scR rows') (hp : Loan call f sz rows ts r rows') :
    OC call P E O nx ⟨d, .call ⟨.value (.tmp a), args, tys⟩, ty, ps, af, g⟩ r' ((k, some (.rows sz rows')) :: O) nx [k] := hrr ▸ OC.loanX (fun q p h0 σ hf' own Ea h hs => by
  obtain ⟨vs, h1, h2⟩ := ha σ hf' nx Ea hs.env
  have h3 := hs.env a
  rw [hf] at h3
  obtain ⟨cs, h4, h5⟩ := h3.fnL
  exact ⟨vs ++ cs, by have := X.callv (P := P) (p := q) (h := h) (d := d) (ty := ty) (ps := ps) (af := af) (g := g) (ts := tys) h4 hb h1; simpa using this, h2.app h5⟩) hk hts htl hr0 hsc hsc' hp
end
def vtT (f : FuncId) (a b : T) : Nat → T
  | 0 => .any
  | d + 1 => .vp [.fn f [a, b, vtT f a b d]]
theorem vtT_ren (g : Nat → Nat) (f : FuncId) (a b : T) : ∀ d, ren g (vtT f a b d) = vtT f (ren g a) (ren g b) d
  | 0 => rfl
  | d + 1 => by simp only [vtT, ren, renL, vtT_ren g f a b d]
theorem vtT_lt {n : Nat} {f : FuncId} {a b : T} (ha : tokLt n a = true) (hb : tokLt n b = true) : ∀ d, tokLt n (vtT f a b d) = true
  | 0 => rfl
  | d + 1 => by simp only [vtT, tokLt, tokLtL, ha, hb, vtT_lt ha hb d, Bool.and_true]
theorem tl {n : Nat} {t : T} {ts : List T} (h : tokLt n t = true) (hr : tokLtL n ts = true) : tokLtL n (t :: ts) = true := by simp only [tokLtL, h, hr, Bool.and_true]
theorem SR.hold {p nx k : Nat} {h0 : LB} {hf h : AH} {σ own : Nat → Option Nat} {E : Env} {O : Objs} {Ea : Nat → Value} {us : List T} (hs : SR p h0 σ hf own E O nx Ea h) (hk : gO O k = some (.cells us)) : ∃ hf' own' a es cs, SR p h0 σ hf' own' E ((k, none) :: O) nx Ea h ∧ (∀ a o, hf a = some o → hf' a = some o) ∧ σ k = some a ∧ hf' a = some (.cells es cs) ∧ VL σ hf nx us cs := by
  classical
  obtain ⟨hkn, N, hN1, hN2, h3⟩ := hs.obj k _ hk
  cases hσ : σ k with
  | none => rw [hσ] at h3; cases h3
  | some a =>
  rw [hσ] at h3
  cases h3 with
  | cells hh hodd hv =>
    rename_i es cs
    have howna := hN2 a (by simp)
    have hmono : ∀ b o, hf b = some o → (fun b => if own b = some k then h b else hf b) b = some o := fun b o ho => by
      have := (hs.fro b o ho).2
      simp only [this]
      rw [if_neg (by simp)]
      exact ho
    refine ⟨fun b => if own b = some k then h b else hf b, fun b => if own b = some k then none else own b, a, es, cs, ⟨fun t => (hs.env t).mono hmono (Nat.le_refl _) (fun _ _ => rfl), fun k' o hk' => ?_, fun b o ha => ?_, fun b k' ha => ?_, fun b ha => ?_, hs.dom⟩, hmono, rfl, by simp only [howna, if_true]; exact hh, hv⟩
    · simp only [gO] at hk'
      split at hk'
      · cases hk'
      · rename_i hne
        obtain ⟨h1, M, h2, h4, h5⟩ := hs.obj k' o hk'
        refine ⟨h1, M, h2, fun b hb => ?_, h5.mono hmono (Nat.le_refl _) (fun _ _ => rfl) (fun _ _ => rfl)⟩
        have := h4 b hb
        simp only [this]
        rw [if_neg (fun e => hne (Option.some.inj e))]
    · split at ha
      · rename_i e
        exact ⟨ha, by simp only [e, if_true]⟩
      · rename_i e
        obtain ⟨h1, h2⟩ := hs.fro b o ha
        exact ⟨h1, by simp [h2]⟩
    · split at ha
      · cases ha
      · exact hs.mine b k' ha
    · have : own b ≠ some k := fun e => ha (hs.mine b k e).2.1
      simp only [if_neg this]
      exact hs.base b ha
theorem SR.told {p nx : Nat} {h0 : LB} {hf h : AH} {σ own : Nat → Option Nat} {E E' : Env} {O : Objs} {Ea : Nat → Value} (hs : SR p h0 σ hf own E O nx Ea h) (he : ∀ t, V σ hf nx (gE E' t) (Ea t)) : SR p h0 σ hf own E' O nx Ea h := ⟨he, hs.obj, hs.fro, hs.mine, hs.base, hs.dom⟩
theorem V.opAt {σ : Nat → Option Nat} {hf : AH} {nx k o a : Nat} {v : Value} (h : V σ hf nx (.op k o) v) (hσ : σ k = some a) : v = .pointer (some ⟨a, o, none⟩) := by
  obtain ⟨a', e1, e2, _⟩ := h.opInv
  rw [hσ] at e2
  rw [e1, Option.some.inj e2]
theorem Wk.recv {E : Env} {O : Objs} {nx d1 d2 d3 k1 k2 k3 sz k n : Nat} {us : List T} {f : FuncId} (dep : Nat) (e1 : gE E d1 = .op k1 0) (e2 : gE E d2 = .op k2 0) (e3 : gE E d3 = .op k3 0) (o1 : gO O k1 = some (.cells us)) (o2 : gO O k2 = some (.cells [.os sz k 0 n])) (o3 : gO O k3 = some (.cells [.fn f [.op k1 0, .op k2 0, .op k3 0]])) (h12 : ¬ k2 = k1) (h13 : ¬ k3 = k1) (h23 : ¬ k3 = k2) (hpl : ∀ t ∈ us, isPl t = true) :
    Wk E O nx ((d1, .rp us) :: (d2, .vp [.os sz k 0 n]) :: (d3, vtT f (.rp us) (.vp [.os sz k 0 n]) dep) :: E) ((k3, none) :: (k2, none) :: (k1, none) :: O) nx := fun p h0 σ hf own Ea h hs => by
  obtain ⟨hf1, own1, a1, es1, cs1, s1, m1, g1, f1, v1⟩ := hs.hold o1
  obtain ⟨hf2, own2, a2, es2, cs2, s2, m2, g2, f2, v2⟩ := s1.hold (k := k2) (us := [.os sz k 0 n]) (by simp only [gO, if_neg h12]; exact o2)
  obtain ⟨hf3, own3, a3, es3, cs3, s3, m3, g3, f3, v3⟩ := s2.hold (k := k3) (us := [.fn f [.op k1 0, .op k2 0, .op k3 0]]) (by simp only [gO, if_neg h13, if_neg h23]; exact o3)
  have c1 : V σ hf3 nx (.rp us) (.pointer (some ⟨a1, 0, none⟩)) := by
    have r1 := (v1.mono (hf' := hf3) (σ' := σ) (nx' := nx) (fun a o e => m3 _ _ (m2 _ _ (m1 _ _ e))) (Nat.le_refl _) (fun _ _ => rfl)).pl hpl
    exact .fz (.rp us 0 (m3 _ _ (m2 _ _ f1)) (by have := r1.1; omega) (fun i hi => by rw [Nat.zero_add]; exact r1.2 i hi))
  have c2 : V σ hf3 nx (.vp [.os sz k 0 n]) (.pointer (some ⟨a2, 0, none⟩)) := by
    have r1 := v2.mono (hf' := hf3) (σ' := σ) (nx' := nx) (fun a o e => m3 _ _ (m2 _ _ e)) (Nat.le_refl _) (fun _ _ => rfl)
    exact .vp _ 0 (m3 _ _ f2) (by have := r1.1; omega) (fun i hi => by rw [Nat.zero_add]; exact r1.2 i hi)
  obtain ⟨w, l, hw, w1, w2⟩ := v3.tail
  obtain rfl := List.eq_nil_of_length_eq_zero w2.1.symm
  subst hw
  obtain ⟨ws, rfl, w3⟩ := w1.fnL
  obtain ⟨x1, l1, rfl, y1, w3⟩ := w3.tail
  obtain ⟨x2, l2, rfl, y2, w3⟩ := w3.tail
  obtain ⟨x3, l3, rfl, y3, w3⟩ := w3.tail
  obtain rfl := List.eq_nil_of_length_eq_zero w3.1.symm
  obtain rfl := y1.opAt g1
  obtain rfl := y2.opAt g2
  obtain rfl := y3.opAt g3
  have c3 : ∀ dep, V σ hf3 nx (vtT f (.rp us) (.vp [.os sz k 0 n]) dep) (.pointer (some ⟨a3, 0, none⟩)) := by
    intro dep
    induction dep with
    | zero => exact .any _
    | succ dep ih => exact .vp _ 0 f3 (by simp) (fun i hi => by
        obtain rfl : i = 0 := by simpa using hi
        exact (VL.cons c1 (VL.cons c2 (VL.cons ih (VL.nil _ _ _)))).toFn f)
  refine ⟨σ, hf3, own3, s3.told fun t => ?_⟩
  simp only [gE]
  split
  · rename_i e; subst e
    have := hs.env t
    rw [e1] at this
    rw [this.opAt g1]; exact c1
  · split
    · rename_i e; subst e
      have := hs.env t
      rw [e2] at this
      rw [this.opAt g2]; exact c2
    · split
      · rename_i e; subst e
        have := hs.env t
        rw [e3] at this
        rw [this.opAt g3]; exact c3 dep
      · exact s3.env t
section
variable {call : CallT} {P : Program} {π c i : Nat} {ops : Array Oper}
theorem aseq_append : ∀ (l1 l2 : List Oper) (i : Nat) (s : St), aseq call P π ops (l1 ++ l2) i s = (aseq call P π ops l1 i s).bind (aseq call P π ops l2 (i + l1.length))
  | [], l2, i, s => by simp [aseq]
  | o :: r, l2, i, s => by
    rw [List.cons_append, aseq, aseq]
    cases hx : astep call P π ops i o s with
    | none => rfl
    | some s1 =>
      rw [Option.bind_some, Option.bind_some, aseq_append r l2, List.length_cons, show i + 1 + r.length = i + (r.length + 1) by omega]
theorem RunO.app {l1 l2 : List Oper} {E : Nat → Value} {h : AH} {K : (Nat → Value) → AH → Prop} (h1 : RunO call P π ops c l1 i E h (fun E' h' => RunO call P π ops c l2 (i + l1.length) E' h' K)) : RunO call P π ops c (l1 ++ l2) i E h K := by
  unfold RunO at h1 ⊢
  intro hf
  obtain ⟨s1, e1, e2, e3, e4⟩ := h1 hf
  obtain ⟨s2, f1, f2, f3, f4⟩ := e4 e3
  refine ⟨s2, ?_, f2, ?_, f4⟩
  · rw [aseq_append, e1, Option.bind_some, ← f1]
    obtain ⟨E1, h1', c1⟩ := s1
    simp only at e2
    subst e2
    rfl
  · rw [List.length_append, ← Nat.add_assoc i]
    exact f3
end
def anyE (ds : List Nat) (E : Env) : Env := (ds.map fun e => (e, T.any)) ++ E
inductive JE (E : Env) (ds : List Nat) : Env → Prop
  | nil : JE E ds E
  | cons {E1 : Env} {e : Nat} {t : T} (he : ds.contains e = true) (h : JE E ds E1) : JE E ds ((e, t) :: E1)
theorem jn {E : Env} {ds : List Nat} : JE E ds E := .nil
theorem js {E E1 : Env} {ds : List Nat} {e : Nat} {t : T} (he : ds.contains e = true) (h : JE E ds E1) : JE E ds ((e, t) :: E1) := .cons he h
theorem gE_anyE (E : Env) (t : Nat) : ∀ ds : List Nat, gE (anyE ds E) t = if ds.contains t then .any else gE E t
  | [] => rfl
  | e :: r => by
    have ih := gE_anyE E t r
    unfold anyE at ih ⊢
    simp only [List.map_cons, List.cons_append, gE, ih, List.contains_cons]
    by_cases h : t = e
    · simp [h]
    · have : (t == e) = false := by simp [h]
      simp [h]
theorem JE.off {E E1 : Env} {ds : List Nat} (h : JE E ds E1) {t : Nat} (ht : ds.contains t = false) : gE E1 t = gE E t := by
  induction h with
  | nil => rfl
  | cons he _ ih =>
    rename_i e _ _
    have : ¬ t = e := fun x => by rw [x, he] at ht; cases ht
    simp only [gE, if_neg this, ih]
def JQ (E : Env) (O : Objs) (nx : Nat) (ds : List Nat) (d : Nat) (b : T) (E1 : Env) (O1 : Objs) (nx1 : Nat) : Prop := O1 = O ∧ nx1 = nx ∧ ∃ E2, E1 = (d, b) :: E2 ∧ JE E ds E2
theorem jq {E E2 : Env} {O : Objs} {nx d : Nat} {ds : List Nat} {b v : T} (hv : v = b) (h : JE E ds E2) : JQ E O nx ds d b ((d, v) :: E2) O nx := ⟨rfl, rfl, E2, by rw [hv], h⟩
theorem VRunO.joinB {call : CallT} {P : Program} {ops : Array Oper} {l : List Oper} {E : Env} {O : Objs} {nx : Nat} {K : Env → Objs → Nat → Prop} (m : Nat) (ds : List Nat) (d : Nat) (b : T) (h1 : VRunO call P ops (l.take m) E O nx (JQ E O nx ds d b)) (h2 : VRunO call P ops (l.drop m) ((d, b) :: anyE ds E) O nx K) : VRunO call P ops l E O nx K := by
  unfold VRunO at h1 h2 ⊢
  intro p h0 σ hf own Ea h c i hs
  rw [← List.take_append_drop m l]
  refine RunO.app ?_
  have h3 := h1 p h0 σ hf own Ea h c i hs
  unfold RunO at h3 ⊢
  intro hfc
  obtain ⟨s', e1, e2, e3, σ', hf', own', E1, O1, nx1, e4, rfl, rfl, E2, rfl, e5⟩ := h3 hfc
  have h4 := h2 p h0 σ' hf' own' s'.E s'.h c (i + (l.take m).length) (e4.told fun t => ?_)
  · unfold RunO at h4
    exact ⟨s', e1, e2, e3, h4⟩
  have h6 := e4.env t
  simp only [gE] at h6 ⊢
  split
  · rename_i e
    simpa only [e, if_true] using h6
  · rename_i e
    rw [if_neg e] at h6
    rw [gE_anyE]
    split
    · exact .any _
    · rename_i hc
      rwa [e5.off (by simpa using hc)] at h6
section
variable {c v : Bool} {C Q : Prop} [Decidable C] [Decidable Q]
theorem jOT (hc : c = decide C) (h : c = true) : true = decide (C ∨ Q) := by
  have : C := of_decide_eq_true (hc ▸ h)
  simp [this]
theorem jOF (hc : c = decide C) (h : c = false) (hv : v = decide Q) : v = decide (C ∨ Q) := by
  have : ¬ C := of_decide_eq_false (hc ▸ h)
  simp [hv, this]
theorem dN : (!decide C) = decide (¬ C) := by by_cases h : C <;> simp [h]
theorem dT (x : Bool) : x = decide (x = true) := by cases x <;> rfl
end
section
variable {C Q R : Prop} {v : Bool}
theorem dy [Decidable C] (h : C) : decide C = true := decide_eq_true h
theorem dz [Decidable C] (h : ¬ C) : decide C = false := decide_eq_false h
theorem ny [Decidable C] (h : ¬ C) : (!decide C) = true := by simp [h]
theorem nz [Decidable C] (h : C) : (!decide C) = false := by simp [h]
theorem kAT [Decidable C] [Decidable Q] (h : C) (hv : v = decide Q) : v = decide (C ∧ Q) := by simp [hv, h]
theorem kAF [Decidable C] [Decidable Q] (h : ¬ C) : false = decide (C ∧ Q) := by simp [h]
theorem kOT [Decidable C] [Decidable Q] (h : C) : true = decide (C ∨ Q) := by simp [h]
theorem kOF [Decidable C] [Decidable Q] (h : ¬ C) (hv : v = decide Q) : v = decide (C ∨ Q) := by simp [hv, h]
theorem gw (C : Prop) (ht : C → R) (hf : ¬ C → R) : R := (Classical.em C).elim ht hf
theorem gn (C : Prop) (ht : ¬ C → R) (hf : C → R) : R := (Classical.em C).elim hf ht
theorem cd {call : CallT} {P : Program} {E : Env} {O : Objs} {nx : Nat} {S : AX → Env → Objs → Nat → Prop} {x y : Code} {a : Tmp} (C : Prop) [Decidable C] (h : gE E a = .bool (decide C)) (ht : C → VRun call P x E O nx S) (hf : ¬ C → VRun call P y E O nx S) : VRun call P (.cond (.tmp a) x y) E O nx S := VRun.cond (VEv.tmp h) (fun e => ht (of_decide_eq_true e)) (fun e => hf (of_decide_eq_false e))
theorem cn {call : CallT} {P : Program} {E : Env} {O : Objs} {nx : Nat} {S : AX → Env → Objs → Nat → Prop} {x y : Code} {a : Tmp} (C : Prop) [Decidable C] (h : gE E a = .bool (!decide C)) (ht : ¬ C → VRun call P x E O nx S) (hf : C → VRun call P y E O nx S) : VRun call P (.cond (.tmp a) x y) E O nx S := VRun.cond (VEv.tmp h) (fun e => ht (by simpa using e)) (fun e => hf (by simpa using e))
end
theorem lb {a b : Nat} (h : Nat.ble a b = true) : a ≤ b := Nat.le_of_ble_eq_true h
theorem bn {α : Type} {p : α → Prop} : ∀ x ∈ ([] : List α), p x := ball_nil
theorem bc {α : Type} {p : α → Prop} {a : α} {l : List α} (h : p a) (hr : ∀ x ∈ l, p x) : ∀ x ∈ a :: l, p x := ball_cons h hr
theorem b2 {α : Type} {p : α → Prop} {a : α} {l : List α} (hr : ∀ x ∈ l, p x) (h : p a := by exact ⟨rfl, rfl⟩) : ∀ x ∈ a :: l, p x := ball_cons h hr
theorem b3 {α : Type} {p : α → Prop} {a : α} {l : List α} (hr : ∀ x ∈ l, p x) (h : p a := by exact ⟨rfl, lb rfl, rfl⟩) : ∀ x ∈ a :: l, p x := ball_cons h hr
theorem lims : lim = 1099511627776 ∧ mx = 1048576 ∧ maxLen = 9223372036854775807 := ⟨rfl, rfl, rfl⟩
theorem getD_at {α : Type} {l : List α} {i : Nat} (z : α) (h : i < l.length) : l[i]? = some (l[i]?.getD z) := by rw [List.getElem?_eq_getElem h, Option.getD_some]
end Go.Proofs.YtcccmceoplcciaaGreat.AE
namespace Go.Proofs.YtcccmceoplcciaaGreat.AE
open Go Go.RowKit
set_option linter.unusedVariables false
set_option linter.unusedSimpArgs false
abbrev LO := List (Nat × List (List T))
def ix : List Nat → Nat → Option Nat
  | [], _ => none
  | a :: r, k => if k = a then some 0 else (ix r k).map (· + 1)
end Go.Proofs.YtcccmceoplcciaaGreat.AE
namespace Go.Proofs.YtcccmceoplcciaaGreat.AE
open Go Go.RowKit
set_option linter.unusedVariables false
set_option linter.unusedSimpArgs false
theorem SL.intRows {hf h : AH} : ∀ {a : List Int} {vs : List Value} {N : List Nat}, SL hf h (a.map (eInt true)).flatten vs N → vs = a.map (.int .i64) ∧ N = []
  | [], vs, N, hs => by
    cases hs with
    | nil => exact ⟨rfl, rfl⟩
  | x :: r, vs, N, hs => by
    have hs : SL hf h (T.int .i64 x :: (r.map (eInt true)).flatten) vs N := hs
    cases hs with
    | cons h1 h2 =>
      obtain ⟨rfl, rfl⟩ := SL.intRows h2
      cases h1 with
      | fz hr =>
        cases hr with
        | int k n => exact ⟨rfl, rfl⟩
theorem SL.ofInts {hf h : AH} : ∀ (a : List Int), SL hf h (a.map (eInt true)).flatten (a.map (.int .i64)) []
  | [] => .nil
  | x :: r => SL.cons (N := []) (M := []) (.fz (.int .i64 x)) (SL.ofInts r)
theorem ints_one (a : List Int) : ∀ r ∈ a.map (eInt true), r.length = 1 := fun r hr => by
  obtain ⟨x, _, rfl⟩ := List.mem_map.1 hr
  rfl
theorem eInt_take {cs : List Value} {a : List Int} {n : Nat} (h : cs.take n = a.map (.int .i64)) (hl : a.length = n) : intsOf (cs.take n) = some a := by rw [h]; exact intsOf_map a
theorem Loan.len {call : CallT} {f : FuncId} {sz n m : Nat} {rows rows' : List (List T)} {ts : List T} {r : T} (e : n = m) (h : Loan call f sz rows (.os sz 0 0 m :: ts) r rows') : Loan call f sz rows (.os sz 0 0 n :: ts) r rows' := e ▸ h
theorem sortI_nil : sortI [] = [] := by simp [sortI]
theorem V.unit {σ : Nat → Option Nat} {hf : AH} {nx : Nat} : V σ hf nx (.tup []) (.tuple #[]) := .fz (.tup [] #[] rfl (fun i hi => by simp at hi))
theorem sortLoan {P : Program} {f : FuncId} (n : Nat) (hp : noPrim f = false) (hq : aprim f = primSort) (a : List Int) (hb : a.length < 4611686018427387904) : Loan (acall P (n + 1)) f 1 (a.map (eInt true)) [.os 1 0 0 (a.map (eInt true)).length] (.tup []) ((sortI a).map (eInt true)) := by
  intro h p hf σ N vs hfr hfN hnd hO hvs
  obtain ⟨v0, l, rfl, hv, hl⟩ := hvs.tail
  obtain rfl := List.eq_nil_of_length_eq_zero hl.1.symm
  have hcall : ∀ args, acall P (n + 1) f args h p = primSort args h := fun args => by rw [acall, if_neg (by rw [hp]; simp), hq]
  unfold CallS
  rw [hcall]
  obtain ⟨_, ⟨t, m, rfl, hs, hm⟩ | ⟨hs, _, hn, hv0⟩⟩ := hv.osInv
  · rw [hs] at hO
    generalize hoa : some t = oa at hO
    generalize hrw : a.map (eInt true) = rows at hO
    cases hO with
    | none => cases hoa
    | rows hk hodd hlen hfit hsl =>
      cases hoa
      subst hrw
      rename_i cs N
      rw [List.length_map, Nat.mul_one] at hsl
      obtain ⟨hcs, rfl⟩ := SL.intRows hsl
      by_cases h0 : a.length = 0
      · obtain rfl := List.eq_nil_of_length_eq_zero h0
        refine ⟨.tuple #[], h, rfl, fun _ h => .inl h, fun _ _ _ => rfl, V.unit, ?_⟩
        rw [hs, sortI_nil]
        exact .rows hk hodd hlen hfit hsl
      · refine ⟨.tuple #[], h.upd t (some (.cells 1 ((sortI a).map (.int .i64)))), ?_, fun b hb => ?_, fun b _ hb => ?_, V.unit, ?_⟩
        · unfold primSort
          simp only [List.length_map, if_neg h0, Nat.zero_mul, hk, eInt_take hcs rfl]
          rw [if_pos ⟨hodd, trivial, hb⟩]
        · unfold AH.upd at hb
          split at hb
          · rename_i e; subst e; exact .inl (by rw [hk]; simp)
          · exact .inl hb
        · exact if_neg (fun e => hb (by simp [e]))
        · rw [hs]
          exact .rows (if_pos rfl) hodd (ints_one _) (by simp) (by
            rw [List.length_map, Nat.mul_one, List.take_of_length_le (by simp)]
            exact SL.ofInts _)
  · have ha : a = [] := List.eq_nil_of_length_eq_zero (by simpa using hn)
    subst ha
    refine ⟨.tuple #[], h, ?_, fun _ h => .inl h, fun _ _ _ => rfl, V.unit, by rw [sortI_nil]; exact hO⟩
    rcases hv0 with rfl | ⟨b, o, rfl⟩ <;> rfl
theorem compLoan {P : Program} {f : FuncId} (n : Nat) (hp : noPrim f = false) (hq : aprim f = primComp) (a : List Int) (hb : a.length < 4611686018427387904) : Loan (acall P (n + 1)) f 1 (a.map (eInt true)) [.os 1 0 0 (a.map (eInt true)).length] (.os 1 0 0 ((Lib.compact a).map (eInt true)).length) ((Lib.compact a).map (eInt true)) := by
  intro h p hf σ N vs hfr hfN hnd hO hvs
  obtain ⟨v0, l, rfl, hv, hl⟩ := hvs.tail
  obtain rfl := List.eq_nil_of_length_eq_zero hl.1.symm
  have hcall : ∀ args, acall P (n + 1) f args h p = primComp args h := fun args => by rw [acall, if_neg (by rw [hp]; simp), hq]
  unfold CallS
  rw [hcall]
  obtain ⟨hk0, ⟨t, m, rfl, hs, hm⟩ | ⟨hs, _, hn, hv0⟩⟩ := hv.osInv
  · rw [hs] at hO
    generalize hoa : some t = oa at hO
    generalize hrw : a.map (eInt true) = rows at hO
    cases hO with
    | none => cases hoa
    | rows hk hodd hlen hfit hsl =>
      cases hoa
      subst hrw
      rename_i cs N
      rw [List.length_map, Nat.mul_one] at hsl
      obtain ⟨hcs, rfl⟩ := SL.intRows hsl
      by_cases h0 : a.length = 0
      · obtain rfl := List.eq_nil_of_length_eq_zero h0
        refine ⟨_, h, rfl, fun _ h => .inl h, fun _ _ _ => rfl, hv, ?_⟩
        rw [hs]
        exact .rows hk hodd hlen hfit hsl
      · refine ⟨.slice (some ⟨t, 0, none⟩) (Lib.compact a).length m, h.upd t (some (.cells 1 ((Lib.compact a).map (.int .i64)))), ?_, fun b hb => ?_, fun b _ hb => ?_, ?_, ?_⟩
        · unfold primComp
          simp only [List.length_map, if_neg h0, Nat.zero_mul, hk, eInt_take hcs rfl]
          rw [if_pos ⟨hodd, trivial, hb⟩]
        · unfold AH.upd at hb
          split at hb
          · rename_i e; subst e; exact .inl (by rw [hk]; simp)
          · exact .inl hb
        · exact if_neg (fun e => hb (by simp [e]))
        · have := V.os (σ := σ) (hf := hf) (nx := 1) 1 0 0 (Lib.compact a).length m hk0 hs hm
          rw [Nat.zero_mul] at this
          rw [List.length_map]
          exact this
        · rw [hs]
          exact .rows (if_pos rfl) hodd (ints_one _) (by simp) (by
            rw [List.length_map, Nat.mul_one, List.take_of_length_le (by simp)]
            exact SL.ofInts _)
  · have ha : a = [] := List.eq_nil_of_length_eq_zero (by simpa using hn)
    subst ha
    rcases hv0 with rfl | ⟨b, o, rfl⟩
    · exact ⟨_, h, rfl, fun _ h => .inl h, fun _ _ _ => rfl, hv, hO⟩
    · exact ⟨_, h, rfl, fun _ h => .inl h, fun _ _ _ => rfl, hv, hO⟩
end Go.Proofs.YtcccmceoplcciaaGreat.AE
namespace Go.Proofs.YtcccmceoplcciaaGreat.AE
open Go Go.RowKit
set_option linter.unusedVariables false
set_option linter.unusedSimpArgs false
section
variable {call : CallT} {P : Program} {E : Env} {O : Objs} {nx : Nat} {S : AX → Env → Objs → Nat → Prop} {u v : Code} {c : Tmp}
theorem ct (h : gE E c = .bool true) (hx : VRun call P u E O nx S) : VRun call P (.cond (.tmp c) u v) E O nx S := VRun.cond (VEv.tmp h) (fun _ => hx) (fun e => absurd e (by decide))
theorem cf (h : gE E c = .bool false) (hx : VRun call P v E O nx S) : VRun call P (.cond (.tmp c) u v) E O nx S := VRun.cond (VEv.tmp h) (fun e => absurd e (by decide)) (fun _ => hx)
theorem ck {b : Bool} (hb : b = true) (h : gE E c = .bool b) (hx : VRun call P u E O nx S) : VRun call P (.cond (.tmp c) u v) E O nx S := ct (hb ▸ h) hx
theorem cg {b : Bool} (hb : b = false) (h : gE E c = .bool b) (hx : VRun call P v E O nx S) : VRun call P (.cond (.tmp c) u v) E O nx S := cf (hb ▸ h) hx
theorem vn : VEvs E [] [] := .nil
theorem ln : LendL O [] [] := LendL.nil
theorem lps : ∀ {ts : List T}, ts.all isPl = true → LendL O ts ts
  | [], _ => LendL.nil
  | t :: r, h => by
    simp only [List.all_cons, Bool.and_eq_true] at h
    exact LendL.cons (Lend.pl h.1) (lps h.2)
def nodB : List Nat → Bool
  | [] => true
  | a :: r => !(r.contains a) && nodB r
theorem nd : ∀ {l : List Nat}, nodB l = true → l.Nodup
  | [], _ => List.nodup_nil
  | a :: r, h => by
    simp only [nodB, Bool.and_eq_true] at h
    exact List.nodup_cons.2 ⟨by simpa using h.1, nd h.2⟩
end
section
variable {call : CallT} {P : Program} {E : Env} {O : Objs} {d : Option Tmp} {ty tt xt : TypeId} {ps : String} {af : Array Edge} {g : Option (Nat × Bool)} {x y : Operand} {kk : IntKind} {a b : Int} {m n : Nat}
theorem xls (hx : VEv E x (.int kk a)) (hy : VEv E y (.int kk b)) : OF call P E ⟨d, .binOp .lss tt x y xt, ty, ps, af, g⟩ (.bool (decide (a < b))) := B.lss hx hy rfl
theorem xle (hx : VEv E x (.int kk a)) (hy : VEv E y (.int kk b)) : OF call P E ⟨d, .binOp .leq tt x y xt, ty, ps, af, g⟩ (.bool (decide (a ≤ b))) := B.leq hx hy rfl
theorem xgt (hx : VEv E x (.int kk a)) (hy : VEv E y (.int kk b)) : OF call P E ⟨d, .binOp .gtr tt x y xt, ty, ps, af, g⟩ (.bool (decide (b < a))) := B.gtr hx hy rfl
theorem xge (hx : VEv E x (.int kk a)) (hy : VEv E y (.int kk b)) : OF call P E ⟨d, .binOp .geq tt x y xt, ty, ps, af, g⟩ (.bool (decide (b ≤ a))) := B.geq hx hy rfl
theorem xeq (hx : VEv E x (.int kk a)) (hy : VEv E y (.int kk b)) : OF call P E ⟨d, .binOp .eql tt x y xt, ty, ps, af, g⟩ (.bool (decide (a = b))) := B.eql hx hy rfl
theorem xne (hx : VEv E x (.int kk a)) (hy : VEv E y (.int kk b)) : OF call P E ⟨d, .binOp .neq tt x y xt, ty, ps, af, g⟩ (.bool (!decide (a = b))) := B.neq hx hy rfl
theorem xls' (hx : VEv E x (tN m)) (hy : VEv E y (tN n)) : OF call P E ⟨d, .binOp .lss tt x y xt, ty, ps, af, g⟩ (.bool (decide (m < n))) := B.lss hx hy (decN (by omega))
theorem xeq' (hx : VEv E x (tN m)) (hy : VEv E y (tN n)) : OF call P E ⟨d, .binOp .eql tt x y xt, ty, ps, af, g⟩ (.bool (decide (m = n))) := B.eql hx hy (decN (by omega))
theorem xne' (hx : VEv E x (tN m)) (hy : VEv E y (tN n)) : OF call P E ⟨d, .binOp .neq tt x y xt, ty, ps, af, g⟩ (.bool (!decide (m = n))) := B.neq hx hy (congrArg (!·) (decN (by omega)))
theorem xnot {b1 : Bool} (hx : VEv E x (.bool b1)) : OF call P E ⟨d, .unOp .not tt x, ty, ps, af, g⟩ (.bool (!b1)) := B.not hx rfl
theorem xinc (hx : VEv E x (tN m)) (hy : VEv E y (.int .i64 1)) (h : m + 1 < 9223372036854775808) : OF call P E ⟨d, .binOp .add tt x y xt, ty, ps, af, g⟩ (tN (m + 1)) := B.add hx hy (by rw [wrap64 (by omega)]; omega)
theorem xcv {k0 kd : IntKind} {st dt : TypeId} {m : Int} (hx : VEv E x (.int k0 a)) (h1 : P.underlying st = some (.int k0)) (h2 : P.underlying dt = some (.int kd)) (he : kd.wrap a = m) : OF call P E ⟨d, .convert st dt x, ty, ps, af, g⟩ (.int kd m) := he ▸ OF.convI hx h1 h2
theorem xix {s : ByteArray} (hx : VEv E x (.str s)) (hy : VEv E y (tN m)) (hi : m < s.size) (hu : P.underlying tt = some .string) : OF call P E ⟨d, .index tt x y, ty, ps, af, g⟩ (.int .u8 (bAt s m)) := B.index hx hy rfl hi hu (bAt_eq hi)
end
section
variable {call : CallT} {P : Program} {ops : Array Oper} {l : List Oper} {E : Env} {O : Objs} {nx : Nat} {K : Env → Objs → Nat → Prop} {d1 a : Nat} {d2 : Option Tmp} {ty1 ty2 tt tt2 : TypeId} {ps1 ps2 : String} {af1 af2 : Array Edge} {j k o off : Nat} {us : List T}
theorem gE_here (E : Env) (n : Nat) (t : T) : gE ((n, t) :: E) n = t := by simp [gE]
theorem lf (t : T) (h : gE E a = .op k o) (fa : ∀ k o, afieldAddr P tt (.pointer (some ⟨k, o, none⟩)) j = some (.pointer (some ⟨k, o + off, none⟩))) (hk : gO O k = some (.cells us)) (ht : us[o + off]? = some t) (hst : isStruct P tt2 = some false) (hK : VRunO call P ops l (pE ((d1, .op k (o + off)) :: E) d2 t) O nx K) :
    VRunO call P ops (⟨some d1, .fieldAddr tt (.tmp a) j, ty1, ps1, af1, none⟩ :: ⟨d2, .load tt2 (.tmp d1), ty2, ps2, af2, none⟩ :: l) E O nx K := fO (OF.fieldAddrO (VEv.tmp h) fa) (lO (OL.loadO1 (VEv.tmp (gE_here _ _ _)) hk ht hst) hK)
theorem lr (t : T) (h : gE E a = .rp us) (hn : off ≤ us.length) (fa : ∀ k o, afieldAddr P tt (.pointer (some ⟨k, o, none⟩)) j = some (.pointer (some ⟨k, o + off, none⟩))) (ht : (us.drop off)[0]? = some t) (hst : isStruct P tt2 = some false) (hK : VRunO call P ops l (pE ((d1, .rp (us.drop off)) :: E) d2 t) O nx K) :
    VRunO call P ops (⟨some d1, .fieldAddr tt (.tmp a) j, ty1, ps1, af1, none⟩ :: ⟨d2, .load tt2 (.tmp d1), ty2, ps2, af2, none⟩ :: l) E O nx K := fO (B.fieldAddrR (VEv.tmp h) hn fa rfl) (lO (OL.loadR1 (VEv.tmp (gE_here _ _ _)) ht hst) hK)
variable {i q : Nat} {w b : Bool} {t0 : T}
theorem glf (t : T) (hb : b = w) (hd : (ops[i]?).bind (·.dst) = some q) (hq : gE E q = .bool b) (hne : (q == d1) = false) (h : gE E a = .op k o) (fa : ∀ k o, afieldAddr P tt (.pointer (some ⟨k, o, none⟩)) j = some (.pointer (some ⟨k, o + off, none⟩))) (hk : gO O k = some (.cells us)) (ht : us[o + off]? = some t) (hst : isStruct P tt2 = some false) (hK : VRunO call P ops l (pE ((d1, .op k (o + off)) :: E) d2 t) O nx K) :
    VRunO call P ops (⟨some d1, .fieldAddr tt (.tmp a) j, ty1, ps1, af1, some (i, w)⟩ :: ⟨d2, .load tt2 (.tmp d1), ty2, ps2, af2, some (i, w)⟩ :: l) E O nx K := gF hb hd hq (OF.fieldAddrO (VEv.tmp h) fa) (gL hb hd ((gE_off E hne _).trans hq) (OL.loadO1 (VEv.tmp (gE_here _ _ _)) hk ht hst) hK)
theorem glr (t : T) (hb : b = w) (hd : (ops[i]?).bind (·.dst) = some q) (hq : gE E q = .bool b) (hne : (q == d1) = false) (h : gE E a = .rp us) (hn : off ≤ us.length) (fa : ∀ k o, afieldAddr P tt (.pointer (some ⟨k, o, none⟩)) j = some (.pointer (some ⟨k, o + off, none⟩))) (ht : (us.drop off)[0]? = some t) (hst : isStruct P tt2 = some false) (hK : VRunO call P ops l (pE ((d1, .rp (us.drop off)) :: E) d2 t) O nx K) :
    VRunO call P ops (⟨some d1, .fieldAddr tt (.tmp a) j, ty1, ps1, af1, some (i, w)⟩ :: ⟨d2, .load tt2 (.tmp d1), ty2, ps2, af2, some (i, w)⟩ :: l) E O nx K := gF hb hd hq (B.fieldAddrR (VEv.tmp h) hn fa rfl) (gL hb hd ((gE_off E hne _).trans hq) (OL.loadR1 (VEv.tmp (gE_here _ _ _)) ht hst) hK)
def offC (i : Nat) (w : Bool) (q : Nat) : List Oper → Bool
  | [] => true
  | o :: r => (match o.guard with | some (a, b) => Nat.beq a i && (b == w) | none => false) && (match o.dst with | some d => !(Nat.beq d q) | none => true) && offC i w q r
def offE (E : Env) : List Oper → Env
  | [] => E
  | o :: r => offE (pE E o.dst (.tup [])) r
theorem offL (hd : (ops[i]?).bind (·.dst) = some q) (hv : ∀ (dd : Option Tmp) (op : Op) (ty : TypeId) (ps : String) (af : Array Edge) (E : Env), gE E q = t0 → VWant ops E ⟨dd, op, ty, ps, af, some (i, w)⟩ false) {l2 : List Oper} (l1 : List Oper) : ∀ (E : Env), offC i w q l1 = true → gE E q = t0 → VRunO call P ops l2 (offE E l1) O nx K → VRunO call P ops (l1 ++ l2) E O nx K := by
  induction l1 with
  | nil => exact fun E _ _ hK => hK
  | cons o r ih =>
    intro E hc hq hK
    obtain ⟨dd, op, ty, ps, af, g⟩ := o
    simp only [offC, Bool.and_eq_true] at hc
    obtain ⟨⟨h1, h2⟩, h3⟩ := hc
    cases g with
    | none => cases h1
    | some g =>
      obtain ⟨a, b⟩ := g
      simp only [Bool.and_eq_true] at h1
      have e1 : a = i := Nat.eq_of_beq_eq_true h1.1
      have e2 : b = w := by simpa using h1.2
      subst e1
      subst e2
      refine VRunO.off (hv _ _ _ _ _ _ hq) (ih _ h3 ?_ hK)
      cases dd with
      | none => exact hq
      | some d =>
        refine (gE_off E (d := d) (t := q) ?_ _).trans hq
        rw [beq_eq_false_iff_ne]
        rintro rfl
        simp at h2
theorem offs (m i : Nat) (w : Bool) (q : Nat) (hb : b = !w) (hd : (ops[i]?).bind (·.dst) = some q) (hq : gE E q = .bool b) (hc : offC i w q (l.take m) = true) (hK : VRunO call P ops (l.drop m) (offE E (l.take m)) O nx K) : VRunO call P ops l E O nx K := by
  rw [← List.take_append_drop m l]
  exact offL hd (fun _ _ _ _ _ _ h => VWant.not hd h hb) _ _ hc hq hK
theorem offu (m i : Nat) (w : Bool) (q : Nat) (hd : (ops[i]?).bind (·.dst) = some q) (hq : gE E q = .tup []) (hc : offC i w q (l.take m) = true) (hK : VRunO call P ops (l.drop m) (offE E (l.take m)) O nx K) : VRunO call P ops l E O nx K := by
  rw [← List.take_append_drop m l]
  exact offL hd (fun _ _ _ _ _ _ h => VWant.undef hd h) _ _ hc hq hK
end
end Go.Proofs.YtcccmceoplcciaaGreat.AE
namespace Go.Proofs.YtcccmceoplcciaaGreat.AE
open Go Go.RowKit
set_option linter.unusedVariables false
set_option linter.unusedSimpArgs false
structure D.Grid where
  Rows : Int
  Cols : Int
  Cells : ByteArray
def kGrid : AK D.Grid := AK.iso (AK.pair (AK.int .i64) (AK.pair (AK.int .i64) AK.string)) (fun x => (x.Rows, x.Cols, x.Cells))
def GGrid (x : D.Grid) : Prop := ((Lit.int .i64 x.Rows).wf = true) ∧ ((Lit.int .i64 x.Cols).wf = true) ∧ (x.Cells.size ≤ maxLen)
structure D.Step where
  Kind : Int
  Word : ByteArray
  A : Int
  B : Int
def kStep : AK D.Step := AK.iso (AK.pair (AK.int .i64) (AK.pair AK.string (AK.pair (AK.int .i64) (AK.int .i64)))) (fun x => (x.Kind, x.Word, x.A, x.B))
def GStep (x : D.Step) : Prop := ((Lit.int .i64 x.Kind).wf = true) ∧ (x.Word.size ≤ maxLen) ∧ ((Lit.int .i64 x.A).wf = true) ∧ ((Lit.int .i64 x.B).wf = true)
structure D.Clue where
  Sense : Int
  Play : _root_.List D.Step
def kClue : AK D.Clue := AK.iso (AK.pair (AK.int .i64) (AK.slice kStep)) (fun x => (x.Sense, x.Play))
def GClue (x : D.Clue) : Prop := ((Lit.int .i64 x.Sense).wf = true) ∧ ((x.Play.length ≤ maxLen ∧ ∀ y ∈ x.Play, GStep y))
structure D.Puzzle where
  Grid : D.Grid
  Clues : _root_.List D.Clue
  Seals : _root_.List Int
  Salt : Int
def kPuzzle : AK D.Puzzle := AK.iso (AK.pair kGrid (AK.pair (AK.slice kClue) (AK.pair (AK.slice (AK.int .i64)) (AK.int .i64)))) (fun x => (x.Grid, x.Clues, x.Seals, x.Salt))
def GPuzzle (x : D.Puzzle) : Prop := (GGrid x.Grid) ∧ ((x.Clues.length ≤ maxLen ∧ ∀ y ∈ x.Clues, GClue y)) ∧ ((x.Seals.length ≤ maxLen ∧ ∀ y ∈ x.Seals, (Lit.int .i64 y).wf = true)) ∧ ((Lit.int .i64 x.Salt).wf = true)
structure D.Session where
  Fill : ByteArray
  Checks : Int
  Spent : Int
  Asked : _root_.List Int
  Start : Int
  Now : Int
def kSession : AK D.Session := AK.iso (AK.pair AK.string (AK.pair (AK.int .i64) (AK.pair (AK.int .i64) (AK.pair (AK.slice (AK.int .i64)) (AK.pair (AK.int .i64) (AK.int .i64)))))) (fun x => (x.Fill, x.Checks, x.Spent, x.Asked, x.Start, x.Now))
def GSession (x : D.Session) : Prop := (x.Fill.size ≤ maxLen) ∧ ((Lit.int .i64 x.Checks).wf = true) ∧ ((Lit.int .i64 x.Spent).wf = true) ∧ ((x.Asked.length ≤ maxLen ∧ ∀ y ∈ x.Asked, (Lit.int .i64 y).wf = true)) ∧ ((Lit.int .i64 x.Start).wf = true) ∧ ((Lit.int .i64 x.Now).wf = true)
structure D.Slot where
  Number : Int
  Down : Bool
  Cell : Int
  Length : Int
theorem ok23 : AOpens Tryz.prog 23 kGrid GGrid := aopens_mono (aopens_struct (P := Tryz.prog) (t := 23) (fun x : D.Grid => (x.Rows, x.Cols, x.Cells)) (fun x => ⟨x.1, x.2.1, x.2.2⟩) (fun _ => rfl) Tryz.underlying23 (by kernel_rfl) (afields_cons rfl (by kernel_rfl) (aopens_int (k := .i64) Tryz.underlying3) (afields_cons rfl (by kernel_rfl) (aopens_int (k := .i64) Tryz.underlying3) (afields_one rfl (by kernel_rfl) (aopens_string Tryz.underlying9))))) (fun _ h => h)
theorem ok154 : AOpens Tryz.prog 154 kStep GStep := aopens_mono (aopens_struct (P := Tryz.prog) (t := 154) (fun x : D.Step => (x.Kind, x.Word, x.A, x.B)) (fun x => ⟨x.1, x.2.1, x.2.2.1, x.2.2.2⟩) (fun _ => rfl) Tryz.underlying154 (by kernel_rfl) (afields_cons rfl (by kernel_rfl) (aopens_int (k := .i64) Tryz.underlying3) (afields_cons rfl (by kernel_rfl) (aopens_string Tryz.underlying9) (afields_cons rfl (by kernel_rfl) (aopens_int (k := .i64) Tryz.underlying3) (afields_one rfl (by kernel_rfl) (aopens_int (k := .i64) Tryz.underlying3)))))) (fun _ h => h)
theorem ok76 : AOpens Tryz.prog 76 kClue GClue := aopens_mono (aopens_struct (P := Tryz.prog) (t := 76) (fun x : D.Clue => (x.Sense, x.Play)) (fun x => ⟨x.1, x.2⟩) (fun _ => rfl) Tryz.underlying76 (by kernel_rfl) (afields_cons rfl (by kernel_rfl) (aopens_int (k := .i64) Tryz.underlying3) (afields_one rfl (by kernel_rfl) (aopens_slice Tryz.underlying74 (by kernel_rfl) (of_decide_eq_true (by kernel_rfl)) ok154)))) (fun _ h => h)
theorem ok27 : AOpens Tryz.prog 27 kPuzzle GPuzzle := aopens_mono (aopens_struct (P := Tryz.prog) (t := 27) (fun x : D.Puzzle => (x.Grid, x.Clues, x.Seals, x.Salt)) (fun x => ⟨x.1, x.2.1, x.2.2.1, x.2.2.2⟩) (fun _ => rfl) Tryz.underlying27 (by kernel_rfl) (afields_cons rfl (by kernel_rfl) ok23 (afields_cons rfl (by kernel_rfl) (aopens_slice Tryz.underlying24 (by kernel_rfl) (of_decide_eq_true (by kernel_rfl)) ok76) (afields_cons rfl (by kernel_rfl) (aopens_slice Tryz.underlying25 (by kernel_rfl) (of_decide_eq_true (by kernel_rfl)) (aopens_int (k := .i64) Tryz.underlying3)) (afields_one rfl (by kernel_rfl) (aopens_int (k := .i64) Tryz.underlying3)))))) (fun _ h => h)
theorem ok51 : AOpens Tryz.prog 51 kSession GSession := aopens_mono (aopens_struct (P := Tryz.prog) (t := 51) (fun x : D.Session => (x.Fill, x.Checks, x.Spent, x.Asked, x.Start, x.Now)) (fun x => ⟨x.1, x.2.1, x.2.2.1, x.2.2.2.1, x.2.2.2.2.1, x.2.2.2.2.2⟩) (fun _ => rfl) Tryz.underlying51 (by kernel_rfl) (afields_cons rfl (by kernel_rfl) (aopens_string Tryz.underlying9) (afields_cons rfl (by kernel_rfl) (aopens_int (k := .i64) Tryz.underlying3) (afields_cons rfl (by kernel_rfl) (aopens_int (k := .i64) Tryz.underlying3) (afields_cons rfl (by kernel_rfl) (aopens_slice Tryz.underlying25 (by kernel_rfl) (of_decide_eq_true (by kernel_rfl)) (aopens_int (k := .i64) Tryz.underlying3)) (afields_cons rfl (by kernel_rfl) (aopens_int (k := .i64) Tryz.underlying3) (afields_one rfl (by kernel_rfl) (aopens_int (k := .i64) Tryz.underlying3)))))))) (fun _ h => h)
theorem st3 : isStruct Tryz.prog 3 = some false := by kernel_rfl
theorem sz3 : Tryz.prog.cellsOf 3 = 1 := by kernel_rfl
theorem if3 : (Tryz.prog.info? 3).isSome = true := by kernel_rfl
theorem zo3 : zeroOf Tryz.prog 3 = some (.int .i64 0) := by kernel_rfl
theorem zc3 : closedV (.int .i64 0) = true := by kernel_rfl
theorem st4 : isStruct Tryz.prog 4 = some false := by kernel_rfl
theorem sz4 : Tryz.prog.cellsOf 4 = 1 := by kernel_rfl
theorem if4 : (Tryz.prog.info? 4).isSome = true := by kernel_rfl
theorem zo4 : zeroOf Tryz.prog 4 = some (.bool false) := by kernel_rfl
theorem zc4 : closedV (.bool false) = true := by kernel_rfl
theorem st5 : isStruct Tryz.prog 5 = some false := by kernel_rfl
theorem sz5 : Tryz.prog.cellsOf 5 = 1 := by kernel_rfl
theorem if5 : (Tryz.prog.info? 5).isSome = true := by kernel_rfl
theorem zo5 : zeroOf Tryz.prog 5 = some (.int .u8 0) := by kernel_rfl
theorem st9 : isStruct Tryz.prog 9 = some false := by kernel_rfl
theorem sz9 : Tryz.prog.cellsOf 9 = 1 := by kernel_rfl
theorem if9 : (Tryz.prog.info? 9).isSome = true := by kernel_rfl
theorem zo9 : zeroOf Tryz.prog 9 = some (.string ByteArray.empty) := by kernel_rfl
theorem st23 : isStruct Tryz.prog 23 = some true := by kernel_rfl
theorem sz23 : Tryz.prog.cellsOf 23 = 3 := by kernel_rfl
theorem if23 : (Tryz.prog.info? 23).isSome = true := by kernel_rfl
theorem st24 : isStruct Tryz.prog 24 = some false := by kernel_rfl
theorem sz24 : Tryz.prog.cellsOf 24 = 1 := by kernel_rfl
theorem if24 : (Tryz.prog.info? 24).isSome = true := by kernel_rfl
theorem st25 : isStruct Tryz.prog 25 = some false := by kernel_rfl
theorem sz25 : Tryz.prog.cellsOf 25 = 1 := by kernel_rfl
theorem if25 : (Tryz.prog.info? 25).isSome = true := by kernel_rfl
theorem zo25 : zeroOf Tryz.prog 25 = some (.slice none 0 0) := by kernel_rfl
theorem st27 : isStruct Tryz.prog 27 = some true := by kernel_rfl
theorem sz27 : Tryz.prog.cellsOf 27 = 6 := by kernel_rfl
theorem st34 : isStruct Tryz.prog 34 = some true := by kernel_rfl
theorem sz34 : Tryz.prog.cellsOf 34 = 3 := by kernel_rfl
theorem if34 : (Tryz.prog.info? 34).isSome = true := by kernel_rfl
theorem zo34 : zeroOf Tryz.prog 34 = some (.agg #[.int .i64 0, .int .i64 0, .string ByteArray.empty]) := by kernel_rfl
theorem zc34 : closedV (.agg #[.int .i64 0, .int .i64 0, .string ByteArray.empty]) = true := by kernel_rfl
theorem st35 : isStruct Tryz.prog 35 = some false := by kernel_rfl
theorem sz35 : Tryz.prog.cellsOf 35 = 1 := by kernel_rfl
theorem if35 : (Tryz.prog.info? 35).isSome = true := by kernel_rfl
theorem st37 : isStruct Tryz.prog 37 = some true := by kernel_rfl
theorem sz37 : Tryz.prog.cellsOf 37 = 6 := by kernel_rfl
theorem if37 : (Tryz.prog.info? 37).isSome = true := by kernel_rfl
theorem zo37 : zeroOf Tryz.prog 37 = some (.agg #[.int .i64 0, .int .i64 0, .string ByteArray.empty, .slice none 0 0, .slice none 0 0, .int .i64 0]) := by kernel_rfl
theorem zc37 : closedV (.agg #[.int .i64 0, .int .i64 0, .string ByteArray.empty, .slice none 0 0, .slice none 0 0, .int .i64 0]) = true := by kernel_rfl
theorem st51 : isStruct Tryz.prog 51 = some true := by kernel_rfl
theorem sz51 : Tryz.prog.cellsOf 51 = 6 := by kernel_rfl
theorem st56 : isStruct Tryz.prog 56 = some true := by kernel_rfl
theorem sz56 : Tryz.prog.cellsOf 56 = 6 := by kernel_rfl
theorem if56 : (Tryz.prog.info? 56).isSome = true := by kernel_rfl
theorem zo56 : zeroOf Tryz.prog 56 = some (.agg #[.string ByteArray.empty, .int .i64 0, .int .i64 0, .slice none 0 0, .int .i64 0, .int .i64 0]) := by kernel_rfl
theorem zc56 : closedV (.agg #[.string ByteArray.empty, .int .i64 0, .int .i64 0, .slice none 0 0, .int .i64 0, .int .i64 0]) = true := by kernel_rfl
theorem st74 : isStruct Tryz.prog 74 = some false := by kernel_rfl
theorem sz74 : Tryz.prog.cellsOf 74 = 1 := by kernel_rfl
theorem if74 : (Tryz.prog.info? 74).isSome = true := by kernel_rfl
theorem st76 : isStruct Tryz.prog 76 = some true := by kernel_rfl
theorem sz76 : Tryz.prog.cellsOf 76 = 2 := by kernel_rfl
theorem if76 : (Tryz.prog.info? 76).isSome = true := by kernel_rfl
theorem st81 : isStruct Tryz.prog 81 = some false := by kernel_rfl
theorem sz81 : Tryz.prog.cellsOf 81 = 1 := by kernel_rfl
theorem if81 : (Tryz.prog.info? 81).isSome = true := by kernel_rfl
theorem st83 : isStruct Tryz.prog 83 = some true := by kernel_rfl
theorem sz83 : Tryz.prog.cellsOf 83 = 2 := by kernel_rfl
theorem if83 : (Tryz.prog.info? 83).isSome = true := by kernel_rfl
theorem zo83 : zeroOf Tryz.prog 83 = some (.agg #[.int .i64 0, .slice none 0 0]) := by kernel_rfl
theorem zc83 : closedV (.agg #[.int .i64 0, .slice none 0 0]) = true := by kernel_rfl
theorem st121 : isStruct Tryz.prog 121 = some true := by kernel_rfl
theorem sz121 : Tryz.prog.cellsOf 121 = 4 := by kernel_rfl
theorem if121 : (Tryz.prog.info? 121).isSome = true := by kernel_rfl
theorem zo121 : zeroOf Tryz.prog 121 = some (.agg #[.int .i64 0, .string ByteArray.empty, .int .i64 0, .int .i64 0]) := by kernel_rfl
theorem zc121 : closedV (.agg #[.int .i64 0, .string ByteArray.empty, .int .i64 0, .int .i64 0]) = true := by kernel_rfl
theorem st138 : isStruct Tryz.prog 138 = some true := by kernel_rfl
theorem sz138 : Tryz.prog.cellsOf 138 = 4 := by kernel_rfl
theorem if138 : (Tryz.prog.info? 138).isSome = true := by kernel_rfl
theorem zo138 : zeroOf Tryz.prog 138 = some (.agg #[.int .i64 0, .bool false, .int .i64 0, .int .i64 0]) := by kernel_rfl
theorem zc138 : closedV (.agg #[.int .i64 0, .bool false, .int .i64 0, .int .i64 0]) = true := by kernel_rfl
theorem st154 : isStruct Tryz.prog 154 = some true := by kernel_rfl
theorem sz154 : Tryz.prog.cellsOf 154 = 4 := by kernel_rfl
theorem if154 : (Tryz.prog.info? 154).isSome = true := by kernel_rfl
theorem st176 : isStruct Tryz.prog 176 = some false := by kernel_rfl
theorem sz176 : Tryz.prog.cellsOf 176 = 1 := by kernel_rfl
theorem if176 : (Tryz.prog.info? 176).isSome = true := by kernel_rfl
theorem zo176 : zeroOf Tryz.prog 176 = some (.slice none 0 0) := by kernel_rfl
theorem zc176 : closedV (.slice none 0 0) = true := by kernel_rfl
theorem st178 : isStruct Tryz.prog 178 = some false := by kernel_rfl
theorem sz178 : Tryz.prog.cellsOf 178 = 1 := by kernel_rfl
theorem if178 : (Tryz.prog.info? 178).isSome = true := by kernel_rfl
theorem fa23_0 (k o : Nat) : afieldAddr Tryz.prog 23 (.pointer (some ⟨k, o, none⟩)) 0 = some (.pointer (some ⟨k, o + 0, none⟩)) := by simp [afieldAddr, Tryz.underlying23, if3, sz3]
theorem fa23_1 (k o : Nat) : afieldAddr Tryz.prog 23 (.pointer (some ⟨k, o, none⟩)) 1 = some (.pointer (some ⟨k, o + 1, none⟩)) := by simp [afieldAddr, Tryz.underlying23, if3, sz3]
theorem fa23_2 (k o : Nat) : afieldAddr Tryz.prog 23 (.pointer (some ⟨k, o, none⟩)) 2 = some (.pointer (some ⟨k, o + 2, none⟩)) := by simp [afieldAddr, Tryz.underlying23, if9, sz9]
theorem fa27_0 (k o : Nat) : afieldAddr Tryz.prog 27 (.pointer (some ⟨k, o, none⟩)) 0 = some (.pointer (some ⟨k, o + 0, none⟩)) := by simp [afieldAddr, Tryz.underlying27, if23, sz23]
theorem fa27_1 (k o : Nat) : afieldAddr Tryz.prog 27 (.pointer (some ⟨k, o, none⟩)) 1 = some (.pointer (some ⟨k, o + 3, none⟩)) := by simp [afieldAddr, Tryz.underlying27, if24, sz24]
theorem fa27_2 (k o : Nat) : afieldAddr Tryz.prog 27 (.pointer (some ⟨k, o, none⟩)) 2 = some (.pointer (some ⟨k, o + 4, none⟩)) := by simp [afieldAddr, Tryz.underlying27, if25, sz25]
theorem fa27_3 (k o : Nat) : afieldAddr Tryz.prog 27 (.pointer (some ⟨k, o, none⟩)) 3 = some (.pointer (some ⟨k, o + 5, none⟩)) := by simp [afieldAddr, Tryz.underlying27, if3, sz3]
theorem fa34_0 (k o : Nat) : afieldAddr Tryz.prog 34 (.pointer (some ⟨k, o, none⟩)) 0 = some (.pointer (some ⟨k, o + 0, none⟩)) := by simp [afieldAddr, Tryz.underlying34, if3, sz3]
theorem fa34_1 (k o : Nat) : afieldAddr Tryz.prog 34 (.pointer (some ⟨k, o, none⟩)) 1 = some (.pointer (some ⟨k, o + 1, none⟩)) := by simp [afieldAddr, Tryz.underlying34, if3, sz3]
theorem fa34_2 (k o : Nat) : afieldAddr Tryz.prog 34 (.pointer (some ⟨k, o, none⟩)) 2 = some (.pointer (some ⟨k, o + 2, none⟩)) := by simp [afieldAddr, Tryz.underlying34, if9, sz9]
theorem fa37_0 (k o : Nat) : afieldAddr Tryz.prog 37 (.pointer (some ⟨k, o, none⟩)) 0 = some (.pointer (some ⟨k, o + 0, none⟩)) := by simp [afieldAddr, Tryz.underlying37, if34, sz34]
theorem fa37_1 (k o : Nat) : afieldAddr Tryz.prog 37 (.pointer (some ⟨k, o, none⟩)) 1 = some (.pointer (some ⟨k, o + 3, none⟩)) := by simp [afieldAddr, Tryz.underlying37, if35, sz35]
theorem fa37_2 (k o : Nat) : afieldAddr Tryz.prog 37 (.pointer (some ⟨k, o, none⟩)) 2 = some (.pointer (some ⟨k, o + 4, none⟩)) := by simp [afieldAddr, Tryz.underlying37, if25, sz25]
theorem fa37_3 (k o : Nat) : afieldAddr Tryz.prog 37 (.pointer (some ⟨k, o, none⟩)) 3 = some (.pointer (some ⟨k, o + 5, none⟩)) := by simp [afieldAddr, Tryz.underlying37, if3, sz3]
theorem fa51_0 (k o : Nat) : afieldAddr Tryz.prog 51 (.pointer (some ⟨k, o, none⟩)) 0 = some (.pointer (some ⟨k, o + 0, none⟩)) := by simp [afieldAddr, Tryz.underlying51, if9, sz9]
theorem fa51_1 (k o : Nat) : afieldAddr Tryz.prog 51 (.pointer (some ⟨k, o, none⟩)) 1 = some (.pointer (some ⟨k, o + 1, none⟩)) := by simp [afieldAddr, Tryz.underlying51, if3, sz3]
theorem fa51_2 (k o : Nat) : afieldAddr Tryz.prog 51 (.pointer (some ⟨k, o, none⟩)) 2 = some (.pointer (some ⟨k, o + 2, none⟩)) := by simp [afieldAddr, Tryz.underlying51, if3, sz3]
theorem fa51_3 (k o : Nat) : afieldAddr Tryz.prog 51 (.pointer (some ⟨k, o, none⟩)) 3 = some (.pointer (some ⟨k, o + 3, none⟩)) := by simp [afieldAddr, Tryz.underlying51, if25, sz25]
theorem fa51_4 (k o : Nat) : afieldAddr Tryz.prog 51 (.pointer (some ⟨k, o, none⟩)) 4 = some (.pointer (some ⟨k, o + 4, none⟩)) := by simp [afieldAddr, Tryz.underlying51, if3, sz3]
theorem fa51_5 (k o : Nat) : afieldAddr Tryz.prog 51 (.pointer (some ⟨k, o, none⟩)) 5 = some (.pointer (some ⟨k, o + 5, none⟩)) := by simp [afieldAddr, Tryz.underlying51, if3, sz3]
theorem fa56_0 (k o : Nat) : afieldAddr Tryz.prog 56 (.pointer (some ⟨k, o, none⟩)) 0 = some (.pointer (some ⟨k, o + 0, none⟩)) := by simp [afieldAddr, Tryz.underlying56, if9, sz9]
theorem fa56_1 (k o : Nat) : afieldAddr Tryz.prog 56 (.pointer (some ⟨k, o, none⟩)) 1 = some (.pointer (some ⟨k, o + 1, none⟩)) := by simp [afieldAddr, Tryz.underlying56, if3, sz3]
theorem fa56_2 (k o : Nat) : afieldAddr Tryz.prog 56 (.pointer (some ⟨k, o, none⟩)) 2 = some (.pointer (some ⟨k, o + 2, none⟩)) := by simp [afieldAddr, Tryz.underlying56, if3, sz3]
theorem fa56_3 (k o : Nat) : afieldAddr Tryz.prog 56 (.pointer (some ⟨k, o, none⟩)) 3 = some (.pointer (some ⟨k, o + 3, none⟩)) := by simp [afieldAddr, Tryz.underlying56, if25, sz25]
theorem fa56_4 (k o : Nat) : afieldAddr Tryz.prog 56 (.pointer (some ⟨k, o, none⟩)) 4 = some (.pointer (some ⟨k, o + 4, none⟩)) := by simp [afieldAddr, Tryz.underlying56, if3, sz3]
theorem fa56_5 (k o : Nat) : afieldAddr Tryz.prog 56 (.pointer (some ⟨k, o, none⟩)) 5 = some (.pointer (some ⟨k, o + 5, none⟩)) := by simp [afieldAddr, Tryz.underlying56, if3, sz3]
theorem fa76_0 (k o : Nat) : afieldAddr Tryz.prog 76 (.pointer (some ⟨k, o, none⟩)) 0 = some (.pointer (some ⟨k, o + 0, none⟩)) := by simp [afieldAddr, Tryz.underlying76, if3, sz3]
theorem fa76_1 (k o : Nat) : afieldAddr Tryz.prog 76 (.pointer (some ⟨k, o, none⟩)) 1 = some (.pointer (some ⟨k, o + 1, none⟩)) := by simp [afieldAddr, Tryz.underlying76, if74, sz74]
theorem fa83_0 (k o : Nat) : afieldAddr Tryz.prog 83 (.pointer (some ⟨k, o, none⟩)) 0 = some (.pointer (some ⟨k, o + 0, none⟩)) := by simp [afieldAddr, Tryz.underlying83, if3, sz3]
theorem fa83_1 (k o : Nat) : afieldAddr Tryz.prog 83 (.pointer (some ⟨k, o, none⟩)) 1 = some (.pointer (some ⟨k, o + 1, none⟩)) := by simp [afieldAddr, Tryz.underlying83, if81, sz81]
theorem fa121_0 (k o : Nat) : afieldAddr Tryz.prog 121 (.pointer (some ⟨k, o, none⟩)) 0 = some (.pointer (some ⟨k, o + 0, none⟩)) := by simp [afieldAddr, Tryz.underlying121, if3, sz3]
theorem fa121_1 (k o : Nat) : afieldAddr Tryz.prog 121 (.pointer (some ⟨k, o, none⟩)) 1 = some (.pointer (some ⟨k, o + 1, none⟩)) := by simp [afieldAddr, Tryz.underlying121, if9, sz9]
theorem fa121_2 (k o : Nat) : afieldAddr Tryz.prog 121 (.pointer (some ⟨k, o, none⟩)) 2 = some (.pointer (some ⟨k, o + 2, none⟩)) := by simp [afieldAddr, Tryz.underlying121, if3, sz3]
theorem fa121_3 (k o : Nat) : afieldAddr Tryz.prog 121 (.pointer (some ⟨k, o, none⟩)) 3 = some (.pointer (some ⟨k, o + 3, none⟩)) := by simp [afieldAddr, Tryz.underlying121, if3, sz3]
theorem fa138_1 (k o : Nat) : afieldAddr Tryz.prog 138 (.pointer (some ⟨k, o, none⟩)) 1 = some (.pointer (some ⟨k, o + 1, none⟩)) := by simp [afieldAddr, Tryz.underlying138, if4, sz4]
theorem fa138_2 (k o : Nat) : afieldAddr Tryz.prog 138 (.pointer (some ⟨k, o, none⟩)) 2 = some (.pointer (some ⟨k, o + 2, none⟩)) := by simp [afieldAddr, Tryz.underlying138, if3, sz3]
theorem fa138_3 (k o : Nat) : afieldAddr Tryz.prog 138 (.pointer (some ⟨k, o, none⟩)) 3 = some (.pointer (some ⟨k, o + 3, none⟩)) := by simp [afieldAddr, Tryz.underlying138, if3, sz3]
theorem fa154_0 (k o : Nat) : afieldAddr Tryz.prog 154 (.pointer (some ⟨k, o, none⟩)) 0 = some (.pointer (some ⟨k, o + 0, none⟩)) := by simp [afieldAddr, Tryz.underlying154, if3, sz3]
theorem fa154_1 (k o : Nat) : afieldAddr Tryz.prog 154 (.pointer (some ⟨k, o, none⟩)) 1 = some (.pointer (some ⟨k, o + 1, none⟩)) := by simp [afieldAddr, Tryz.underlying154, if9, sz9]
theorem fa154_2 (k o : Nat) : afieldAddr Tryz.prog 154 (.pointer (some ⟨k, o, none⟩)) 2 = some (.pointer (some ⟨k, o + 2, none⟩)) := by simp [afieldAddr, Tryz.underlying154, if3, sz3]
theorem fa154_3 (k o : Nat) : afieldAddr Tryz.prog 154 (.pointer (some ⟨k, o, none⟩)) 3 = some (.pointer (some ⟨k, o + 3, none⟩)) := by simp [afieldAddr, Tryz.underlying154, if3, sz3]
theorem eq34 (a b : D.Grid) : ∃ q, eqv Tryz.prog 20 34 (.agg #[Value.int .i64 a.Rows, Value.int .i64 a.Cols, Value.string a.Cells]) (.agg #[Value.int .i64 b.Rows, Value.int .i64 b.Cols, Value.string b.Cells]) = some q ∧ (q = true ↔ a = b) := by
  refine ⟨_, eqv_struct 19 Tryz.underlying34 rfl (by kernel_rfl) (eqf_cons rfl (apart_one st3 rfl) (apart_one st3 rfl) (eqv_int 18 Tryz.underlying3) (eqf_cons rfl (apart_one st3 rfl) (apart_one st3 rfl) (eqv_int 18 Tryz.underlying3) (eqf_cons rfl (apart_one st9 rfl) (apart_one st9 rfl) (eqv_str 18 Tryz.underlying9) eqf_nil))), ?_⟩
  obtain ⟨a0, a1, a2⟩ := a
  obtain ⟨b0, b1, b2⟩ := b
  simp
theorem beq34 (a b : D.Grid) (xo yo : Operand) : ∃ q, abop Tryz.prog .eql 34 xo yo (.agg #[Value.int .i64 a.Rows, Value.int .i64 a.Cols, Value.string a.Cells]) (.agg #[Value.int .i64 b.Rows, Value.int .i64 b.Cols, Value.string b.Cells]) = some (.bool q) ∧ (q = true ↔ a = b) := by
  obtain ⟨q, h1, h2⟩ := eq34 a b
  exact ⟨q, abop_eql (by simp [closedV, closed1]) (by simp [closedV, closed1]) (by kernel_rfl) h1, h2⟩
theorem eq138 (a b : D.Slot) : ∃ q, eqv Tryz.prog 20 138 (.agg #[Value.int .i64 a.Number, Value.bool a.Down, Value.int .i64 a.Cell, Value.int .i64 a.Length]) (.agg #[Value.int .i64 b.Number, Value.bool b.Down, Value.int .i64 b.Cell, Value.int .i64 b.Length]) = some q ∧ (q = true ↔ a = b) := by
  refine ⟨_, eqv_struct 19 Tryz.underlying138 rfl (by kernel_rfl) (eqf_cons rfl (apart_one st3 rfl) (apart_one st3 rfl) (eqv_int 18 Tryz.underlying3) (eqf_cons rfl (apart_one st4 rfl) (apart_one st4 rfl) (eqv_bool 18 Tryz.underlying4) (eqf_cons rfl (apart_one st3 rfl) (apart_one st3 rfl) (eqv_int 18 Tryz.underlying3) (eqf_cons rfl (apart_one st3 rfl) (apart_one st3 rfl) (eqv_int 18 Tryz.underlying3) eqf_nil)))), ?_⟩
  obtain ⟨a0, a1, a2, a3⟩ := a
  obtain ⟨b0, b1, b2, b3⟩ := b
  simp
theorem bne138 (a b : D.Slot) (xo yo : Operand) : ∃ q, abop Tryz.prog .neq 138 xo yo (.agg #[Value.int .i64 a.Number, Value.bool a.Down, Value.int .i64 a.Cell, Value.int .i64 a.Length]) (.agg #[Value.int .i64 b.Number, Value.bool b.Down, Value.int .i64 b.Cell, Value.int .i64 b.Length]) = some (.bool (!q)) ∧ (q = true ↔ a = b) := by
  obtain ⟨q, h1, h2⟩ := eq138 a b
  exact ⟨q, abop_neq (by simp [closedV, closed1]) (by simp [closedV, closed1]) (by kernel_rfl) h1, h2⟩
theorem follows : Tryz.prog.follows .mixedOrders = true := by kernel_rfl
theorem plainProg : Plain Tryz.prog := by
  unfold Plain
  kernel_rfl
end Go.Proofs.YtcccmceoplcciaaGreat.AE
namespace Go.Proofs.YtcccmceoplcciaaGreat.AE
open Go Go.RowKit
set_option linter.unusedVariables false
set_option linter.unusedSimpArgs false
noncomputable instance : DecidableEq D.Grid := Classical.typeDecidableEq _
def eGrid (m : Bool) (x : D.Grid) : List T := [.int .i64 x.Rows, .int .i64 x.Cols, .str x.Cells]
theorem okeGrid : EncOk eGrid 3 := ⟨fun _ _ => rfl, fun x => ball_cons (.int _ _) (ball_cons (.int _ _) (ball_cons (.str _) (ball_nil))), fun m x => by simp only [eGrid, fzL, AE.fz], fun m x => ball_cons rfl (ball_cons rfl (ball_cons rfl (ball_nil))), fun x => ball_cons rfl (ball_cons rfl (ball_cons rfl (ball_nil)))⟩
def zGrid (x : D.Grid) : Nat := ByteArray.size x.Cells
theorem rkGrid : RK kGrid eGrid := rkIso (rkPair rkInt (rkPair rkInt rkStr)) (fun _ => rfl)
theorem svGrid (m : Bool) (x : D.Grid) : SvL (eGrid m x) [Value.int .i64 x.Rows, Value.int .i64 x.Cols, Value.string x.Cells] := .cons (.int _ _) (.cons (.int _ _) (.cons (.str _) (.nil)))
noncomputable instance : DecidableEq D.Step := Classical.typeDecidableEq _
def eStep (m : Bool) (x : D.Step) : List T := [.int .i64 x.Kind, .str x.Word, .int .i64 x.A, .int .i64 x.B]
theorem okeStep : EncOk eStep 4 := ⟨fun _ _ => rfl, fun x => ball_cons (.int _ _) (ball_cons (.str _) (ball_cons (.int _ _) (ball_cons (.int _ _) (ball_nil)))), fun m x => by simp only [eStep, fzL, AE.fz], fun m x => ball_cons rfl (ball_cons rfl (ball_cons rfl (ball_cons rfl (ball_nil)))), fun x => ball_cons rfl (ball_cons rfl (ball_cons rfl (ball_cons rfl (ball_nil))))⟩
def zStep (x : D.Step) : Nat := ByteArray.size x.Word
theorem flStep : FlatE eStep := fun _ _ => rfl
theorem rkStep : RK kStep eStep := rkIso (rkPair rkInt (rkPair rkStr (rkPair rkInt rkInt))) (fun _ => rfl)
noncomputable instance : DecidableEq D.Clue := Classical.typeDecidableEq _
def eClue (m : Bool) (x : D.Clue) : List T := [.int .i64 x.Sense, .sl m 4 (x.Play.map (eStep m))]
theorem okeClue : EncOk eClue 2 := ⟨fun _ _ => rfl, fun x => ball_cons (.int _ _) (ball_cons (.sl _ _ (okeStep.cleanMap _)) (ball_nil)), fun m x => by simp only [eClue, fzL, AE.fz, okeStep.fzMap], fun m x => ball_cons rfl (ball_cons rfl (ball_nil)), fun x => ball_cons rfl (ball_cons rfl (ball_nil))⟩
def zClue (x : D.Clue) : Nat := (zL zStep) x.Play
theorem rkClue : RK kClue eClue := rkIso (rkPair rkInt (rkSl rkStep okeStep rfl)) (fun _ => rfl)
noncomputable instance : DecidableEq D.Puzzle := Classical.typeDecidableEq _
def ePuzzle (m : Bool) (x : D.Puzzle) : List T := [.int .i64 x.Grid.Rows, .int .i64 x.Grid.Cols, .str x.Grid.Cells, .sl m 2 (x.Clues.map (eClue m)), .sl m 1 (x.Seals.map (eInt m)), .int .i64 x.Salt]
theorem okePuzzle : EncOk ePuzzle 6 := ⟨fun _ _ => rfl, fun x => ball_cons (.int _ _) (ball_cons (.int _ _) (ball_cons (.str _) (ball_cons (.sl _ _ (okeClue.cleanMap _)) (ball_cons (.sl _ _ (okInt.cleanMap _)) (ball_cons (.int _ _) (ball_nil)))))), fun m x => by simp only [ePuzzle, fzL, AE.fz, okInt.fzMap, okeClue.fzMap], fun m x => ball_cons rfl (ball_cons rfl (ball_cons rfl (ball_cons rfl (ball_cons rfl (ball_cons rfl (ball_nil)))))), fun x => ball_cons rfl (ball_cons rfl (ball_cons rfl (ball_cons rfl (ball_cons rfl (ball_cons rfl (ball_nil))))))⟩
def zPuzzle (x : D.Puzzle) : Nat := zGrid x.Grid + (zL zClue) x.Clues + (zL zI) x.Seals
theorem rkPuzzle : RK kPuzzle ePuzzle := rkIso (rkPair rkGrid (rkPair (rkSl rkClue okeClue rfl) (rkPair (rkSl rkInt okInt rfl) rkInt))) (fun _ => rfl)
noncomputable instance : DecidableEq D.Session := Classical.typeDecidableEq _
def eSession (m : Bool) (x : D.Session) : List T := [.str x.Fill, .int .i64 x.Checks, .int .i64 x.Spent, .sl m 1 (x.Asked.map (eInt m)), .int .i64 x.Start, .int .i64 x.Now]
theorem okeSession : EncOk eSession 6 := ⟨fun _ _ => rfl, fun x => ball_cons (.str _) (ball_cons (.int _ _) (ball_cons (.int _ _) (ball_cons (.sl _ _ (okInt.cleanMap _)) (ball_cons (.int _ _) (ball_cons (.int _ _) (ball_nil)))))), fun m x => by simp only [eSession, fzL, AE.fz, okInt.fzMap], fun m x => ball_cons rfl (ball_cons rfl (ball_cons rfl (ball_cons rfl (ball_cons rfl (ball_cons rfl (ball_nil)))))), fun x => ball_cons rfl (ball_cons rfl (ball_cons rfl (ball_cons rfl (ball_cons rfl (ball_cons rfl (ball_nil))))))⟩
def zSession (x : D.Session) : Nat := ByteArray.size x.Fill + (zL zI) x.Asked
theorem rkSession : RK kSession eSession := rkIso (rkPair rkStr (rkPair rkInt (rkPair rkInt (rkPair (rkSl rkInt okInt rfl) (rkPair rkInt rkInt))))) (fun _ => rfl)
noncomputable instance : DecidableEq D.Slot := Classical.typeDecidableEq _
def eSlot (m : Bool) (x : D.Slot) : List T := [.int .i64 x.Number, .bool x.Down, .int .i64 x.Cell, .int .i64 x.Length]
theorem okeSlot : EncOk eSlot 4 := ⟨fun _ _ => rfl, fun x => ball_cons (.int _ _) (ball_cons (.bool _) (ball_cons (.int _ _) (ball_cons (.int _ _) (ball_nil)))), fun m x => by simp only [eSlot, fzL, AE.fz], fun m x => ball_cons rfl (ball_cons rfl (ball_cons rfl (ball_cons rfl (ball_nil)))), fun x => ball_cons rfl (ball_cons rfl (ball_cons rfl (ball_cons rfl (ball_nil))))⟩
theorem svSlot (m : Bool) (x : D.Slot) : SvL (eSlot m x) [Value.int .i64 x.Number, Value.bool x.Down, Value.int .i64 x.Cell, Value.int .i64 x.Length] := .cons (.int _ _) (.cons (.bool _) (.cons (.int _ _) (.cons (.int _ _) (.nil))))
theorem B.eql34 {call : CallT} {E : Env} {d : Option Tmp} {ty xt : TypeId} {ps : String} {af : Array Edge} {g : Option (Nat × Bool)} {x y : Operand} {a b : D.Grid} {m m' : Bool} (hx : VEv E x (.agg (eGrid m a))) (hy : VEv E y (.agg (eGrid m' b))) : OF call Tryz.prog E ⟨d, .binOp .eql 34 x y xt, ty, ps, af, g⟩ (.bool (decide (a = b))) := by
  obtain ⟨q, h1, h2⟩ := beq34 a b x y
  have h3 : q = decide (a = b) := by
    by_cases h : a = b
    · rw [h2.2 h, decide_eq_true h]
    · rw [decide_eq_false h]
      cases q
      · rfl
      · exact absurd (h2.1 rfl) h
  exact h3 ▸ OF.binA hx hy (svGrid _ a) (svGrid _ b) h1 (.bool _)
theorem B.neq138 {call : CallT} {E : Env} {d : Option Tmp} {ty xt : TypeId} {ps : String} {af : Array Edge} {g : Option (Nat × Bool)} {x y : Operand} {a b : D.Slot} {m m' : Bool} (hx : VEv E x (.agg (eSlot m a))) (hy : VEv E y (.agg (eSlot m' b))) : OF call Tryz.prog E ⟨d, .binOp .neq 138 x y xt, ty, ps, af, g⟩ (.bool (!decide (a = b))) := by
  obtain ⟨q, h1, h2⟩ := bne138 a b x y
  have h3 : q = decide (a = b) := by
    by_cases h : a = b
    · rw [h2.2 h, decide_eq_true h]
    · rw [decide_eq_false h]
      cases q
      · rfl
      · exact absurd (h2.1 rfl) h
  exact h3 ▸ OF.binA hx hy (svSlot _ a) (svSlot _ b) h1 (.bool _)
theorem U3 : Tryz.prog.underlying 3 = some (.int .i64) := Tryz.underlying3
theorem U4 : Tryz.prog.underlying 4 = some .bool := Tryz.underlying4
theorem U5 : Tryz.prog.underlying 5 = some (.int .u8) := Tryz.underlying5
theorem U9 : Tryz.prog.underlying 9 = some .string := Tryz.underlying9
theorem U24 : Tryz.prog.underlying 24 = some (.slice 76) := Tryz.underlying24
theorem U25 : Tryz.prog.underlying 25 = some (.slice 3) := Tryz.underlying25
theorem U35 : Tryz.prog.underlying 35 = some (.slice 83) := Tryz.underlying35
theorem U74 : Tryz.prog.underlying 74 = some (.slice 154) := Tryz.underlying74
theorem U81 : Tryz.prog.underlying 81 = some (.slice 121) := Tryz.underlying81
theorem U123 : Tryz.prog.underlying 123 = some (.slice 138) := Tryz.underlying123
theorem U132 : Tryz.prog.underlying 132 = some (.slice 5) := Tryz.underlying132
theorem U134 : Tryz.prog.underlying 134 = some (.slice 9) := Tryz.underlying134
theorem U150 : Tryz.prog.underlying 150 = some (.slice 25) := Tryz.underlying150
theorem U160 : Tryz.prog.underlying 160 = some (.map 3 3) := Tryz.underlying160
theorem U176 : Tryz.prog.underlying 176 = some (.slice 4) := Tryz.underlying176
end Go.Proofs.YtcccmceoplcciaaGreat.AE
namespace Go.Proofs.YtcccmceoplcciaaGreat.AE
open Go Go.RowKit
set_option linter.unusedVariables false
set_option linter.unusedSimpArgs false
set_option maxRecDepth 20000
set_option maxHeartbeats 2000000
theorem W_laws_szIntS (n : Nat) (a : List Int) (left : Int) (h0 : 0 ≤ left) (h1 : left ≤ (mx : Int)) (hg : a.length ≤ maxLen) : Pure (acall Tryz.prog (n + 1)) 55 [(rd 1 eInt a), (tI left)] (tI (szR (zL zI a) left)) := by
  refine Pure.intro (rs := [ResultVar.tmp 4]) Tryz.func55 rfl rfl rfl (E0 := [(0, (rd 1 eInt a)), (1, (tI left))]) rfl ?_
  obtain ⟨hlim, hmx, hmax⟩ := lims
  refine sr (fO (OF.assign (VEv.int .i64 0)) (nt (sr (mO (tI left) rfl (mO (rd 1 eInt a) rfl (lO (B.lenR (m := a.length) (tv (rd 1 eInt a) rfl) U25 (List.length_map ..)) (fO (B.sub (n := (left - ((a.length : Nat) : Int))) (tv (tI left) rfl) (tv (tN a.length) rfl) (by first | rfl | (rw [wrap64 (by omega)]; omega) | (rw [wrap64 (by omega)]; done))) (aO (tI (left - ((a.length : Nat) : Int))) rfl (nt (sq (sr ?_)))))))))))
  refine mO (tI (left - ((a.length : Nat) : Int))) rfl (fO (xls (tv (tI (left - ((a.length : Nat) : Int))) rfl) (VEv.int .i64 0)) (nt ?_))
  refine cd ((left - ((a.length : Nat) : Int)) < 0) rfl (fun fhc0 => ?_) fun fhc0 => ?_
  · refine sr ?_
    refine fO (OF.assign (VEv.int .i64 (-1))) (nt (rt (tr (vi (n' := (-1)) rfl ?_))))
    exact SzI.early fhc0
  refine sk (tn (sr (mO (tI (left - ((a.length : Nat) : Int))) rfl (aO (tI (left - ((a.length : Nat) : Int))) rfl (nt (rt (vi (n' := (left - ((a.length : Nat) : Int))) rfl ?_)))))))
  rw [zL_zero (z := zI) (fun _ => rfl)]; exact szR_nn fhc0
theorem W_laws_szGrid (n : Nat) (a : D.Grid) (left : Int) (h0 : 0 ≤ left) (h1 : left ≤ (mx : Int)) (hg : GGrid a) : Pure (acall Tryz.prog (n + 1)) 53 [(T.agg (eGrid false a)), (tI left)] (tI (szR (zGrid a) left)) := by
  refine Pure.intro (rs := [ResultVar.tmp 4]) Tryz.func53 rfl rfl rfl (E0 := [(0, (T.agg (eGrid false a))), (1, (tI left))]) rfl ?_
  obtain ⟨hlim, hmx, hmax⟩ := lims
  obtain ⟨hg0, hg1, hg2⟩ := hg
  refine sr (kO (B.box (ts := (eGrid false a)) (tv (T.agg (eGrid false a)) rfl) nofun rfl) (fO (OF.assign (VEv.int .i64 0)) (nt (sr (mO (tI left) rfl (lf (tS a.Cells) rfl fa23_2 rfl rfl st9 (lO (B.lenS (tv (tS a.Cells) rfl) U9) (fO (B.sub (n := (left - ((a.Cells.size : Nat) : Int))) (tv (tI left) rfl) (tv (tN a.Cells.size) rfl) (by (rw [wrap64 (by omega)]; done))) (aO (tI (left - ((a.Cells.size : Nat) : Int))) rfl (nt (sq ?_)))))))))))
  refine sr (mO (tI (left - ((a.Cells.size : Nat) : Int))) rfl (fO (xls (tv (tI (left - ((a.Cells.size : Nat) : Int))) rfl) (VEv.int .i64 0)) (nt ?_)))
  refine cd ((left - ((a.Cells.size : Nat) : Int)) < 0) rfl (fun fhc0 => ?_) fun fhc0 => ?_
  · refine sr ?_
    refine fO (OF.assign (VEv.int .i64 (-1))) (nt (rt (tr (vi (n' := (-1)) rfl ?_))))
    exact szR_neg (by simp only [zGrid]; omega)
  refine sk (tn (sr (mO (tI (left - ((a.Cells.size : Nat) : Int))) rfl (aO (tI (left - ((a.Cells.size : Nat) : Int))) rfl (nt (rt (vi (n' := (left - ((a.Cells.size : Nat) : Int))) rfl ?_)))))))
  rw [← szR_nn (z := zGrid a) (l := left) (by simp only [zGrid]; omega)]
  all_goals rfl
theorem W_laws_szStep (n : Nat) (a : D.Step) (left : Int) (h0 : 0 ≤ left) (h1 : left ≤ (mx : Int)) (hg : GStep a) : Pure (acall Tryz.prog (n + 1)) 152 [(T.agg (eStep false a)), (tI left)] (tI (szR (zStep a) left)) := by
  refine Pure.intro (rs := [ResultVar.tmp 4]) Tryz.func152 rfl rfl rfl (E0 := [(0, (T.agg (eStep false a))), (1, (tI left))]) rfl ?_
  obtain ⟨hlim, hmx, hmax⟩ := lims
  obtain ⟨hg0, hg1, hg2, hg3⟩ := hg
  refine sr (kO (B.box (ts := (eStep false a)) (tv (T.agg (eStep false a)) rfl) nofun rfl) (fO (OF.assign (VEv.int .i64 0)) (nt (sr (mO (tI left) rfl (lf (tS a.Word) rfl fa154_1 rfl rfl st9 (lO (B.lenS (tv (tS a.Word) rfl) U9) (fO (B.sub (n := (left - ((a.Word.size : Nat) : Int))) (tv (tI left) rfl) (tv (tN a.Word.size) rfl) (by (rw [wrap64 (by omega)]; done))) (aO (tI (left - ((a.Word.size : Nat) : Int))) rfl (nt (sq ?_)))))))))))
  refine sr (mO (tI (left - ((a.Word.size : Nat) : Int))) rfl (fO (xls (tv (tI (left - ((a.Word.size : Nat) : Int))) rfl) (VEv.int .i64 0)) (nt ?_)))
  refine cd ((left - ((a.Word.size : Nat) : Int)) < 0) rfl (fun fhc0 => ?_) fun fhc0 => ?_
  · refine sr ?_
    refine fO (OF.assign (VEv.int .i64 (-1))) (nt (rt (tr (vi (n' := (-1)) rfl ?_))))
    exact szR_neg (by simp only [zStep]; omega)
  refine sk (tn (sr (mO (tI (left - ((a.Word.size : Nat) : Int))) rfl (aO (tI (left - ((a.Word.size : Nat) : Int))) rfl (nt (rt (vi (n' := (left - ((a.Word.size : Nat) : Int))) rfl ?_)))))))
  rw [← szR_nn (z := zStep a) (l := left) (by simp only [zStep]; omega)]
  all_goals rfl
theorem W_laws_szStepS (n : Nat) (a : List D.Step) (left : Int) (h0 : 0 ≤ left) (h1 : left ≤ (mx : Int)) (hg : a.length ≤ maxLen ∧ ∀ x ∈ a, GStep x) : Pure (acall Tryz.prog (n + 2)) 126 [(rd 4 eStep a), (tI left)] (tI (szR (zL zStep a) left)) := by
  refine Pure.intro (rs := [ResultVar.tmp 4]) Tryz.func126 rfl rfl rfl (E0 := [(0, (rd 4 eStep a)), (1, (tI left))]) rfl ?_
  obtain ⟨hlim, hmx, hmax⟩ := lims
  obtain ⟨hg1, hg2⟩ := hg
  refine sr (fO (OF.assign (VEv.int .i64 0)) (nt (sr (mO (tI left) rfl (mO (rd 4 eStep a) rfl (lO (B.lenR (m := a.length) (tv (rd 4 eStep a) rfl) U74 (List.length_map ..)) (fO (B.sub (n := (left - ((a.length : Nat) : Int))) (tv (tI left) rfl) (tv (tN a.length) rfl) (by (rw [wrap64 (by omega)]; done))) (aO (tI (left - ((a.length : Nat) : Int))) rfl (nt (sq (sr ?_)))))))))))
  refine mO (tI (left - ((a.length : Nat) : Int))) rfl (fO (xls (tv (tI (left - ((a.length : Nat) : Int))) rfl) (VEv.int .i64 0)) (nt ?_))
  refine cd ((left - ((a.length : Nat) : Int)) < 0) rfl (fun fhc0 => ?_) fun fhc0 => ?_
  · refine sr ?_
    refine fO (OF.assign (VEv.int .i64 (-1))) (nt (rt (tr (vi (n' := (-1)) rfl ?_))))
    exact SzI.early fhc0
  refine sk (tn (sq (sr (fO (OF.assign (VEv.int .i64 0)) (nt (VRun.block ?_))))))
  refine VRun.loop (A := Nat × Int) (fun s_ => [(0, (rd 4 eStep a)), (1, (tI s_.2)), (5, (tN s_.1))]) (fun s_ => mkO []) 0 (fun s_ => SzI zStep a left s_.1 s_.2) (fun s_ => a.length - s_.1) ((0, left - (a.length : Int)) : Nat × Int) ?_ (Wk.mk (fun k => k) ?_ ?_ ?_) ?_
  · exact SzI.start h1 fhc0
  · exact (b2 (bc ⟨(congrArg (T.int .i64) (show (left - ((a.length : Nat) : Int)) = (left - (a.length : Int)) from (by rfl))), rfl⟩ (b2 bn)))
  · exact bn
  · exact nd rfl
  rintro ⟨i, r⟩ (hI' : SzI zStep a left i r)
  show VRun _ _ _ [(0, (rd 4 eStep a)), (1, (tI r)), (5, (tN i))] (mkO []) 0 _
  have hI2 := hI'.1
  have hI3 := hI'.2.1
  have hI4 := hI'.2.2.1
  refine sq (sr (mO (tN i) rfl (mO (rd 4 eStep a) rfl (lO (B.lenR (m := a.length) (tv (rd 4 eStep a) rfl) U74 (List.length_map ..)) (fO (xls' (tv (tN i) rfl) (tv (tN a.length) rfl)) (nt ?_))))))
  refine cd (i < a.length) rfl (fun fhc1 => ?_) fun fhc1 => ?_
  · refine sk ?_
    refine tn (sq (VRun.block (sr (mO (rd 4 eStep a) rfl (mO (tN i) rfl ?_)))))
    obtain ⟨x1, hx1⟩ : ∃ x, a[i]? = some x := ⟨_, List.getElem?_eq_getElem (by omega)⟩
    refine fO (OF.indexAddrR (row := (eStep false x1)) (i := i) (tv (rd 4 eStep a) rfl) (tv (tN i) rfl) rfl (map_at _ hx1) U74 sz154 if154) (lO (OL.loadRn (us := (eStep false x1)) (tv (T.rp (eStep false x1)) rfl) st154 sz154 (lb rfl) rfl) (mO (tI r) rfl (cO (cS (vc (tv (T.agg (eStep false x1)) rfl) (vc (tv (tI r) rfl) vn)) (LendL.cons (lg okeStep) (lp rfl ln)) (W_laws_szStep (n + 0) x1 r (by assumption) (by assumption) (by exact hg2 _ (List.mem_of_getElem? hx1))) rfl rfl) (aO (tI (szR (zStep x1) r)) rfl (nt (sr (mO (tI (szR (zStep x1) r)) rfl (fO (xls (tv (tI (szR (zStep x1) r)) rfl) (VEv.int .i64 0)) (nt ?_)))))))))
    refine cd (szR (zStep x1) r < 0) rfl (fun fhc2 => ?_) fun fhc2 => ?_
    · refine sr ?_
      refine fO (OF.assign (VEv.int .i64 (-1))) (nt (rt (vinB.r (tr (tr (vinB.r (tr (vi (n' := (-1)) rfl ?_))))))))
      exact hI'.bad hx1 fhc2
    refine sk (vinB.n (tn (VRun.region (mO (tN i) rfl (fO (xinc (tv (tN i) rfl) (VEv.int .i64 1) (by omega)) (aO (tN (i + 1)) rfl (VRunO.nil (tn ?_))))))))
    refine ⟨((i + 1, szR (zStep x1) r) : Nat × Int), ?_, ?_, Wk.mk (fun k => k) ?_ ?_ ?_⟩
    · exact hI'.next hx1 fhc2
    · omega
    · exact (b2 (b2 (b2 bn)))
    · exact bn
    · exact nd rfl
  refine VRun.exit (vthn.e (vthn.e (vinB.e (tn (sr (mO (tI r) rfl (aO (tI r) rfl (nt (rt (vi (n' := r) rfl ?_))))))))))
  exact hI'.done fhc1
theorem W_laws_szClue (n : Nat) (a : D.Clue) (left : Int) (h0 : 0 ≤ left) (h1 : left ≤ (mx : Int)) (hg : GClue a) : Pure (acall Tryz.prog (n + 3)) 97 [(T.agg (eClue false a)), (tI left)] (tI (szR (zClue a) left)) := by
  refine Pure.intro (rs := [ResultVar.tmp 4]) Tryz.func97 rfl rfl rfl (E0 := [(0, (T.agg (eClue false a))), (1, (tI left))]) rfl ?_
  obtain ⟨hlim, hmx, hmax⟩ := lims
  obtain ⟨hg0, hg1⟩ := hg
  refine sr (kO (B.box (ts := (eClue false a)) (tv (T.agg (eClue false a)) rfl) nofun rfl) (fO (OF.assign (VEv.int .i64 0)) (nt (sr (lf (rd 4 eStep a.Play) rfl fa76_1 rfl rfl st74 (mO (tI left) rfl (cO (cS (vc (tv (rd 4 eStep a.Play) rfl) (vc (tv (tI left) rfl) vn)) (lps rfl) (W_laws_szStepS (n + 0) a.Play left (by assumption) (by assumption) (by assumption)) rfl rfl) (aO (tI (szR (zL zStep a.Play) left)) rfl (nt (sq (sr ?_)))))))))))
  refine mO (tI (szR (zL zStep a.Play) left)) rfl (fO (xls (tv (tI (szR (zL zStep a.Play) left)) rfl) (VEv.int .i64 0)) (nt ?_))
  refine cd (szR (zL zStep a.Play) left < 0) rfl (fun fhc0 => ?_) fun fhc0 => ?_
  · refine sr ?_
    refine fO (OF.assign (VEv.int .i64 (-1))) (nt (rt (tr (vi (n' := (-1)) rfl ?_))))
    exact szR_neg (by have hlt := szR_lt fhc0; simp only [zClue]; omega)
  have hq0 := szR_pos fhc0
  refine sk (tn (sr (mO (tI (szR (zL zStep a.Play) left)) rfl (aO (tI (szR (zL zStep a.Play) left)) rfl (nt (rt (vi (n' := szR (zL zStep a.Play) left) rfl ?_)))))))
  rw [← szR_nn (z := zClue a) (l := left) (by simp only [zClue]; omega)]
  all_goals (simp only [zClue]; omega)
theorem W_laws_szClueS (n : Nat) (a : List D.Clue) (left : Int) (h0 : 0 ≤ left) (h1 : left ≤ (mx : Int)) (hg : a.length ≤ maxLen ∧ ∀ x ∈ a, GClue x) : Pure (acall Tryz.prog (n + 4)) 54 [(rd 2 eClue a), (tI left)] (tI (szR (zL zClue a) left)) := by
  refine Pure.intro (rs := [ResultVar.tmp 4]) Tryz.func54 rfl rfl rfl (E0 := [(0, (rd 2 eClue a)), (1, (tI left))]) rfl ?_
  obtain ⟨hlim, hmx, hmax⟩ := lims
  obtain ⟨hg1, hg2⟩ := hg
  refine sr (fO (OF.assign (VEv.int .i64 0)) (nt (sr (mO (tI left) rfl (mO (rd 2 eClue a) rfl (lO (B.lenR (m := a.length) (tv (rd 2 eClue a) rfl) U24 (List.length_map ..)) (fO (B.sub (n := (left - ((a.length : Nat) : Int))) (tv (tI left) rfl) (tv (tN a.length) rfl) (by (rw [wrap64 (by omega)]; done))) (aO (tI (left - ((a.length : Nat) : Int))) rfl (nt (sq (sr ?_)))))))))))
  refine mO (tI (left - ((a.length : Nat) : Int))) rfl (fO (xls (tv (tI (left - ((a.length : Nat) : Int))) rfl) (VEv.int .i64 0)) (nt ?_))
  refine cd ((left - ((a.length : Nat) : Int)) < 0) rfl (fun fhc0 => ?_) fun fhc0 => ?_
  · refine sr ?_
    refine fO (OF.assign (VEv.int .i64 (-1))) (nt (rt (tr (vi (n' := (-1)) rfl ?_))))
    exact SzI.early fhc0
  refine sk (tn (sq (sr (fO (OF.assign (VEv.int .i64 0)) (nt (VRun.block ?_))))))
  refine VRun.loop (A := Nat × Int) (fun s_ => [(0, (rd 2 eClue a)), (1, (tI s_.2)), (5, (tN s_.1))]) (fun s_ => mkO []) 0 (fun s_ => SzI zClue a left s_.1 s_.2) (fun s_ => a.length - s_.1) ((0, left - (a.length : Int)) : Nat × Int) ?_ (Wk.mk (fun k => k) ?_ ?_ ?_) ?_
  · exact SzI.start h1 fhc0
  · exact (b2 (bc ⟨(congrArg (T.int .i64) (show (left - ((a.length : Nat) : Int)) = (left - (a.length : Int)) from (by rfl))), rfl⟩ (b2 bn)))
  · exact bn
  · exact nd rfl
  rintro ⟨i, r⟩ (hI' : SzI zClue a left i r)
  show VRun _ _ _ [(0, (rd 2 eClue a)), (1, (tI r)), (5, (tN i))] (mkO []) 0 _
  have hI2 := hI'.1
  have hI3 := hI'.2.1
  have hI4 := hI'.2.2.1
  refine sq (sr (mO (tN i) rfl (mO (rd 2 eClue a) rfl (lO (B.lenR (m := a.length) (tv (rd 2 eClue a) rfl) U24 (List.length_map ..)) (fO (xls' (tv (tN i) rfl) (tv (tN a.length) rfl)) (nt ?_))))))
  refine cd (i < a.length) rfl (fun fhc1 => ?_) fun fhc1 => ?_
  · refine sk ?_
    refine tn (sq (VRun.block (sr (mO (rd 2 eClue a) rfl (mO (tN i) rfl ?_)))))
    obtain ⟨x1, hx1⟩ : ∃ x, a[i]? = some x := ⟨_, List.getElem?_eq_getElem (by omega)⟩
    refine fO (OF.indexAddrR (row := (eClue false x1)) (i := i) (tv (rd 2 eClue a) rfl) (tv (tN i) rfl) rfl (map_at _ hx1) U24 sz76 if76) (lO (OL.loadRn (us := (eClue false x1)) (tv (T.rp (eClue false x1)) rfl) st76 sz76 (lb rfl) rfl) (mO (tI r) rfl (cO (cS (vc (tv (T.agg (eClue false x1)) rfl) (vc (tv (tI r) rfl) vn)) (LendL.cons (lg okeClue) (lp rfl ln)) (W_laws_szClue (n + 0) x1 r (by assumption) (by assumption) (by exact hg2 _ (List.mem_of_getElem? hx1))) rfl rfl) (aO (tI (szR (zClue x1) r)) rfl (nt (sr (mO (tI (szR (zClue x1) r)) rfl (fO (xls (tv (tI (szR (zClue x1) r)) rfl) (VEv.int .i64 0)) (nt ?_)))))))))
    refine cd (szR (zClue x1) r < 0) rfl (fun fhc2 => ?_) fun fhc2 => ?_
    · refine sr ?_
      refine fO (OF.assign (VEv.int .i64 (-1))) (nt (rt (vinB.r (tr (tr (vinB.r (tr (vi (n' := (-1)) rfl ?_))))))))
      exact hI'.bad hx1 fhc2
    refine sk (vinB.n (tn (VRun.region (mO (tN i) rfl (fO (xinc (tv (tN i) rfl) (VEv.int .i64 1) (by omega)) (aO (tN (i + 1)) rfl (VRunO.nil (tn ?_))))))))
    refine ⟨((i + 1, szR (zClue x1) r) : Nat × Int), ?_, ?_, Wk.mk (fun k => k) ?_ ?_ ?_⟩
    · exact hI'.next hx1 fhc2
    · omega
    · exact (b2 (b2 (b2 bn)))
    · exact bn
    · exact nd rfl
  refine VRun.exit (vthn.e (vthn.e (vinB.e (tn (sr (mO (tI r) rfl (aO (tI r) rfl (nt (rt (vi (n' := r) rfl ?_))))))))))
  exact hI'.done fhc1
theorem W_laws_szPuzzle (n : Nat) (a : D.Puzzle) (left : Int) (h0 : 0 ≤ left) (h1 : left ≤ (mx : Int)) (hg : GPuzzle a) : Pure (acall Tryz.prog (n + 5)) 23 [(T.agg (ePuzzle false a)), (tI left)] (tI (szR (zPuzzle a) left)) := by
  refine Pure.intro (rs := [ResultVar.tmp 4]) Tryz.func23 rfl rfl rfl (E0 := [(0, (T.agg (ePuzzle false a))), (1, (tI left))]) rfl ?_
  obtain ⟨hlim, hmx, hmax⟩ := lims
  obtain ⟨hg0, hg1, hg2, hg3⟩ := hg
  refine sr (kO (B.box (ts := (ePuzzle false a)) (tv (T.agg (ePuzzle false a)) rfl) nofun rfl) (fO (OF.assign (VEv.int .i64 0)) (nt (sr (fO (OF.fieldAddrO (tv (T.op 0 0) rfl) fa27_0) (lO (OL.loadOn (us := (eGrid false a.Grid)) (tv (T.op 0 0) rfl) rfl st23 sz23 (lb rfl) rfl) (mO (tI left) rfl (cO (cS (vc (tv (T.agg (eGrid false a.Grid)) rfl) (vc (tv (tI left) rfl) vn)) (LendL.cons (lg okeGrid) (lp rfl ln)) (W_laws_szGrid (n + 3) a.Grid left (by first | assumption | omega) (by first | assumption | omega) (by first | assumption | omega)) rfl rfl) (aO (tI (szR (zGrid a.Grid) left)) rfl (nt (sq ?_)))))))))))
  refine sr (mO (tI (szR (zGrid a.Grid) left)) rfl (fO (xls (tv (tI (szR (zGrid a.Grid) left)) rfl) (VEv.int .i64 0)) (nt ?_)))
  refine cd (szR (zGrid a.Grid) left < 0) rfl (fun fhc0 => ?_) fun fhc0 => ?_
  · refine sr ?_
    refine fO (OF.assign (VEv.int .i64 (-1))) (nt (rt (tr (vi (n' := (-1)) rfl ?_))))
    exact szR_neg (by have hlt := szR_lt fhc0; simp only [zPuzzle]; omega)
  have hq0 := szR_pos fhc0
  refine sk (tn (sr (lf (rd 2 eClue a.Clues) rfl fa27_1 rfl rfl st24 (mO (tI (szR (zGrid a.Grid) left)) rfl (cO (cS (vc (tv (rd 2 eClue a.Clues) rfl) (vc (tv (tI (szR (zGrid a.Grid) left)) rfl) vn)) (lps rfl) (W_laws_szClueS (n + 0) a.Clues (szR (zGrid a.Grid) left) (by first | assumption | omega) (by first | assumption | omega) (by first | assumption | omega)) rfl rfl) (aO (tI (szR (zL zClue a.Clues) (szR (zGrid a.Grid) left))) rfl (nt (sq (sr (mO (tI (szR (zL zClue a.Clues) (szR (zGrid a.Grid) left))) rfl (fO (xls (tv (tI (szR (zL zClue a.Clues) (szR (zGrid a.Grid) left))) rfl) (VEv.int .i64 0)) ?_)))))))))))
  refine nt ?_
  refine cd (szR (zL zClue a.Clues) (szR (zGrid a.Grid) left) < 0) rfl (fun fhc1 => ?_) fun fhc1 => ?_
  · refine sr ?_
    refine fO (OF.assign (VEv.int .i64 (-1))) (nt (rt (tr (vi (n' := (-1)) rfl ?_))))
    exact szR_neg (by have hlt := szR_lt fhc1; simp only [zPuzzle]; omega)
  have hq1 := szR_pos fhc1
  refine sk (tn (sr (lf (rd 1 eInt a.Seals) rfl fa27_2 rfl rfl st25 (mO (tI (szR (zL zClue a.Clues) (szR (zGrid a.Grid) left))) rfl (cO (cS (vc (tv (rd 1 eInt a.Seals) rfl) (vc (tv (tI (szR (zL zClue a.Clues) (szR (zGrid a.Grid) left))) rfl) vn)) (lps rfl) (W_laws_szIntS (n + 3) a.Seals (szR (zL zClue a.Clues) (szR (zGrid a.Grid) left)) (by first | assumption | omega) (by first | assumption | omega) (by first | assumption | omega)) rfl rfl) (aO (tI (szR (zL zI a.Seals) (szR (zL zClue a.Clues) (szR (zGrid a.Grid) left)))) rfl (nt (sq (sr (mO (tI (szR (zL zI a.Seals) (szR (zL zClue a.Clues) (szR (zGrid a.Grid) left)))) rfl (fO (xls (tv (tI (szR (zL zI a.Seals) (szR (zL zClue a.Clues) (szR (zGrid a.Grid) left)))) rfl) (VEv.int .i64 0)) ?_)))))))))))
  refine nt ?_
  refine cd (szR (zL zI a.Seals) (szR (zL zClue a.Clues) (szR (zGrid a.Grid) left)) < 0) rfl (fun fhc2 => ?_) fun fhc2 => ?_
  · refine sr ?_
    refine fO (OF.assign (VEv.int .i64 (-1))) (nt (rt (tr (vi (n' := (-1)) rfl ?_))))
    exact szR_neg (by have hlt := szR_lt fhc2; simp only [zPuzzle]; omega)
  have hq2 := szR_pos fhc2
  refine sk (tn (sr (mO (tI (szR (zL zI a.Seals) (szR (zL zClue a.Clues) (szR (zGrid a.Grid) left)))) rfl (aO (tI (szR (zL zI a.Seals) (szR (zL zClue a.Clues) (szR (zGrid a.Grid) left)))) rfl (nt (rt (vi (n' := szR (zL zI a.Seals) (szR (zL zClue a.Clues) (szR (zGrid a.Grid) left))) rfl ?_)))))))
  rw [← szR_nn (z := zPuzzle a) (l := left) (by simp only [zPuzzle]; omega)]
  all_goals first | rfl | (simp only [zPuzzle]; done) | (simp only [zPuzzle]; omega)
theorem W_laws_szSession (n : Nat) (a : D.Session) (left : Int) (h0 : 0 ≤ left) (h1 : left ≤ (mx : Int)) (hg : GSession a) : Pure (acall Tryz.prog (n + 2)) 24 [(T.agg (eSession false a)), (tI left)] (tI (szR (zSession a) left)) := by
  refine Pure.intro (rs := [ResultVar.tmp 4]) Tryz.func24 rfl rfl rfl (E0 := [(0, (T.agg (eSession false a))), (1, (tI left))]) rfl ?_
  obtain ⟨hlim, hmx, hmax⟩ := lims
  obtain ⟨hg0, hg1, hg2, hg3, hg4, hg5⟩ := hg
  refine sr (kO (B.box (ts := (eSession false a)) (tv (T.agg (eSession false a)) rfl) nofun rfl) (fO (OF.assign (VEv.int .i64 0)) (nt (sr (mO (tI left) rfl (lf (tS a.Fill) rfl fa51_0 rfl rfl st9 (lO (B.lenS (tv (tS a.Fill) rfl) U9) (fO (B.sub (n := (left - ((a.Fill.size : Nat) : Int))) (tv (tI left) rfl) (tv (tN a.Fill.size) rfl) (by first | rfl | (rw [wrap64 (by omega)]; omega) | (rw [wrap64 (by omega)]; done))) (aO (tI (left - ((a.Fill.size : Nat) : Int))) rfl (nt (sq ?_)))))))))))
  refine sr (mO (tI (left - ((a.Fill.size : Nat) : Int))) rfl (fO (xls (tv (tI (left - ((a.Fill.size : Nat) : Int))) rfl) (VEv.int .i64 0)) (nt ?_)))
  refine cd ((left - ((a.Fill.size : Nat) : Int)) < 0) rfl (fun fhc0 => ?_) fun fhc0 => ?_
  · refine sr ?_
    refine fO (OF.assign (VEv.int .i64 (-1))) (nt (rt (tr (vi (n' := (-1)) rfl ?_))))
    exact szR_neg (by simp only [zSession]; omega)
  refine sk (tn (sr (lf (rd 1 eInt a.Asked) rfl fa51_3 rfl rfl st25 (mO (tI (left - ((a.Fill.size : Nat) : Int))) rfl (cO (cS (vc (tv (rd 1 eInt a.Asked) rfl) (vc (tv (tI (left - ((a.Fill.size : Nat) : Int))) rfl) vn)) (lps rfl) (W_laws_szIntS (n + 0) a.Asked (left - ((a.Fill.size : Nat) : Int)) (by first | assumption | omega) (by first | assumption | omega) (by first | assumption | omega)) rfl rfl) (aO (tI (szR (zL zI a.Asked) (left - ((a.Fill.size : Nat) : Int)))) rfl (nt (sq (sr (mO (tI (szR (zL zI a.Asked) (left - ((a.Fill.size : Nat) : Int)))) rfl (fO (xls (tv (tI (szR (zL zI a.Asked) (left - ((a.Fill.size : Nat) : Int)))) rfl) (VEv.int .i64 0)) ?_)))))))))))
  refine nt ?_
  refine cd (szR (zL zI a.Asked) (left - ((a.Fill.size : Nat) : Int)) < 0) rfl (fun fhc1 => ?_) fun fhc1 => ?_
  · refine sr ?_
    refine fO (OF.assign (VEv.int .i64 (-1))) (nt (rt (tr (vi (n' := (-1)) rfl ?_))))
    exact szR_neg (by have hlt := szR_lt fhc1; simp only [zSession]; omega)
  have hq1 := szR_pos fhc1
  refine sk (tn (sr (mO (tI (szR (zL zI a.Asked) (left - ((a.Fill.size : Nat) : Int)))) rfl (aO (tI (szR (zL zI a.Asked) (left - ((a.Fill.size : Nat) : Int)))) rfl (nt (rt (vi (n' := szR (zL zI a.Asked) (left - ((a.Fill.size : Nat) : Int))) rfl ?_)))))))
  rw [← szR_nn (z := zSession a) (l := left) (by simp only [zSession]; omega)]
  all_goals first | rfl | (simp only [zSession]; done) | (simp only [zSession]; omega)
end Go.Proofs.YtcccmceoplcciaaGreat.AE
namespace Go.Proofs.YtcccmceoplcciaaGreat.AE
open Go Go.RowKit
set_option linter.unusedVariables false
set_option linter.unusedSimpArgs false
set_option maxRecDepth 20000
set_option maxHeartbeats 2000000
theorem W_laws_toIntS (n : Nat) (a : List Int) (ha : a.length ≤ mx) : Pure (acall Tryz.prog (n + 1)) 61 [(rd 1 eInt a)] (T.sl true 1 (a.map (eInt true))) := by
  refine Pure.intro (rs := [ResultVar.tmp 2]) Tryz.func61 rfl rfl rfl (E0 := [(0, (rd 1 eInt a))]) rfl ?_
  obtain ⟨hlim, hmx, hmax⟩ := lims
  refine sr (fO (OF.assign VEv.nils) (nt (sr (mO (rd 1 eInt a) rfl (lO (B.lenR (m := a.length) (tv (rd 1 eInt a) rfl) U25 (List.length_map ..)) (kO (B.makeZ (n := a.length) (m := ((List.replicate a.length 0).map (eInt true)).length) (rows := ((List.replicate a.length 0).map (eInt true))) (zr := (eInt true 0)) (tv (tN a.length) rfl) (tv (tN a.length) rfl) rfl U25 zo3 zc3 rfl (by rw [sz3]; decide) (by first | omega | (simp only [List.length_map]; omega) | (simp only [List.length_map, List.length_append, List.length_cons, List.length_nil, List.length_replicate, List.length_set, List.length_drop, List.length_take, lim] at *; omega)) (of_decide_eq_true (by kernel_rfl)) (Z0.int Z0.nil) sz3 (List.map_replicate ..).symm (by rw [List.length_map, List.length_replicate])) (aO (T.os 1 0 0 (((List.replicate a.length 0).map (eInt true)).length)) rfl (nt (sq (sr (fO (OF.assign (VEv.int .i64 0)) ?_)))))))))))
  refine nt (VRun.block ?_)
  have he1 : (List.replicate a.length 0) = (a.take 0 ++ List.replicate (a.length - 0) 0) := by first | rfl | (exact fill_next hx1) | (simp; done) | omega
  refine VRun.loop (A := Nat) (fun s_ => [(0, (rd 1 eInt a)), (2, T.nils), (3, (T.os 1 0 0 (((a.take s_ ++ List.replicate (a.length - s_) 0).map (eInt true)).length))), (4, (tN s_))]) (fun s_ => mkO [(0, (Obj.rows 1 ((a.take s_ ++ List.replicate (a.length - s_) 0).map (eInt true))))]) 1 (fun s_ => s_ ≤ a.length) (fun s_ => a.length - s_) (0 : Nat) ?_ (Wk.mk (fun k => k) ?_ ?_ ?_) ?_
  · first | trivial | (simp; done) | omega | (constructor <;> simp)
  · exact (b2 (b2 (bc ⟨(congrArg (fun l_ => T.os 1 0 0 (List.map (eInt true) l_).length) he1), rfl⟩ (b2 bn))))
  · exact (bc ⟨(congrArg (fun l_ => some (Obj.rows 1 (List.map (eInt true) l_))) he1), (lb rfl), rfl⟩ bn)
  · exact nd rfl
  rintro i (hI' : i ≤ a.length)
  show VRun _ _ _ [(0, (rd 1 eInt a)), (2, T.nils), (3, (T.os 1 0 0 (((a.take i ++ List.replicate (a.length - i) 0).map (eInt true)).length))), (4, (tN i))] (mkO [(0, (Obj.rows 1 ((a.take i ++ List.replicate (a.length - i) 0).map (eInt true))))]) 1 _
  have hfl := fill_at (w := 0) hI'
  refine sq (sr (mO (tN i) rfl (mO (rd 1 eInt a) rfl (lO (B.lenR (m := a.length) (tv (rd 1 eInt a) rfl) U25 (List.length_map ..)) (fO (xls' (tv (tN i) rfl) (tv (tN a.length) rfl)) (nt ?_))))))
  refine cd (i < a.length) rfl (fun fhc0 => ?_) fun fhc0 => ?_
  · refine sk ?_
    refine tn (sq (VRun.block (VRun.region (mO (T.os 1 0 0 (((a.take i ++ List.replicate (a.length - i) 0).map (eInt true)).length)) rfl (mO (tN i) rfl (mO (rd 1 eInt a) rfl (mO (tN i) rfl ?_)))))))
    obtain ⟨x1, hx1⟩ : ∃ x, a[i]? = some x := ⟨_, List.getElem?_eq_getElem (by omega)⟩
    refine fO (OF.indexAddrR (row := (eInt false x1)) (i := i) (tv (rd 1 eInt a) rfl) (tv (tN i) rfl) rfl (map_at _ hx1) U25 sz3 if3) (lO (OL.loadR1 (t := (tI x1)) (tv (T.rp [(tI x1)]) rfl) rfl st3) ?_)
    obtain ⟨x2, hx2⟩ : ∃ x, (a.take i ++ List.replicate (a.length - i) 0)[i]? = some x := ⟨_, List.getElem?_eq_getElem (by first | omega | (simp only [List.length_map]; omega) | (simp only [List.length_map, List.length_append, List.length_cons, List.length_nil, List.length_replicate, List.length_set, List.length_drop, List.length_take, lim] at *; omega))⟩
    refine fO (B.indexAddrO (i := i) (tv (T.os 1 0 0 (((a.take i ++ List.replicate (a.length - i) 0).map (eInt true)).length)) rfl) (tv (tN i) rfl) rfl (by first | omega | (simp only [List.length_map]; omega) | (simp only [List.length_map, List.length_append, List.length_cons, List.length_nil, List.length_replicate, List.length_set, List.length_drop, List.length_take, lim] at *; omega)) U25 sz3 if3) (cO (B.storeP (us := [(tI x1)]) (rows' := (((a.take i ++ List.replicate (a.length - i) 0).set i x1).map (eInt true))) (row := (eInt true x2)) (tv (T.orp 1 0 i 0) rfl) (tv (tI x1) rfl) nofun rfl (map_at _ hx2) rfl (lb rfl) if3 sz3 (bc rfl bn) (by intro r hr t ht; obtain ⟨x, _, rfl⟩ := List.mem_map.1 hr; rw [flInt] at ht; exact isPl_flat (okInt.pl _ t ht)) (set_mapE rfl)) (VRunO.nil (vinB.n (tn (VRun.region (mO (tN i) rfl (fO (xinc (tv (tN i) rfl) (VEv.int .i64 1) (by omega)) (aO (tN (i + 1)) rfl (VRunO.nil (tn ?_))))))))))
    have he2 : ((a.take i ++ List.replicate (a.length - i) 0).set i x1) = (a.take (i + 1) ++ List.replicate (a.length - (i + 1)) 0) := by first | rfl | (exact fill_next hx1) | (simp; done) | omega
    refine ⟨(i + 1 : Nat), ?_, ?_, Wk.mk (fun k => k) ?_ ?_ ?_⟩
    · first | trivial | omega | (simp; done) | exact ⟨by omega, hI'.2⟩
    · first | omega | (simp only []; omega) | (show _ < _; omega) | (simp; omega)
    · exact (b2 (b2 (bc ⟨(congrArg (fun n_ => T.os 1 0 0 n_) (show ((a.take i ++ List.replicate (a.length - i) 0).map (eInt true)).length = ((a.take (i + 1) ++ List.replicate (a.length - (i + 1)) 0).map (eInt true)).length from (by first | rfl | (simp only [List.length_map]; omega) | (simp only [List.length_map, List.length_set, List.length_append, List.length_take, List.length_replicate, List.length_cons, List.length_nil]; omega)))), rfl⟩ (b2 bn))))
    · exact (bc ⟨(congrArg (fun l_ => some (Obj.rows 1 (List.map (eInt true) l_))) he2), (lb rfl), rfl⟩ bn)
    · exact nd rfl
  refine VRun.exit (vthn.e (vthn.e (vinB.e (tn (sr (mO (T.os 1 0 0 (((a.take i ++ List.replicate (a.length - i) 0).map (eInt true)).length)) rfl (aO (T.os 1 0 0 (((a.take i ++ List.replicate (a.length - i) 0).map (eInt true)).length)) rfl (nt (rt ?_)))))))))
  refine vfin.eq (r' := (T.sl true 1 ((a.take i ++ List.replicate (a.length - i) 0).map (eInt true)))) ?_ (vfin.r (VRes.tmp (t := (T.os 1 0 0 (((a.take i ++ List.replicate (a.length - i) 0).map (eInt true)).length))) rfl VRes.nil) (Give.os rfl rfl (okInt.cleanMap _)))
  show (T.sl true 1 ((a.take i ++ List.replicate (a.length - i) 0).map (eInt true))) = (T.sl true 1 (a.map (eInt true)))
  refine congrArg (fun l_ => T.sl true 1 (List.map (eInt true) l_)) ?_
  exact fill_done fhc0
theorem W_laws_toGrid (n : Nat) (a : D.Grid)  : Pure (acall Tryz.prog (n + 1)) 59 [(T.agg (eGrid false a))] (T.agg (eGrid true a)) := by
  refine Pure.intro (rs := [ResultVar.cell 2 34]) Tryz.func59 rfl rfl rfl (E0 := [(0, (T.agg (eGrid false a)))]) rfl ?_
  obtain ⟨hlim, hmx, hmax⟩ := lims
  refine sr (kO (B.box (ts := (eGrid false a)) (tv (T.agg (eGrid false a)) rfl) nofun rfl) (kO (B.alloc (t := (T.agg [(tN 0), (tN 0), (tS ByteArray.empty)])) (ts := [(tN 0), (tN 0), (tS ByteArray.empty)]) zo34 zc34 nofun (fun _ => .agg _ _ rfl (RLof (RL.cons (.int _ _) (RL.cons (.int _ _) (RL.cons (.str _) (RL.nil _)))))) rfl) (nt (sr (kO (B.alloc (t := (T.agg [(tN 0), (tN 0), (tS ByteArray.empty)])) (ts := [(tN 0), (tN 0), (tS ByteArray.empty)]) zo34 zc34 nofun (fun _ => .agg _ _ rfl (RLof (RL.cons (.int _ _) (RL.cons (.int _ _) (RL.cons (.str _) (RL.nil _)))))) rfl) (nt (sr (lf (tI a.Rows) rfl fa23_0 rfl rfl st3 (fO (OF.fieldAddrO (tv (T.op 2 0) rfl) fa34_0) (cO (B.storeO (us := [(tI a.Rows)]) (ws := [(tI a.Rows), (tN 0), (tS ByteArray.empty)]) (tv (T.op 2 0) rfl) (tv (tI a.Rows) rfl) nofun rfl rfl (lb rfl) if3 sz3 (bc rfl bn) rfl) (nt ?_)))))))))))
  refine sr (lf (tI a.Cols) rfl fa23_1 rfl rfl st3 (fO (OF.fieldAddrO (tv (T.op 2 0) rfl) fa34_1) (cO (B.storeO (us := [(tI a.Cols)]) (ws := [(tI a.Rows), (tI a.Cols), (tS ByteArray.empty)]) (tv (T.op 2 1) rfl) (tv (tI a.Cols) rfl) nofun rfl rfl (lb rfl) if3 sz3 (bc rfl bn) rfl) (nt (sr (lf (tS a.Cells) rfl fa23_2 rfl rfl st9 (fO (OF.fieldAddrO (tv (T.op 2 0) rfl) fa34_2) (cO (B.storeO (us := [(tS a.Cells)]) (ws := [(tI a.Rows), (tI a.Cols), (tS a.Cells)]) (tv (T.op 2 2) rfl) (tv (tS a.Cells) rfl) nofun rfl rfl (lb rfl) if9 sz9 (bc rfl bn) rfl) (nt (sr (lO (OL.loadOn (us := (eGrid false a)) (tv (T.op 2 0) rfl) rfl st34 sz34 (lb rfl) rfl) ?_)))))))))))
  refine cO (B.storeO (us := (eGrid false a)) (ws := (eGrid false a)) (tv (T.op 1 0) rfl) (tv (T.agg (eGrid false a)) rfl) nofun rfl rfl (lb rfl) if34 sz34 (bc rfl (bc rfl (bc rfl bn))) rfl) (nt (rt ?_))
  refine vfin.eq (r' := (T.agg (eGrid false a))) ?_ (vfin.r (VRes.celln (ws := (eGrid false a)) rfl rfl st34 sz34 (lb rfl) rfl VRes.nil) (Give.agg (GiveL.cons (Give.int _ _) (GiveL.cons (Give.int _ _) (GiveL.cons (Give.str _) GiveL.nil (by decide)) (by decide)) (by decide))))
  show (T.agg (eGrid false a)) = (T.agg (eGrid true a))
  rfl
theorem W_laws_toStep (n : Nat) (a : D.Step)  : Pure (acall Tryz.prog (n + 1)) 154 [(T.agg (eStep false a))] (T.agg (eStep true a)) := by
  refine Pure.intro (rs := [ResultVar.cell 2 121]) Tryz.func154 rfl rfl rfl (E0 := [(0, (T.agg (eStep false a)))]) rfl ?_
  obtain ⟨hlim, hmx, hmax⟩ := lims
  refine sr (kO (B.box (ts := (eStep false a)) (tv (T.agg (eStep false a)) rfl) nofun rfl) (kO (B.alloc (t := (T.agg [(tN 0), (tS ByteArray.empty), (tN 0), (tN 0)])) (ts := [(tN 0), (tS ByteArray.empty), (tN 0), (tN 0)]) zo121 zc121 nofun (fun _ => .agg _ _ rfl (RLof (RL.cons (.int _ _) (RL.cons (.str _) (RL.cons (.int _ _) (RL.cons (.int _ _) (RL.nil _))))))) rfl) (nt (sr (kO (B.alloc (t := (T.agg [(tN 0), (tS ByteArray.empty), (tN 0), (tN 0)])) (ts := [(tN 0), (tS ByteArray.empty), (tN 0), (tN 0)]) zo121 zc121 nofun (fun _ => .agg _ _ rfl (RLof (RL.cons (.int _ _) (RL.cons (.str _) (RL.cons (.int _ _) (RL.cons (.int _ _) (RL.nil _))))))) rfl) (nt (sr (lf (tI a.Kind) rfl fa154_0 rfl rfl st3 (fO (OF.fieldAddrO (tv (T.op 2 0) rfl) fa121_0) (cO (B.storeO (us := [(tI a.Kind)]) (ws := [(tI a.Kind), (tS ByteArray.empty), (tN 0), (tN 0)]) (tv (T.op 2 0) rfl) (tv (tI a.Kind) rfl) nofun rfl rfl (lb rfl) if3 sz3 (bc rfl bn) rfl) (nt ?_)))))))))))
  refine sr (lf (tS a.Word) rfl fa154_1 rfl rfl st9 (fO (OF.fieldAddrO (tv (T.op 2 0) rfl) fa121_1) (cO (B.storeO (us := [(tS a.Word)]) (ws := [(tI a.Kind), (tS a.Word), (tN 0), (tN 0)]) (tv (T.op 2 1) rfl) (tv (tS a.Word) rfl) nofun rfl rfl (lb rfl) if9 sz9 (bc rfl bn) rfl) (nt (sr (lf (tI a.A) rfl fa154_2 rfl rfl st3 (fO (OF.fieldAddrO (tv (T.op 2 0) rfl) fa121_2) (cO (B.storeO (us := [(tI a.A)]) (ws := [(tI a.Kind), (tS a.Word), (tI a.A), (tN 0)]) (tv (T.op 2 2) rfl) (tv (tI a.A) rfl) nofun rfl rfl (lb rfl) if3 sz3 (bc rfl bn) rfl) (nt (sr (lf (tI a.B) rfl fa154_3 rfl rfl st3 ?_)))))))))))
  refine fO (OF.fieldAddrO (tv (T.op 2 0) rfl) fa121_3) (cO (B.storeO (us := [(tI a.B)]) (ws := [(tI a.Kind), (tS a.Word), (tI a.A), (tI a.B)]) (tv (T.op 2 3) rfl) (tv (tI a.B) rfl) nofun rfl rfl (lb rfl) if3 sz3 (bc rfl bn) rfl) (nt (sr (lO (OL.loadOn (us := (eStep false a)) (tv (T.op 2 0) rfl) rfl st121 sz121 (lb rfl) rfl) (cO (B.storeO (us := (eStep false a)) (ws := (eStep false a)) (tv (T.op 1 0) rfl) (tv (T.agg (eStep false a)) rfl) nofun rfl rfl (lb rfl) if121 sz121 (bc rfl (bc rfl (bc rfl (bc rfl bn)))) rfl) (nt (rt ?_)))))))
  refine vfin.eq (r' := (T.agg (eStep false a))) ?_ (vfin.r (VRes.celln (ws := (eStep false a)) rfl rfl st121 sz121 (lb rfl) rfl VRes.nil) (Give.agg (GiveL.cons (Give.int _ _) (GiveL.cons (Give.str _) (GiveL.cons (Give.int _ _) (GiveL.cons (Give.int _ _) GiveL.nil (by decide)) (by decide)) (by decide)) (by decide))))
  show (T.agg (eStep false a)) = (T.agg (eStep true a))
  rfl
theorem W_laws_toStepS (n : Nat) (a : List D.Step) (ha : a.length ≤ mx) : Pure (acall Tryz.prog (n + 2)) 129 [(rd 4 eStep a)] (T.sl true 4 (a.map (eStep true))) := by
  refine Pure.intro (rs := [ResultVar.tmp 2]) Tryz.func129 rfl rfl rfl (E0 := [(0, (rd 4 eStep a))]) rfl ?_
  obtain ⟨hlim, hmx, hmax⟩ := lims
  refine sr (fO (OF.assign VEv.nils) (nt (sr (mO (rd 4 eStep a) rfl (lO (B.lenR (m := a.length) (tv (rd 4 eStep a) rfl) U74 (List.length_map ..)) (kO (B.makeZ (n := a.length) (m := ((List.replicate a.length (D.Step.mk 0 ByteArray.empty 0 0)).map (eStep true)).length) (rows := ((List.replicate a.length (D.Step.mk 0 ByteArray.empty 0 0)).map (eStep true))) (zr := (eStep true (D.Step.mk 0 ByteArray.empty 0 0))) (tv (tN a.length) rfl) (tv (tN a.length) rfl) rfl U81 zo121 zc121 rfl (by rw [sz121]; decide) (by omega) (of_decide_eq_true (by kernel_rfl)) (Z0.int (Z0.str (Z0.int (Z0.int Z0.nil)))) sz121 (List.map_replicate ..).symm (by rw [List.length_map, List.length_replicate])) (aO (T.os 4 0 0 (((List.replicate a.length (D.Step.mk 0 ByteArray.empty 0 0)).map (eStep true)).length)) rfl (nt (sq (sr (fO (OF.assign (VEv.int .i64 0)) ?_)))))))))))
  refine nt (VRun.block ?_)
  have he1 : (List.replicate a.length (D.Step.mk 0 ByteArray.empty 0 0)) = (a.take 0 ++ List.replicate (a.length - 0) (D.Step.mk 0 ByteArray.empty 0 0)) := by rfl
  refine VRun.loop (A := Nat) (fun s_ => [(0, (rd 4 eStep a)), (2, T.nils), (3, (T.os 4 0 0 (((a.take s_ ++ List.replicate (a.length - s_) (D.Step.mk 0 ByteArray.empty 0 0)).map (eStep true)).length))), (4, (tN s_))]) (fun s_ => mkO [(0, (Obj.rows 4 ((a.take s_ ++ List.replicate (a.length - s_) (D.Step.mk 0 ByteArray.empty 0 0)).map (eStep true))))]) 1 (fun s_ => s_ ≤ a.length) (fun s_ => a.length - s_) (0 : Nat) ?_ (Wk.mk (fun k => k) ?_ ?_ ?_) ?_
  · (simp; done)
  · exact (b2 (b2 (bc ⟨(congrArg (fun l_ => T.os 4 0 0 (List.map (eStep true) l_).length) he1), rfl⟩ (b2 bn))))
  · exact (bc ⟨(congrArg (fun l_ => some (Obj.rows 4 (List.map (eStep true) l_))) he1), (lb rfl), rfl⟩ bn)
  · exact nd rfl
  rintro i (hI' : i ≤ a.length)
  show VRun _ _ _ [(0, (rd 4 eStep a)), (2, T.nils), (3, (T.os 4 0 0 (((a.take i ++ List.replicate (a.length - i) (D.Step.mk 0 ByteArray.empty 0 0)).map (eStep true)).length))), (4, (tN i))] (mkO [(0, (Obj.rows 4 ((a.take i ++ List.replicate (a.length - i) (D.Step.mk 0 ByteArray.empty 0 0)).map (eStep true))))]) 1 _
  have hfl := fill_at (w := (D.Step.mk 0 ByteArray.empty 0 0)) hI'
  refine sq (sr (mO (tN i) rfl (mO (rd 4 eStep a) rfl (lO (B.lenR (m := a.length) (tv (rd 4 eStep a) rfl) U74 (List.length_map ..)) (fO (xls' (tv (tN i) rfl) (tv (tN a.length) rfl)) (nt ?_))))))
  refine cd (i < a.length) rfl (fun fhc0 => ?_) fun fhc0 => ?_
  · refine sk ?_
    refine tn (sq (VRun.block (VRun.region (mO (T.os 4 0 0 (((a.take i ++ List.replicate (a.length - i) (D.Step.mk 0 ByteArray.empty 0 0)).map (eStep true)).length)) rfl (mO (tN i) rfl (mO (rd 4 eStep a) rfl (mO (tN i) rfl ?_)))))))
    obtain ⟨x1, hx1⟩ : ∃ x, a[i]? = some x := ⟨_, List.getElem?_eq_getElem (by omega)⟩
    refine fO (OF.indexAddrR (row := (eStep false x1)) (i := i) (tv (rd 4 eStep a) rfl) (tv (tN i) rfl) rfl (map_at _ hx1) U74 sz154 if154) (lO (OL.loadRn (us := (eStep false x1)) (tv (T.rp (eStep false x1)) rfl) st154 sz154 (lb rfl) rfl) (cO (cS (vc (tv (T.agg (eStep false x1)) rfl) vn) (LendL.cons (lg okeStep) ln) (W_laws_toStep (n + 0) x1 ) rfl rfl) ?_))
    obtain ⟨x2, hx2⟩ : ∃ x, (a.take i ++ List.replicate (a.length - i) (D.Step.mk 0 ByteArray.empty 0 0))[i]? = some x := ⟨_, List.getElem?_eq_getElem (by omega)⟩
    refine fO (B.indexAddrO (i := i) (tv (T.os 4 0 0 (((a.take i ++ List.replicate (a.length - i) (D.Step.mk 0 ByteArray.empty 0 0)).map (eStep true)).length)) rfl) (tv (tN i) rfl) rfl (by (simp only [List.length_map]; omega)) U81 sz121 if121) (cO (B.storeP (us := (eStep true x1)) (rows' := (((a.take i ++ List.replicate (a.length - i) (D.Step.mk 0 ByteArray.empty 0 0)).set i x1).map (eStep true))) (row := (eStep true x2)) (tv (T.orp 4 0 i 0) rfl) (tv (T.agg (eStep true x1)) rfl) nofun rfl (map_at _ hx2) rfl (lb rfl) if121 sz121 (bc rfl (bc rfl (bc rfl (bc rfl bn)))) (by intro r hr t ht; obtain ⟨x, _, rfl⟩ := List.mem_map.1 hr; rw [flStep] at ht; exact isPl_flat (okeStep.pl _ t ht)) (set_mapE rfl)) (VRunO.nil (vinB.n (tn (VRun.region (mO (tN i) rfl (fO (xinc (tv (tN i) rfl) (VEv.int .i64 1) (by omega)) (aO (tN (i + 1)) rfl (VRunO.nil (tn ?_))))))))))
    have he2 : ((a.take i ++ List.replicate (a.length - i) (D.Step.mk 0 ByteArray.empty 0 0)).set i x1) = (a.take (i + 1) ++ List.replicate (a.length - (i + 1)) (D.Step.mk 0 ByteArray.empty 0 0)) := by exact fill_next hx1
    refine ⟨(i + 1 : Nat), ?_, ?_, Wk.mk (fun k => k) ?_ ?_ ?_⟩
    · trivial
    · omega
    · exact (b2 (b2 (bc ⟨(congrArg (fun n_ => T.os 4 0 0 n_) (show ((a.take i ++ List.replicate (a.length - i) (D.Step.mk 0 ByteArray.empty 0 0)).map (eStep true)).length = ((a.take (i + 1) ++ List.replicate (a.length - (i + 1)) (D.Step.mk 0 ByteArray.empty 0 0)).map (eStep true)).length from (by (simp only [List.length_map, List.length_set, List.length_append, List.length_take, List.length_replicate, List.length_cons, List.length_nil]; omega)))), rfl⟩ (b2 bn))))
    · exact (bc ⟨(congrArg (fun l_ => some (Obj.rows 4 (List.map (eStep true) l_))) he2), (lb rfl), rfl⟩ bn)
    · exact nd rfl
  refine VRun.exit (vthn.e (vthn.e (vinB.e (tn (sr (mO (T.os 4 0 0 (((a.take i ++ List.replicate (a.length - i) (D.Step.mk 0 ByteArray.empty 0 0)).map (eStep true)).length)) rfl (aO (T.os 4 0 0 (((a.take i ++ List.replicate (a.length - i) (D.Step.mk 0 ByteArray.empty 0 0)).map (eStep true)).length)) rfl (nt (rt ?_)))))))))
  refine vfin.eq (r' := (T.sl true 4 ((a.take i ++ List.replicate (a.length - i) (D.Step.mk 0 ByteArray.empty 0 0)).map (eStep true)))) ?_ (vfin.r (VRes.tmp (t := (T.os 4 0 0 (((a.take i ++ List.replicate (a.length - i) (D.Step.mk 0 ByteArray.empty 0 0)).map (eStep true)).length))) rfl VRes.nil) (Give.os rfl rfl (okeStep.cleanMap _)))
  show (T.sl true 4 ((a.take i ++ List.replicate (a.length - i) (D.Step.mk 0 ByteArray.empty 0 0)).map (eStep true))) = (T.sl true 4 (a.map (eStep true)))
  refine congrArg (fun l_ => T.sl true 4 (List.map (eStep true) l_)) ?_
  exact fill_done fhc0
theorem W_laws_toClue (n : Nat) (a : D.Clue) (ha : zClue a ≤ mx) : Pure (acall Tryz.prog (n + 3)) 100 [(T.agg (eClue false a))] (T.agg (eClue true a)) := by
  refine Pure.intro (rs := [ResultVar.cell 2 83]) Tryz.func100 rfl rfl rfl (E0 := [(0, (T.agg (eClue false a)))]) rfl ?_
  obtain ⟨hlim, hmx, hmax⟩ := lims
  simp only [zClue] at ha
  have hla_Play := zL_len (z := zStep) a.Play
  refine sr (kO (B.box (ts := (eClue false a)) (tv (T.agg (eClue false a)) rfl) nofun rfl) (kO (B.alloc (t := (T.agg [(tN 0), T.nils])) (ts := [(tN 0), T.nils]) zo83 zc83 nofun (fun _ => .agg _ _ rfl (RLof (RL.cons (.int _ _) (RL.cons (.nils) (RL.nil _))))) rfl) (nt (sr (kO (B.alloc (t := (T.agg [(tN 0), T.nils])) (ts := [(tN 0), T.nils]) zo83 zc83 nofun (fun _ => .agg _ _ rfl (RLof (RL.cons (.int _ _) (RL.cons (.nils) (RL.nil _))))) rfl) (nt (sr (lf (tI a.Sense) rfl fa76_0 rfl rfl st3 (fO (OF.fieldAddrO (tv (T.op 2 0) rfl) fa83_0) (cO (B.storeO (us := [(tI a.Sense)]) (ws := [(tI a.Sense), T.nils]) (tv (T.op 2 0) rfl) (tv (tI a.Sense) rfl) nofun rfl rfl (lb rfl) if3 sz3 (bc rfl bn) rfl) (nt ?_)))))))))))
  refine sr (lf (rd 4 eStep a.Play) rfl fa76_1 rfl rfl st74 (cO (OC.callF (us := [(rd 4 eStep a.Play)]) (r := (T.sl true 4 (a.Play.map (eStep true)))) (r' := (T.os 4 3 0 ((a.Play.map (eStep true)).length))) (objs := [(Obj.rows 4 (a.Play.map (eStep true)))]) rfl (vc (tv (rd 4 eStep a.Play) rfl) vn) (lps rfl) (W_laws_toStepS (n + 0) a.Play (by omega)) rfl) (fO (OF.fieldAddrO (tv (T.op 2 0) rfl) fa83_1) (cO (B.storeO (us := [(T.os 4 3 0 ((a.Play.map (eStep true)).length))]) (ws := [(tI a.Sense), (T.os 4 3 0 ((a.Play.map (eStep true)).length))]) (tv (T.op 2 1) rfl) (tv (T.os 4 3 0 ((a.Play.map (eStep true)).length)) rfl) nofun rfl rfl (lb rfl) if81 sz81 (bc rfl bn) rfl) (nt (sr (lO (OL.loadOn (us := [(tI a.Sense), (T.os 4 3 0 ((a.Play.map (eStep true)).length))]) (tv (T.op 2 0) rfl) rfl st83 sz83 (lb rfl) rfl) (cO (B.storeO (us := [(tI a.Sense), (T.os 4 3 0 ((a.Play.map (eStep true)).length))]) (ws := [(tI a.Sense), (T.os 4 3 0 ((a.Play.map (eStep true)).length))]) (tv (T.op 1 0) rfl) (tv (T.agg [(tI a.Sense), (T.os 4 3 0 ((a.Play.map (eStep true)).length))]) rfl) nofun rfl rfl (lb rfl) if83 sz83 (bc rfl (bc rfl bn)) rfl) (nt (rt ?_))))))))))
  refine vfin.eq (r' := (T.agg [(tI a.Sense), (T.sl true 4 (a.Play.map (eStep true)))])) ?_ (vfin.r (VRes.celln (ws := [(tI a.Sense), (T.os 4 3 0 ((a.Play.map (eStep true)).length))]) rfl rfl st83 sz83 (lb rfl) rfl VRes.nil) (Give.agg (GiveL.cons (Give.int _ _) (GiveL.cons (Give.os rfl rfl (okeStep.cleanMap _)) GiveL.nil (by decide)) (by decide))))
  show (T.agg [(tI a.Sense), (T.sl true 4 (a.Play.map (eStep true)))]) = (T.agg (eClue true a))
  rfl
theorem W_laws_toClueS (n : Nat) (a : List D.Clue) (ha : zL zClue a ≤ mx) : Pure (acall Tryz.prog (n + 4)) 60 [(rd 2 eClue a)] (T.sl true 2 (a.map (eClue true))) := by
  refine Pure.intro (rs := [ResultVar.tmp 2]) Tryz.func60 rfl rfl rfl (E0 := [(0, (rd 2 eClue a))]) rfl ?_
  obtain ⟨hlim, hmx, hmax⟩ := lims
  have hla := zL_len (z := zClue) a
  refine sr (fO (OF.assign VEv.nils) (nt (sr (mO (rd 2 eClue a) rfl (lO (B.lenR (m := a.length) (tv (rd 2 eClue a) rfl) U24 (List.length_map ..)) (kO (B.makeZ (n := a.length) (m := ((List.replicate a.length (D.Clue.mk 0 [])).map (eClue true)).length) (rows := ((List.replicate a.length (D.Clue.mk 0 [])).map (eClue true))) (zr := (eClue true (D.Clue.mk 0 []))) (tv (tN a.length) rfl) (tv (tN a.length) rfl) rfl U35 zo83 zc83 rfl (by rw [sz83]; decide) (by omega) (of_decide_eq_true (by kernel_rfl)) (Z0.int (Z0.sl Z0.nil)) sz83 (List.map_replicate ..).symm (by rw [List.length_map, List.length_replicate])) (aO (T.os 2 0 0 (((List.replicate a.length (D.Clue.mk 0 [])).map (eClue true)).length)) rfl (nt (sq (sr (fO (OF.assign (VEv.int .i64 0)) ?_)))))))))))
  refine nt (VRun.block ?_)
  have he1 : (List.replicate a.length (D.Clue.mk 0 [])) = (a.take 0 ++ List.replicate (a.length - 0) (D.Clue.mk 0 [])) := by rfl
  refine VRun.loop (A := Nat) (fun s_ => [(0, (rd 2 eClue a)), (2, T.nils), (3, (T.os 2 0 0 (((a.take s_ ++ List.replicate (a.length - s_) (D.Clue.mk 0 [])).map (eClue true)).length))), (4, (tN s_))]) (fun s_ => mkO [(0, (Obj.rows 2 ((a.take s_ ++ List.replicate (a.length - s_) (D.Clue.mk 0 [])).map (eClue true))))]) 1 (fun s_ => s_ ≤ a.length) (fun s_ => a.length - s_) (0 : Nat) ?_ (Wk.mk (fun k => k) ?_ ?_ ?_) ?_
  · (simp; done)
  · exact (b2 (b2 (bc ⟨(congrArg (fun l_ => T.os 2 0 0 (List.map (eClue true) l_).length) he1), rfl⟩ (b2 bn))))
  · exact (bc ⟨(congrArg (fun l_ => some (Obj.rows 2 (List.map (eClue true) l_))) he1), (lb rfl), rfl⟩ bn)
  · exact nd rfl
  rintro i (hI' : i ≤ a.length)
  show VRun _ _ _ [(0, (rd 2 eClue a)), (2, T.nils), (3, (T.os 2 0 0 (((a.take i ++ List.replicate (a.length - i) (D.Clue.mk 0 [])).map (eClue true)).length))), (4, (tN i))] (mkO [(0, (Obj.rows 2 ((a.take i ++ List.replicate (a.length - i) (D.Clue.mk 0 [])).map (eClue true))))]) 1 _
  have hfl := fill_at (w := (D.Clue.mk 0 [])) hI'
  refine sq (sr (mO (tN i) rfl (mO (rd 2 eClue a) rfl (lO (B.lenR (m := a.length) (tv (rd 2 eClue a) rfl) U24 (List.length_map ..)) (fO (xls' (tv (tN i) rfl) (tv (tN a.length) rfl)) (nt ?_))))))
  refine cd (i < a.length) rfl (fun fhc0 => ?_) fun fhc0 => ?_
  · refine sk ?_
    refine tn (sq (VRun.block (VRun.region (mO (T.os 2 0 0 (((a.take i ++ List.replicate (a.length - i) (D.Clue.mk 0 [])).map (eClue true)).length)) rfl (mO (tN i) rfl (mO (rd 2 eClue a) rfl (mO (tN i) rfl ?_)))))))
    obtain ⟨x1, hx1⟩ : ∃ x, a[i]? = some x := ⟨_, List.getElem?_eq_getElem (by omega)⟩
    refine fO (OF.indexAddrR (row := (eClue false x1)) (i := i) (tv (rd 2 eClue a) rfl) (tv (tN i) rfl) rfl (map_at _ hx1) U24 sz76 if76) (lO (OL.loadRn (us := (eClue false x1)) (tv (T.rp (eClue false x1)) rfl) st76 sz76 (lb rfl) rfl) (cO (OC.callF (us := [(T.agg (eClue false x1))]) (r := (T.agg (eClue true x1))) (r' := (T.agg [(tI x1.Sense), (T.os 4 1 0 ((x1.Play.map (eStep true)).length))])) (objs := [(Obj.rows 4 (x1.Play.map (eStep true)))]) rfl (vc (tv (T.agg (eClue false x1)) rfl) vn) (LendL.cons (lg okeClue) ln) (W_laws_toClue (n + 0) x1 (by exact Nat.le_trans (zL_at hx1) ha)) rfl) ?_))
    obtain ⟨x2, hx2⟩ : ∃ x, (a.take i ++ List.replicate (a.length - i) (D.Clue.mk 0 []))[i]? = some x := ⟨_, List.getElem?_eq_getElem (by omega)⟩
    refine fO (B.indexAddrO (i := i) (tv (T.os 2 0 0 (((a.take i ++ List.replicate (a.length - i) (D.Clue.mk 0 [])).map (eClue true)).length)) rfl) (tv (tN i) rfl) rfl (by (simp only [List.length_map]; omega)) U35 sz83 if83) (cO (B.storeB (us := [(tI x1.Sense), (T.os 4 1 0 ((x1.Play.map (eStep true)).length))]) (ws := [(tI x1.Sense), (T.sl true 4 (x1.Play.map (eStep true)))]) (rows' := (((a.take i ++ List.replicate (a.length - i) (D.Clue.mk 0 [])).set i x1).map (eClue true))) (row := (eClue true x2)) (tv (T.orp 2 0 i 0) rfl) (tv (T.agg [(tI x1.Sense), (T.os 4 1 0 ((x1.Play.map (eStep true)).length))]) rfl) nofun rfl (map_at _ hx2) rfl (lb rfl) if83 sz83 (bc rfl (bc rfl bn)) (Bury.pl rfl (Bury.os rfl rfl Bury.nil (by decide))) rfl (by decide) (set_mapE rfl)) (VRunO.nil (vinB.n (tn (VRun.region (mO (tN i) rfl (fO (xinc (tv (tN i) rfl) (VEv.int .i64 1) (by omega)) (aO (tN (i + 1)) rfl (VRunO.nil (tn ?_))))))))))
    have he2 : ((a.take i ++ List.replicate (a.length - i) (D.Clue.mk 0 [])).set i x1) = (a.take (i + 1) ++ List.replicate (a.length - (i + 1)) (D.Clue.mk 0 [])) := by exact fill_next hx1
    refine ⟨(i + 1 : Nat), ?_, ?_, Wk.mk (fun k => k) ?_ ?_ ?_⟩
    · trivial
    · omega
    · exact (b2 (b2 (bc ⟨(congrArg (fun n_ => T.os 2 0 0 n_) (show ((a.take i ++ List.replicate (a.length - i) (D.Clue.mk 0 [])).map (eClue true)).length = ((a.take (i + 1) ++ List.replicate (a.length - (i + 1)) (D.Clue.mk 0 [])).map (eClue true)).length from (by (simp only [List.length_map, List.length_set, List.length_append, List.length_take, List.length_replicate, List.length_cons, List.length_nil]; omega)))), rfl⟩ (b2 bn))))
    · exact (bc ⟨(congrArg (fun l_ => some (Obj.rows 2 (List.map (eClue true) l_))) he2), (lb rfl), rfl⟩ bn)
    · exact nd rfl
  refine VRun.exit (vthn.e (vthn.e (vinB.e (tn (sr (mO (T.os 2 0 0 (((a.take i ++ List.replicate (a.length - i) (D.Clue.mk 0 [])).map (eClue true)).length)) rfl (aO (T.os 2 0 0 (((a.take i ++ List.replicate (a.length - i) (D.Clue.mk 0 [])).map (eClue true)).length)) rfl (nt (rt ?_)))))))))
  refine vfin.eq (r' := (T.sl true 2 ((a.take i ++ List.replicate (a.length - i) (D.Clue.mk 0 [])).map (eClue true)))) ?_ (vfin.r (VRes.tmp (t := (T.os 2 0 0 (((a.take i ++ List.replicate (a.length - i) (D.Clue.mk 0 [])).map (eClue true)).length))) rfl VRes.nil) (Give.os rfl rfl (okeClue.cleanMap _)))
  show (T.sl true 2 ((a.take i ++ List.replicate (a.length - i) (D.Clue.mk 0 [])).map (eClue true))) = (T.sl true 2 (a.map (eClue true)))
  refine congrArg (fun l_ => T.sl true 2 (List.map (eClue true) l_)) ?_
  exact fill_done fhc0
theorem W_laws_toPuzzle (n : Nat) (a : D.Puzzle) (ha : zPuzzle a ≤ mx) : Pure (acall Tryz.prog (n + 5)) 26 [(T.agg (ePuzzle false a))] (T.agg (ePuzzle true a)) := by
  refine Pure.intro (rs := [ResultVar.cell 2 37]) Tryz.func26 rfl rfl rfl (E0 := [(0, (T.agg (ePuzzle false a)))]) rfl ?_
  obtain ⟨hlim, hmx, hmax⟩ := lims
  simp only [zPuzzle] at ha
  have hla_Clues := zL_len (z := zClue) a.Clues
  have hla_Seals := zL_len (z := zI) a.Seals
  refine sr (kO (B.box (ts := (ePuzzle false a)) (tv (T.agg (ePuzzle false a)) rfl) nofun rfl) (kO (B.alloc (t := (T.agg [(tN 0), (tN 0), (tS ByteArray.empty), T.nils, T.nils, (tN 0)])) (ts := [(tN 0), (tN 0), (tS ByteArray.empty), T.nils, T.nils, (tN 0)]) zo37 zc37 nofun (fun _ => .agg _ _ rfl (RLof (RL.cons (.int _ _) (RL.cons (.int _ _) (RL.cons (.str _) (RL.cons (.nils) (RL.cons (.nils) (RL.cons (.int _ _) (RL.nil _))))))))) rfl) (nt (sr (kO (B.alloc (t := (T.agg [(tN 0), (tN 0), (tS ByteArray.empty), T.nils, T.nils, (tN 0)])) (ts := [(tN 0), (tN 0), (tS ByteArray.empty), T.nils, T.nils, (tN 0)]) zo37 zc37 nofun (fun _ => .agg _ _ rfl (RLof (RL.cons (.int _ _) (RL.cons (.int _ _) (RL.cons (.str _) (RL.cons (.nils) (RL.cons (.nils) (RL.cons (.int _ _) (RL.nil _))))))))) rfl) (nt (sr (fO (OF.fieldAddrO (tv (T.op 0 0) rfl) fa27_0) (lO (OL.loadOn (us := (eGrid false a.Grid)) (tv (T.op 0 0) rfl) rfl st23 sz23 (lb rfl) rfl) (cO (cS (vc (tv (T.agg (eGrid false a.Grid)) rfl) vn) (LendL.cons (lg okeGrid) ln) (W_laws_toGrid (n + 3) a.Grid ) rfl rfl) (fO (OF.fieldAddrO (tv (T.op 2 0) rfl) fa37_0) ?_)))))))))))
  refine cO (B.storeO (us := (eGrid true a.Grid)) (ws := [(tI a.Grid.Rows), (tI a.Grid.Cols), (tS a.Grid.Cells), T.nils, T.nils, (tN 0)]) (tv (T.op 2 0) rfl) (tv (T.agg (eGrid true a.Grid)) rfl) nofun rfl rfl (lb rfl) if34 sz34 (bc rfl (bc rfl (bc rfl bn))) rfl) (nt (sr (lf (rd 2 eClue a.Clues) rfl fa27_1 rfl rfl st24 (cO (OC.callF (us := [(rd 2 eClue a.Clues)]) (r := (T.sl true 2 (a.Clues.map (eClue true)))) (r' := (T.os 2 3 0 ((a.Clues.map (eClue true)).length))) (objs := [(Obj.rows 2 (a.Clues.map (eClue true)))]) rfl (vc (tv (rd 2 eClue a.Clues) rfl) vn) (lps rfl) (W_laws_toClueS (n + 0) a.Clues (by first | assumption | omega)) rfl) (fO (OF.fieldAddrO (tv (T.op 2 0) rfl) fa37_1) (cO (B.storeO (us := [(T.os 2 3 0 ((a.Clues.map (eClue true)).length))]) (ws := [(tI a.Grid.Rows), (tI a.Grid.Cols), (tS a.Grid.Cells), (T.os 2 3 0 ((a.Clues.map (eClue true)).length)), T.nils, (tN 0)]) (tv (T.op 2 3) rfl) (tv (T.os 2 3 0 ((a.Clues.map (eClue true)).length)) rfl) nofun rfl rfl (lb rfl) if35 sz35 (bc rfl bn) rfl) (nt (sr (lf (rd 1 eInt a.Seals) rfl fa27_2 rfl rfl st25 (cO (OC.callF (us := [(rd 1 eInt a.Seals)]) (r := (T.sl true 1 (a.Seals.map (eInt true)))) (r' := (T.os 1 4 0 ((a.Seals.map (eInt true)).length))) (objs := [(Obj.rows 1 (a.Seals.map (eInt true)))]) rfl (vc (tv (rd 1 eInt a.Seals) rfl) vn) (lps rfl) (W_laws_toIntS (n + 3) a.Seals (by first | assumption | omega)) rfl) (fO (OF.fieldAddrO (tv (T.op 2 0) rfl) fa37_2) ?_)))))))))))
  refine cO (B.storeO (us := [(T.os 1 4 0 ((a.Seals.map (eInt true)).length))]) (ws := [(tI a.Grid.Rows), (tI a.Grid.Cols), (tS a.Grid.Cells), (T.os 2 3 0 ((a.Clues.map (eClue true)).length)), (T.os 1 4 0 ((a.Seals.map (eInt true)).length)), (tN 0)]) (tv (T.op 2 4) rfl) (tv (T.os 1 4 0 ((a.Seals.map (eInt true)).length)) rfl) nofun rfl rfl (lb rfl) if25 sz25 (bc rfl bn) rfl) (nt (sr (lf (tI a.Salt) rfl fa27_3 rfl rfl st3 (fO (OF.fieldAddrO (tv (T.op 2 0) rfl) fa37_3) (cO (B.storeO (us := [(tI a.Salt)]) (ws := [(tI a.Grid.Rows), (tI a.Grid.Cols), (tS a.Grid.Cells), (T.os 2 3 0 ((a.Clues.map (eClue true)).length)), (T.os 1 4 0 ((a.Seals.map (eInt true)).length)), (tI a.Salt)]) (tv (T.op 2 5) rfl) (tv (tI a.Salt) rfl) nofun rfl rfl (lb rfl) if3 sz3 (bc rfl bn) rfl) (nt (sr (lO (OL.loadOn (us := [(tI a.Grid.Rows), (tI a.Grid.Cols), (tS a.Grid.Cells), (T.os 2 3 0 ((a.Clues.map (eClue true)).length)), (T.os 1 4 0 ((a.Seals.map (eInt true)).length)), (tI a.Salt)]) (tv (T.op 2 0) rfl) rfl st37 sz37 (lb rfl) rfl) (cO (B.storeO (us := [(tI a.Grid.Rows), (tI a.Grid.Cols), (tS a.Grid.Cells), (T.os 2 3 0 ((a.Clues.map (eClue true)).length)), (T.os 1 4 0 ((a.Seals.map (eInt true)).length)), (tI a.Salt)]) (ws := [(tI a.Grid.Rows), (tI a.Grid.Cols), (tS a.Grid.Cells), (T.os 2 3 0 ((a.Clues.map (eClue true)).length)), (T.os 1 4 0 ((a.Seals.map (eInt true)).length)), (tI a.Salt)]) (tv (T.op 1 0) rfl) (tv (T.agg [(tI a.Grid.Rows), (tI a.Grid.Cols), (tS a.Grid.Cells), (T.os 2 3 0 ((a.Clues.map (eClue true)).length)), (T.os 1 4 0 ((a.Seals.map (eInt true)).length)), (tI a.Salt)]) rfl) nofun rfl rfl (lb rfl) if37 sz37 (bc rfl (bc rfl (bc rfl (bc rfl (bc rfl (bc rfl bn)))))) rfl) (nt (rt ?_)))))))))))
  refine vfin.eq (r' := (T.agg [(tI a.Grid.Rows), (tI a.Grid.Cols), (tS a.Grid.Cells), (T.sl true 2 (a.Clues.map (eClue true))), (T.sl true 1 (a.Seals.map (eInt true))), (tI a.Salt)])) ?_ (vfin.r (VRes.celln (ws := [(tI a.Grid.Rows), (tI a.Grid.Cols), (tS a.Grid.Cells), (T.os 2 3 0 ((a.Clues.map (eClue true)).length)), (T.os 1 4 0 ((a.Seals.map (eInt true)).length)), (tI a.Salt)]) rfl rfl st37 sz37 (lb rfl) rfl VRes.nil) (Give.agg (GiveL.cons (Give.int _ _) (GiveL.cons (Give.int _ _) (GiveL.cons (Give.str _) (GiveL.cons (Give.os rfl rfl (okeClue.cleanMap _)) (GiveL.cons (Give.os rfl rfl (okInt.cleanMap _)) (GiveL.cons (Give.int _ _) GiveL.nil (by decide)) (by decide)) (by decide)) (by decide)) (by decide)) (by decide))))
  show (T.agg [(tI a.Grid.Rows), (tI a.Grid.Cols), (tS a.Grid.Cells), (T.sl true 2 (a.Clues.map (eClue true))), (T.sl true 1 (a.Seals.map (eInt true))), (tI a.Salt)]) = (T.agg (ePuzzle true a))
  first | rfl | (exact decN (by omega)) | (symm; rw [decide_eq_false_iff_not]; omega) | (symm; rw [decide_eq_true_eq]; omega) | (simp_all; done)
theorem W_laws_toSession (n : Nat) (a : D.Session) (ha : zSession a ≤ mx) : Pure (acall Tryz.prog (n + 2)) 27 [(T.agg (eSession false a))] (T.agg (eSession true a)) := by
  refine Pure.intro (rs := [ResultVar.cell 2 56]) Tryz.func27 rfl rfl rfl (E0 := [(0, (T.agg (eSession false a)))]) rfl ?_
  obtain ⟨hlim, hmx, hmax⟩ := lims
  simp only [zSession] at ha
  have hla_Asked := zL_len (z := zI) a.Asked
  refine sr (kO (B.box (ts := (eSession false a)) (tv (T.agg (eSession false a)) rfl) nofun rfl) (kO (B.alloc (t := (T.agg [(tS ByteArray.empty), (tN 0), (tN 0), T.nils, (tN 0), (tN 0)])) (ts := [(tS ByteArray.empty), (tN 0), (tN 0), T.nils, (tN 0), (tN 0)]) zo56 zc56 nofun (fun _ => .agg _ _ rfl (RLof (RL.cons (.str _) (RL.cons (.int _ _) (RL.cons (.int _ _) (RL.cons (.nils) (RL.cons (.int _ _) (RL.cons (.int _ _) (RL.nil _))))))))) rfl) (nt (sr (kO (B.alloc (t := (T.agg [(tS ByteArray.empty), (tN 0), (tN 0), T.nils, (tN 0), (tN 0)])) (ts := [(tS ByteArray.empty), (tN 0), (tN 0), T.nils, (tN 0), (tN 0)]) zo56 zc56 nofun (fun _ => .agg _ _ rfl (RLof (RL.cons (.str _) (RL.cons (.int _ _) (RL.cons (.int _ _) (RL.cons (.nils) (RL.cons (.int _ _) (RL.cons (.int _ _) (RL.nil _))))))))) rfl) (nt (sr (lf (tS a.Fill) rfl fa51_0 rfl rfl st9 (fO (OF.fieldAddrO (tv (T.op 2 0) rfl) fa56_0) (cO (B.storeO (us := [(tS a.Fill)]) (ws := [(tS a.Fill), (tN 0), (tN 0), T.nils, (tN 0), (tN 0)]) (tv (T.op 2 0) rfl) (tv (tS a.Fill) rfl) nofun rfl rfl (lb rfl) if9 sz9 (bc rfl bn) rfl) (nt ?_)))))))))))
  refine sr (lf (tI a.Checks) rfl fa51_1 rfl rfl st3 (fO (OF.fieldAddrO (tv (T.op 2 0) rfl) fa56_1) (cO (B.storeO (us := [(tI a.Checks)]) (ws := [(tS a.Fill), (tI a.Checks), (tN 0), T.nils, (tN 0), (tN 0)]) (tv (T.op 2 1) rfl) (tv (tI a.Checks) rfl) nofun rfl rfl (lb rfl) if3 sz3 (bc rfl bn) rfl) (nt (sr (lf (tI a.Spent) rfl fa51_2 rfl rfl st3 (fO (OF.fieldAddrO (tv (T.op 2 0) rfl) fa56_2) (cO (B.storeO (us := [(tI a.Spent)]) (ws := [(tS a.Fill), (tI a.Checks), (tI a.Spent), T.nils, (tN 0), (tN 0)]) (tv (T.op 2 2) rfl) (tv (tI a.Spent) rfl) nofun rfl rfl (lb rfl) if3 sz3 (bc rfl bn) rfl) (nt (sr (lf (rd 1 eInt a.Asked) rfl fa51_3 rfl rfl st25 ?_)))))))))))
  refine cO (OC.callF (us := [(rd 1 eInt a.Asked)]) (r := (T.sl true 1 (a.Asked.map (eInt true)))) (r' := (T.os 1 3 0 ((a.Asked.map (eInt true)).length))) (objs := [(Obj.rows 1 (a.Asked.map (eInt true)))]) rfl (vc (tv (rd 1 eInt a.Asked) rfl) vn) (lps rfl) (W_laws_toIntS (n + 0) a.Asked (by first | assumption | omega)) rfl) (fO (OF.fieldAddrO (tv (T.op 2 0) rfl) fa56_3) (cO (B.storeO (us := [(T.os 1 3 0 ((a.Asked.map (eInt true)).length))]) (ws := [(tS a.Fill), (tI a.Checks), (tI a.Spent), (T.os 1 3 0 ((a.Asked.map (eInt true)).length)), (tN 0), (tN 0)]) (tv (T.op 2 3) rfl) (tv (T.os 1 3 0 ((a.Asked.map (eInt true)).length)) rfl) nofun rfl rfl (lb rfl) if25 sz25 (bc rfl bn) rfl) (nt (sr (lf (tI a.Start) rfl fa51_4 rfl rfl st3 (fO (OF.fieldAddrO (tv (T.op 2 0) rfl) fa56_4) (cO (B.storeO (us := [(tI a.Start)]) (ws := [(tS a.Fill), (tI a.Checks), (tI a.Spent), (T.os 1 3 0 ((a.Asked.map (eInt true)).length)), (tI a.Start), (tN 0)]) (tv (T.op 2 4) rfl) (tv (tI a.Start) rfl) nofun rfl rfl (lb rfl) if3 sz3 (bc rfl bn) rfl) (nt (sr (lf (tI a.Now) rfl fa51_5 rfl rfl st3 (fO (OF.fieldAddrO (tv (T.op 2 0) rfl) fa56_5) ?_)))))))))))
  refine cO (B.storeO (us := [(tI a.Now)]) (ws := [(tS a.Fill), (tI a.Checks), (tI a.Spent), (T.os 1 3 0 ((a.Asked.map (eInt true)).length)), (tI a.Start), (tI a.Now)]) (tv (T.op 2 5) rfl) (tv (tI a.Now) rfl) nofun rfl rfl (lb rfl) if3 sz3 (bc rfl bn) rfl) (nt (sr (lO (OL.loadOn (us := [(tS a.Fill), (tI a.Checks), (tI a.Spent), (T.os 1 3 0 ((a.Asked.map (eInt true)).length)), (tI a.Start), (tI a.Now)]) (tv (T.op 2 0) rfl) rfl st56 sz56 (lb rfl) rfl) (cO (B.storeO (us := [(tS a.Fill), (tI a.Checks), (tI a.Spent), (T.os 1 3 0 ((a.Asked.map (eInt true)).length)), (tI a.Start), (tI a.Now)]) (ws := [(tS a.Fill), (tI a.Checks), (tI a.Spent), (T.os 1 3 0 ((a.Asked.map (eInt true)).length)), (tI a.Start), (tI a.Now)]) (tv (T.op 1 0) rfl) (tv (T.agg [(tS a.Fill), (tI a.Checks), (tI a.Spent), (T.os 1 3 0 ((a.Asked.map (eInt true)).length)), (tI a.Start), (tI a.Now)]) rfl) nofun rfl rfl (lb rfl) if56 sz56 (bc rfl (bc rfl (bc rfl (bc rfl (bc rfl (bc rfl bn)))))) rfl) (nt (rt ?_))))))
  refine vfin.eq (r' := (T.agg [(tS a.Fill), (tI a.Checks), (tI a.Spent), (T.sl true 1 (a.Asked.map (eInt true))), (tI a.Start), (tI a.Now)])) ?_ (vfin.r (VRes.celln (ws := [(tS a.Fill), (tI a.Checks), (tI a.Spent), (T.os 1 3 0 ((a.Asked.map (eInt true)).length)), (tI a.Start), (tI a.Now)]) rfl rfl st56 sz56 (lb rfl) rfl VRes.nil) (Give.agg (GiveL.cons (Give.str _) (GiveL.cons (Give.int _ _) (GiveL.cons (Give.int _ _) (GiveL.cons (Give.os rfl rfl (okInt.cleanMap _)) (GiveL.cons (Give.int _ _) (GiveL.cons (Give.int _ _) GiveL.nil (by decide)) (by decide)) (by decide)) (by decide)) (by decide)) (by decide))))
  show (T.agg [(tS a.Fill), (tI a.Checks), (tI a.Spent), (T.sl true 1 (a.Asked.map (eInt true))), (tI a.Start), (tI a.Now)]) = (T.agg (eSession true a))
  first | rfl | (exact decN (by omega)) | (symm; rw [decide_eq_false_iff_not]; omega) | (symm; rw [decide_eq_true_eq]; omega) | (simp_all; done)
end Go.Proofs.YtcccmceoplcciaaGreat.AE
namespace Go.Proofs.YtcccmceoplcciaaGreat.AE
open Go Go.RowKit
set_option linter.unusedVariables false
set_option linter.unusedSimpArgs false
set_option maxRecDepth 20000
set_option maxHeartbeats 2000000
theorem W_laws_eqIntS (n : Nat) (a : List Int) (b : List Int) (hla : a.length ≤ mx) (hlb : b.length ≤ mx) : Pure (acall Tryz.prog (n + 1)) 16 [(rd 1 eInt a), (rd 1 eInt b)] (tB (decide (a = b))) := by
  refine Pure.intro (rs := [ResultVar.tmp 4]) Tryz.func16 rfl rfl rfl (E0 := [(0, (rd 1 eInt a)), (1, (rd 1 eInt b))]) rfl ?_
  obtain ⟨hlim, hmx, hmax⟩ := lims
  refine sr (fO (OF.assign (VEv.bool false)) (nt (sq (sr (mO (rd 1 eInt a) rfl (lO (B.lenR (m := a.length) (tv (rd 1 eInt a) rfl) U25 (List.length_map ..)) (mO (rd 1 eInt b) rfl (lO (B.lenR (m := b.length) (tv (rd 1 eInt b) rfl) U25 (List.length_map ..)) (fO (xne' (tv (tN a.length) rfl) (tv (tN b.length) rfl)) (nt ?_))))))))))
  refine cn (a.length = b.length) rfl (fun fhc0 => ?_) fun fhc0 => ?_
  · refine sr ?_
    refine fO (OF.assign (VEv.bool false)) (nt (rt (tr (vb (b' := false) rfl ?_))))
    symm; rw [decide_eq_false_iff_not]; rintro rfl; exact fhc0 rfl
  refine sk (tn (sq (sr (fO (OF.assign (VEv.int .i64 0)) (nt (VRun.block ?_))))))
  refine VRun.loop (A := Nat) (fun s_ => [(0, (rd 1 eInt a)), (1, (rd 1 eInt b)), (5, (tN s_))]) (fun s_ => mkO []) 0 (fun s_ => s_ ≤ a.length ∧ ∀ j, j < s_ → a[j]? = b[j]?) (fun s_ => a.length - s_) (0 : Nat) ?_ (Wk.mk (fun k => k) ?_ ?_ ?_) ?_
  · (simp; done)
  · exact (b2 (b2 (b2 bn)))
  · exact bn
  · exact nd rfl
  rintro i (hI' : i ≤ a.length ∧ ∀ j, j < i → a[j]? = b[j]?)
  show VRun _ _ _ [(0, (rd 1 eInt a)), (1, (rd 1 eInt b)), (5, (tN i))] (mkO []) 0 _
  refine sq (sr (mO (tN i) rfl (mO (rd 1 eInt a) rfl (lO (B.lenR (m := a.length) (tv (rd 1 eInt a) rfl) U25 (List.length_map ..)) (fO (xls' (tv (tN i) rfl) (tv (tN a.length) rfl)) (nt ?_))))))
  refine cd (i < a.length) rfl (fun fhc1 => ?_) fun fhc1 => ?_
  · refine sk ?_
    refine tn (sq (VRun.block (sq (VRun.draw (B := [[], [], [1, 0], [0, 1, 2], [], [], [5, 4], [4, 5, 6], [6, 5, 4, 7, 2, 1, 0, 3]]) (by kernel_rfl) (by kernel_rfl) (mD (rd 1 eInt a) rfl rfl (mD (tN i) rfl rfl ?_))))))
    obtain ⟨x1, hx1⟩ : ∃ x, a[i]? = some x := ⟨_, List.getElem?_eq_getElem (by omega)⟩
    refine fD (OF.indexAddrR (row := (eInt false x1)) (i := i) (tv (rd 1 eInt a) rfl) (tv (tN i) rfl) rfl (map_at _ hx1) U25 sz3 if3) rfl rfl (lD (OL.loadR1 (t := (tI x1)) (tv (T.rp [(tI x1)]) rfl) rfl st3) rfl rfl (mD (rd 1 eInt b) rfl rfl (mD (tN i) rfl rfl ?_)))
    obtain ⟨x2, hx2⟩ : ∃ x, b[i]? = some x := ⟨_, List.getElem?_eq_getElem (by omega)⟩
    refine fD (OF.indexAddrR (row := (eInt false x2)) (i := i) (tv (rd 1 eInt b) rfl) (tv (tN i) rfl) rfl (map_at _ hx2) U25 sz3 if3) rfl rfl (lD (OL.loadR1 (t := (tI x2)) (tv (T.rp [(tI x2)]) rfl) rfl st3) rfl rfl (fD (xne (tv (tI x1) rfl) (tv (tI x2) rfl)) rfl rfl (VRunD.nil (tn ?_))))
    refine cn (x1 = x2) rfl (fun fhc2 => ?_) fun fhc2 => ?_
    · refine sr ?_
      refine fO (OF.assign (VEv.bool false)) (nt (rt (vinB.r (tr (tr (vinB.r (tr (vb (b' := false) rfl ?_))))))))
      symm; rw [decide_eq_false_iff_not]; exact agree_not hx1 hx2 fhc2
    refine sk (vinB.n (tn (VRun.region (mO (tN i) rfl (fO (xinc (tv (tN i) rfl) (VEv.int .i64 1) (by omega)) (aO (tN (i + 1)) rfl (VRunO.nil (tn ?_))))))))
    refine ⟨(i + 1 : Nat), ?_, ?_, Wk.mk (fun k => k) ?_ ?_ ?_⟩
    · exact agree_next hI' hx1 hx2 fhc2
    · omega
    · exact (b2 (b2 (b2 bn)))
    · exact bn
    · exact nd rfl
  refine VRun.exit (vthn.e (vthn.e (vinB.e (tn (sr (fO (OF.assign (VEv.bool true)) (nt (rt (vb (b' := true) rfl ?_)))))))))
  symm; rw [decide_eq_true_eq]; exact agree_all hI' fhc0 fhc1
theorem W_laws_eqGrid (n : Nat) (a : D.Grid) (b : D.Grid)  : Pure (acall Tryz.prog (n + 1)) 68 [(T.agg (eGrid false a)), (T.agg (eGrid false b))] (tB (decide (a = b))) := by
  refine Pure.intro (rs := [ResultVar.tmp 4]) Tryz.func68 rfl rfl rfl (E0 := [(0, (T.agg (eGrid false a))), (1, (T.agg (eGrid false b)))]) rfl ?_
  obtain ⟨hlim, hmx, hmax⟩ := lims
  refine sr (kO (B.box (ts := (eGrid false a)) (tv (T.agg (eGrid false a)) rfl) nofun rfl) (kO (B.box (ts := (eGrid false b)) (tv (T.agg (eGrid false b)) rfl) nofun rfl) (fO (OF.assign (VEv.bool false)) (nt (sq (sr (lf (tI a.Rows) rfl fa34_0 rfl rfl st3 (lf (tI b.Rows) rfl fa34_0 rfl rfl st3 (fO (xne (tv (tI a.Rows) rfl) (tv (tI b.Rows) rfl)) (nt ?_))))))))))
  refine cn (a.Rows = b.Rows) rfl (fun fhc0 => ?_) fun fhc0 => ?_
  · refine sr ?_
    refine fO (OF.assign (VEv.bool false)) (nt (rt (tr (vb (b' := false) rfl ?_))))
    obtain ⟨a0, a1, a2⟩ := a
    obtain ⟨b0, b1, b2⟩ := b
    simp_all
  refine sk (tn (sq (sr (lf (tI a.Cols) rfl fa34_1 rfl rfl st3 (lf (tI b.Cols) rfl fa34_1 rfl rfl st3 (fO (xne (tv (tI a.Cols) rfl) (tv (tI b.Cols) rfl)) (nt ?_)))))))
  refine cn (a.Cols = b.Cols) rfl (fun fhc1 => ?_) fun fhc1 => ?_
  · refine sr ?_
    refine fO (OF.assign (VEv.bool false)) (nt (rt (tr (vb (b' := false) rfl ?_))))
    obtain ⟨a0, a1, a2⟩ := a
    obtain ⟨b0, b1, b2⟩ := b
    simp_all
  refine sk (tn (sq (sr (lf (tS a.Cells) rfl fa34_2 rfl rfl st9 (lf (tS b.Cells) rfl fa34_2 rfl rfl st9 (fO (B.sneq (c := (!(decide (a.Cells = b.Cells)))) (tv (tS a.Cells) rfl) (tv (tS b.Cells) rfl) rfl) (nt ?_)))))))
  refine cn (a.Cells = b.Cells) rfl (fun fhc2 => ?_) fun fhc2 => ?_
  · refine sr ?_
    refine fO (OF.assign (VEv.bool false)) (nt (rt (tr (vb (b' := false) rfl ?_))))
    obtain ⟨a0, a1, a2⟩ := a
    obtain ⟨b0, b1, b2⟩ := b
    simp_all
  refine sk (tn (sr (fO (OF.assign (VEv.bool true)) (nt (rt (vb (b' := true) rfl ?_))))))
  obtain ⟨a0, a1, a2⟩ := a
  obtain ⟨b0, b1, b2⟩ := b
  simp_all
theorem W_laws_eqStep (n : Nat) (a : D.Step) (b : D.Step)  : Pure (acall Tryz.prog (n + 1)) 155 [(T.agg (eStep false a)), (T.agg (eStep false b))] (tB (decide (a = b))) := by
  refine Pure.intro (rs := [ResultVar.tmp 4]) Tryz.func155 rfl rfl rfl (E0 := [(0, (T.agg (eStep false a))), (1, (T.agg (eStep false b)))]) rfl ?_
  obtain ⟨hlim, hmx, hmax⟩ := lims
  refine sr (kO (B.box (ts := (eStep false a)) (tv (T.agg (eStep false a)) rfl) nofun rfl) (kO (B.box (ts := (eStep false b)) (tv (T.agg (eStep false b)) rfl) nofun rfl) (fO (OF.assign (VEv.bool false)) (nt (sq (sr (lf (tI a.Kind) rfl fa121_0 rfl rfl st3 (lf (tI b.Kind) rfl fa121_0 rfl rfl st3 (fO (xne (tv (tI a.Kind) rfl) (tv (tI b.Kind) rfl)) (nt ?_))))))))))
  refine cn (a.Kind = b.Kind) rfl (fun fhc0 => ?_) fun fhc0 => ?_
  · refine sr ?_
    refine fO (OF.assign (VEv.bool false)) (nt (rt (tr (vb (b' := false) rfl ?_))))
    obtain ⟨a0, a1, a2, a3⟩ := a
    obtain ⟨b0, b1, b2, b3⟩ := b
    simp_all
  refine sk (tn (sq (sr (lf (tS a.Word) rfl fa121_1 rfl rfl st9 (lf (tS b.Word) rfl fa121_1 rfl rfl st9 (fO (B.sneq (c := (!(decide (a.Word = b.Word)))) (tv (tS a.Word) rfl) (tv (tS b.Word) rfl) rfl) (nt ?_)))))))
  refine cn (a.Word = b.Word) rfl (fun fhc1 => ?_) fun fhc1 => ?_
  · refine sr ?_
    refine fO (OF.assign (VEv.bool false)) (nt (rt (tr (vb (b' := false) rfl ?_))))
    obtain ⟨a0, a1, a2, a3⟩ := a
    obtain ⟨b0, b1, b2, b3⟩ := b
    simp_all
  refine sk (tn (sq (sr (lf (tI a.A) rfl fa121_2 rfl rfl st3 (lf (tI b.A) rfl fa121_2 rfl rfl st3 (fO (xne (tv (tI a.A) rfl) (tv (tI b.A) rfl)) (nt ?_)))))))
  refine cn (a.A = b.A) rfl (fun fhc2 => ?_) fun fhc2 => ?_
  · refine sr ?_
    refine fO (OF.assign (VEv.bool false)) (nt (rt (tr (vb (b' := false) rfl ?_))))
    obtain ⟨a0, a1, a2, a3⟩ := a
    obtain ⟨b0, b1, b2, b3⟩ := b
    simp_all
  refine sk (tn (sq (sr (lf (tI a.B) rfl fa121_3 rfl rfl st3 (lf (tI b.B) rfl fa121_3 rfl rfl st3 (fO (xne (tv (tI a.B) rfl) (tv (tI b.B) rfl)) (nt ?_)))))))
  refine cn (a.B = b.B) rfl (fun fhc3 => ?_) fun fhc3 => ?_
  · refine sr ?_
    refine fO (OF.assign (VEv.bool false)) (nt (rt (tr (vb (b' := false) rfl ?_))))
    obtain ⟨a0, a1, a2, a3⟩ := a
    obtain ⟨b0, b1, b2, b3⟩ := b
    simp_all
  refine sk (tn (sr (fO (OF.assign (VEv.bool true)) (nt (rt (vb (b' := true) rfl ?_))))))
  obtain ⟨a0, a1, a2, a3⟩ := a
  obtain ⟨b0, b1, b2, b3⟩ := b
  simp_all
theorem W_laws_eqStepS (n : Nat) (a : List D.Step) (b : List D.Step) (hla : a.length ≤ mx) (hlb : b.length ≤ mx) : Pure (acall Tryz.prog (n + 2)) 130 [(rd 4 eStep a), (rd 4 eStep b)] (tB (decide (a = b))) := by
  refine Pure.intro (rs := [ResultVar.tmp 4]) Tryz.func130 rfl rfl rfl (E0 := [(0, (rd 4 eStep a)), (1, (rd 4 eStep b))]) rfl ?_
  obtain ⟨hlim, hmx, hmax⟩ := lims
  refine sr (fO (OF.assign (VEv.bool false)) (nt (sq (sr (mO (rd 4 eStep a) rfl (lO (B.lenR (m := a.length) (tv (rd 4 eStep a) rfl) U81 (List.length_map ..)) (mO (rd 4 eStep b) rfl (lO (B.lenR (m := b.length) (tv (rd 4 eStep b) rfl) U81 (List.length_map ..)) (fO (xne' (tv (tN a.length) rfl) (tv (tN b.length) rfl)) (nt ?_))))))))))
  refine cn (a.length = b.length) rfl (fun fhc0 => ?_) fun fhc0 => ?_
  · refine sr ?_
    refine fO (OF.assign (VEv.bool false)) (nt (rt (tr (vb (b' := false) rfl ?_))))
    symm; rw [decide_eq_false_iff_not]; rintro rfl; exact fhc0 rfl
  refine sk (tn (sq (sr (fO (OF.assign (VEv.int .i64 0)) (nt (VRun.block ?_))))))
  refine VRun.loop (A := Nat) (fun s_ => [(0, (rd 4 eStep a)), (1, (rd 4 eStep b)), (5, (tN s_))]) (fun s_ => mkO []) 0 (fun s_ => s_ ≤ a.length ∧ ∀ j, j < s_ → a[j]? = b[j]?) (fun s_ => a.length - s_) (0 : Nat) ?_ (Wk.mk (fun k => k) ?_ ?_ ?_) ?_
  · (simp; done)
  · exact (b2 (b2 (b2 bn)))
  · exact bn
  · exact nd rfl
  rintro i (hI' : i ≤ a.length ∧ ∀ j, j < i → a[j]? = b[j]?)
  show VRun _ _ _ [(0, (rd 4 eStep a)), (1, (rd 4 eStep b)), (5, (tN i))] (mkO []) 0 _
  refine sq (sr (mO (tN i) rfl (mO (rd 4 eStep a) rfl (lO (B.lenR (m := a.length) (tv (rd 4 eStep a) rfl) U81 (List.length_map ..)) (fO (xls' (tv (tN i) rfl) (tv (tN a.length) rfl)) (nt ?_))))))
  refine cd (i < a.length) rfl (fun fhc1 => ?_) fun fhc1 => ?_
  · refine sk ?_
    refine tn (sq (VRun.block (sq (VRun.draw (B := [[], [], [1, 0], [0, 1, 2], [], [], [5, 4], [4, 5, 6], [6, 5, 4, 7, 2, 1, 0, 3], [3, 0, 1, 2, 7, 4, 5, 6, 8]]) (by kernel_rfl) (by kernel_rfl) (mD (rd 4 eStep a) rfl rfl (mD (tN i) rfl rfl ?_))))))
    obtain ⟨x1, hx1⟩ : ∃ x, a[i]? = some x := ⟨_, List.getElem?_eq_getElem (by omega)⟩
    refine fD (OF.indexAddrR (row := (eStep false x1)) (i := i) (tv (rd 4 eStep a) rfl) (tv (tN i) rfl) rfl (map_at _ hx1) U81 sz121 if121) rfl rfl (lD (OL.loadRn (us := (eStep false x1)) (tv (T.rp (eStep false x1)) rfl) st121 sz121 (lb rfl) rfl) rfl rfl (mD (rd 4 eStep b) rfl rfl (mD (tN i) rfl rfl ?_)))
    obtain ⟨x2, hx2⟩ : ∃ x, b[i]? = some x := ⟨_, List.getElem?_eq_getElem (by omega)⟩
    refine fD (OF.indexAddrR (row := (eStep false x2)) (i := i) (tv (rd 4 eStep b) rfl) (tv (tN i) rfl) rfl (map_at _ hx2) U81 sz121 if121) rfl rfl (lD (OL.loadRn (us := (eStep false x2)) (tv (T.rp (eStep false x2)) rfl) st121 sz121 (lb rfl) rfl) rfl rfl (VRunD.quiet (bi := [6, 5, 4, 7, 2, 1, 0, 3]) rfl VWant.always rfl rfl rfl bn (cS (vc (tv (T.agg (eStep false x1)) rfl) (vc (tv (T.agg (eStep false x2)) rfl) vn)) (LendL.cons (lg okeStep) (LendL.cons (lg okeStep) ln)) (W_laws_eqStep (n + 0) x1 x2 ) rfl rfl) (fD (xnot (tv (tB (decide (x1 = x2))) rfl)) rfl rfl (VRunD.nil (tn ?_)))))
    refine cn (x1 = x2) rfl (fun fhc2 => ?_) fun fhc2 => ?_
    · refine sr ?_
      refine fO (OF.assign (VEv.bool false)) (nt (rt (vinB.r (tr (tr (vinB.r (tr (vb (b' := false) rfl ?_))))))))
      symm; rw [decide_eq_false_iff_not]; exact agree_not hx1 hx2 fhc2
    refine sk (vinB.n (tn (VRun.region (mO (tN i) rfl (fO (xinc (tv (tN i) rfl) (VEv.int .i64 1) (by omega)) (aO (tN (i + 1)) rfl (VRunO.nil (tn ?_))))))))
    refine ⟨(i + 1 : Nat), ?_, ?_, Wk.mk (fun k => k) ?_ ?_ ?_⟩
    · exact agree_next hI' hx1 hx2 fhc2
    · omega
    · exact (b2 (b2 (b2 bn)))
    · exact bn
    · exact nd rfl
  refine VRun.exit (vthn.e (vthn.e (vinB.e (tn (sr (fO (OF.assign (VEv.bool true)) (nt (rt (vb (b' := true) rfl ?_)))))))))
  symm; rw [decide_eq_true_eq]; exact agree_all hI' fhc0 fhc1
theorem W_laws_eqClue (n : Nat) (a : D.Clue) (b : D.Clue) (ha : zClue a ≤ mx) (hb : zClue b ≤ mx) : Pure (acall Tryz.prog (n + 3)) 101 [(T.agg (eClue false a)), (T.agg (eClue false b))] (tB (decide (a = b))) := by
  refine Pure.intro (rs := [ResultVar.tmp 4]) Tryz.func101 rfl rfl rfl (E0 := [(0, (T.agg (eClue false a))), (1, (T.agg (eClue false b)))]) rfl ?_
  obtain ⟨hlim, hmx, hmax⟩ := lims
  simp only [zClue] at ha hb
  have hla_Play := zL_len (z := zStep) a.Play
  have hlb_Play := zL_len (z := zStep) b.Play
  refine sr (kO (B.box (ts := (eClue false a)) (tv (T.agg (eClue false a)) rfl) nofun rfl) (kO (B.box (ts := (eClue false b)) (tv (T.agg (eClue false b)) rfl) nofun rfl) (fO (OF.assign (VEv.bool false)) (nt (sq (sr (lf (tI a.Sense) rfl fa83_0 rfl rfl st3 (lf (tI b.Sense) rfl fa83_0 rfl rfl st3 (fO (xne (tv (tI a.Sense) rfl) (tv (tI b.Sense) rfl)) (nt ?_))))))))))
  refine cn (a.Sense = b.Sense) rfl (fun fhc0 => ?_) fun fhc0 => ?_
  · refine sr ?_
    refine fO (OF.assign (VEv.bool false)) (nt (rt (tr (vb (b' := false) rfl ?_))))
    obtain ⟨a0, a1⟩ := a
    obtain ⟨b0, b1⟩ := b
    simp_all
  refine sk (tn (sq (sr (lf (rd 4 eStep a.Play) rfl fa83_1 rfl rfl st81 (lf (rd 4 eStep b.Play) rfl fa83_1 rfl rfl st81 (cO (cS (vc (tv (rd 4 eStep a.Play) rfl) (vc (tv (rd 4 eStep b.Play) rfl) vn)) (lps rfl) (W_laws_eqStepS (n + 0) a.Play b.Play (by omega) (by omega)) rfl rfl) (fO (xnot (tv (tB (decide (a.Play = b.Play))) rfl)) (nt ?_))))))))
  refine cn (a.Play = b.Play) rfl (fun fhc1 => ?_) fun fhc1 => ?_
  · refine sr ?_
    refine fO (OF.assign (VEv.bool false)) (nt (rt (tr (vb (b' := false) rfl ?_))))
    obtain ⟨a0, a1⟩ := a
    obtain ⟨b0, b1⟩ := b
    simp_all
  refine sk (tn (sr (fO (OF.assign (VEv.bool true)) (nt (rt (vb (b' := true) rfl ?_))))))
  obtain ⟨a0, a1⟩ := a
  obtain ⟨b0, b1⟩ := b
  simp_all
theorem W_laws_eqClueS (n : Nat) (a : List D.Clue) (b : List D.Clue) (ha : zL zClue a ≤ mx) (hb : zL zClue b ≤ mx) : Pure (acall Tryz.prog (n + 4)) 69 [(rd 2 eClue a), (rd 2 eClue b)] (tB (decide (a = b))) := by
  refine Pure.intro (rs := [ResultVar.tmp 4]) Tryz.func69 rfl rfl rfl (E0 := [(0, (rd 2 eClue a)), (1, (rd 2 eClue b))]) rfl ?_
  obtain ⟨hlim, hmx, hmax⟩ := lims
  have hla := zL_len (z := zClue) a
  have hlb := zL_len (z := zClue) b
  refine sr (fO (OF.assign (VEv.bool false)) (nt (sq (sr (mO (rd 2 eClue a) rfl (lO (B.lenR (m := a.length) (tv (rd 2 eClue a) rfl) U35 (List.length_map ..)) (mO (rd 2 eClue b) rfl (lO (B.lenR (m := b.length) (tv (rd 2 eClue b) rfl) U35 (List.length_map ..)) (fO (xne' (tv (tN a.length) rfl) (tv (tN b.length) rfl)) (nt ?_))))))))))
  refine cn (a.length = b.length) rfl (fun fhc0 => ?_) fun fhc0 => ?_
  · refine sr ?_
    refine fO (OF.assign (VEv.bool false)) (nt (rt (tr (vb (b' := false) rfl ?_))))
    symm; rw [decide_eq_false_iff_not]; rintro rfl; exact fhc0 rfl
  refine sk (tn (sq (sr (fO (OF.assign (VEv.int .i64 0)) (nt (VRun.block ?_))))))
  refine VRun.loop (A := Nat) (fun s_ => [(0, (rd 2 eClue a)), (1, (rd 2 eClue b)), (5, (tN s_))]) (fun s_ => mkO []) 0 (fun s_ => s_ ≤ a.length ∧ ∀ j, j < s_ → a[j]? = b[j]?) (fun s_ => a.length - s_) (0 : Nat) ?_ (Wk.mk (fun k => k) ?_ ?_ ?_) ?_
  · (simp; done)
  · exact (b2 (b2 (b2 bn)))
  · exact bn
  · exact nd rfl
  rintro i (hI' : i ≤ a.length ∧ ∀ j, j < i → a[j]? = b[j]?)
  show VRun _ _ _ [(0, (rd 2 eClue a)), (1, (rd 2 eClue b)), (5, (tN i))] (mkO []) 0 _
  refine sq (sr (mO (tN i) rfl (mO (rd 2 eClue a) rfl (lO (B.lenR (m := a.length) (tv (rd 2 eClue a) rfl) U35 (List.length_map ..)) (fO (xls' (tv (tN i) rfl) (tv (tN a.length) rfl)) (nt ?_))))))
  refine cd (i < a.length) rfl (fun fhc1 => ?_) fun fhc1 => ?_
  · refine sk ?_
    refine tn (sq (VRun.block (sq (VRun.draw (B := [[], [], [1, 0], [0, 1, 2], [], [], [5, 4], [4, 5, 6], [6, 5, 4, 7, 2, 1, 0, 3], [3, 0, 1, 2, 7, 4, 5, 6, 8]]) (by kernel_rfl) (by kernel_rfl) (mD (rd 2 eClue a) rfl rfl (mD (tN i) rfl rfl ?_))))))
    obtain ⟨x1, hx1⟩ : ∃ x, a[i]? = some x := ⟨_, List.getElem?_eq_getElem (by omega)⟩
    refine fD (OF.indexAddrR (row := (eClue false x1)) (i := i) (tv (rd 2 eClue a) rfl) (tv (tN i) rfl) rfl (map_at _ hx1) U35 sz83 if83) rfl rfl (lD (OL.loadRn (us := (eClue false x1)) (tv (T.rp (eClue false x1)) rfl) st83 sz83 (lb rfl) rfl) rfl rfl (mD (rd 2 eClue b) rfl rfl (mD (tN i) rfl rfl ?_)))
    obtain ⟨x2, hx2⟩ : ∃ x, b[i]? = some x := ⟨_, List.getElem?_eq_getElem (by omega)⟩
    refine fD (OF.indexAddrR (row := (eClue false x2)) (i := i) (tv (rd 2 eClue b) rfl) (tv (tN i) rfl) rfl (map_at _ hx2) U35 sz83 if83) rfl rfl (lD (OL.loadRn (us := (eClue false x2)) (tv (T.rp (eClue false x2)) rfl) st83 sz83 (lb rfl) rfl) rfl rfl (VRunD.quiet (bi := [6, 5, 4, 7, 2, 1, 0, 3]) rfl VWant.always rfl rfl rfl bn (cS (vc (tv (T.agg (eClue false x1)) rfl) (vc (tv (T.agg (eClue false x2)) rfl) vn)) (LendL.cons (lg okeClue) (LendL.cons (lg okeClue) ln)) (W_laws_eqClue (n + 0) x1 x2 (by exact Nat.le_trans (zL_at hx1) ha) (by exact Nat.le_trans (zL_at hx2) hb)) rfl rfl) (fD (xnot (tv (tB (decide (x1 = x2))) rfl)) rfl rfl (VRunD.nil (tn ?_)))))
    refine cn (x1 = x2) rfl (fun fhc2 => ?_) fun fhc2 => ?_
    · refine sr ?_
      refine fO (OF.assign (VEv.bool false)) (nt (rt (vinB.r (tr (tr (vinB.r (tr (vb (b' := false) rfl ?_))))))))
      symm; rw [decide_eq_false_iff_not]; exact agree_not hx1 hx2 fhc2
    refine sk (vinB.n (tn (VRun.region (mO (tN i) rfl (fO (xinc (tv (tN i) rfl) (VEv.int .i64 1) (by omega)) (aO (tN (i + 1)) rfl (VRunO.nil (tn ?_))))))))
    refine ⟨(i + 1 : Nat), ?_, ?_, Wk.mk (fun k => k) ?_ ?_ ?_⟩
    · exact agree_next hI' hx1 hx2 fhc2
    · omega
    · exact (b2 (b2 (b2 bn)))
    · exact bn
    · exact nd rfl
  refine VRun.exit (vthn.e (vthn.e (vinB.e (tn (sr (fO (OF.assign (VEv.bool true)) (nt (rt (vb (b' := true) rfl ?_)))))))))
  symm; rw [decide_eq_true_eq]; exact agree_all hI' fhc0 fhc1
theorem W_laws_eqPuzzle (n : Nat) (a : D.Puzzle) (b : D.Puzzle) (ha : zPuzzle a ≤ mx) (hb : zPuzzle b ≤ mx) : Pure (acall Tryz.prog (n + 5)) 29 [(T.agg (ePuzzle false a)), (T.agg (ePuzzle false b))] (tB (decide (a = b))) := by
  refine Pure.intro (rs := [ResultVar.tmp 4]) Tryz.func29 rfl rfl rfl (E0 := [(0, (T.agg (ePuzzle false a))), (1, (T.agg (ePuzzle false b)))]) rfl ?_
  obtain ⟨hlim, hmx, hmax⟩ := lims
  simp only [zPuzzle] at ha hb
  have hla_Clues := zL_len (z := zClue) a.Clues
  have hla_Seals := zL_len (z := zI) a.Seals
  have hlb_Clues := zL_len (z := zClue) b.Clues
  have hlb_Seals := zL_len (z := zI) b.Seals
  refine sr (kO (B.box (ts := (ePuzzle false a)) (tv (T.agg (ePuzzle false a)) rfl) nofun rfl) (kO (B.box (ts := (ePuzzle false b)) (tv (T.agg (ePuzzle false b)) rfl) nofun rfl) (fO (OF.assign (VEv.bool false)) (nt (sq (sr (fO (OF.fieldAddrO (tv (T.op 0 0) rfl) fa37_0) (lO (OL.loadOn (us := (eGrid false a.Grid)) (tv (T.op 0 0) rfl) rfl st34 sz34 (lb rfl) rfl) (fO (OF.fieldAddrO (tv (T.op 1 0) rfl) fa37_0) (lO (OL.loadOn (us := (eGrid false b.Grid)) (tv (T.op 1 0) rfl) rfl st34 sz34 (lb rfl) rfl) (cO (cS (vc (tv (T.agg (eGrid false a.Grid)) rfl) (vc (tv (T.agg (eGrid false b.Grid)) rfl) vn)) (LendL.cons (lg okeGrid) (LendL.cons (lg okeGrid) ln)) (W_laws_eqGrid (n + 3) a.Grid b.Grid ) rfl rfl) ?_)))))))))))
  refine fO (xnot (tv (tB (decide (a.Grid = b.Grid))) rfl)) (nt ?_)
  refine cn (a.Grid = b.Grid) rfl (fun fhc0 => ?_) fun fhc0 => ?_
  · refine sr ?_
    refine fO (OF.assign (VEv.bool false)) (nt (rt (tr (vb (b' := false) rfl ?_))))
    obtain ⟨a0, a1, a2, a3⟩ := a
    obtain ⟨b0, b1, b2, b3⟩ := b
    simp_all
  refine sk (tn (sq (sr (lf (rd 2 eClue a.Clues) rfl fa37_1 rfl rfl st35 (lf (rd 2 eClue b.Clues) rfl fa37_1 rfl rfl st35 (cO (cS (vc (tv (rd 2 eClue a.Clues) rfl) (vc (tv (rd 2 eClue b.Clues) rfl) vn)) (lps rfl) (W_laws_eqClueS (n + 0) a.Clues b.Clues (by first | assumption | omega) (by first | assumption | omega)) rfl rfl) (fO (xnot (tv (tB (decide (a.Clues = b.Clues))) rfl)) (nt ?_))))))))
  refine cn (a.Clues = b.Clues) rfl (fun fhc1 => ?_) fun fhc1 => ?_
  · refine sr ?_
    refine fO (OF.assign (VEv.bool false)) (nt (rt (tr (vb (b' := false) rfl ?_))))
    obtain ⟨a0, a1, a2, a3⟩ := a
    obtain ⟨b0, b1, b2, b3⟩ := b
    simp_all
  refine sk (tn (sq (sr (lf (rd 1 eInt a.Seals) rfl fa37_2 rfl rfl st25 (lf (rd 1 eInt b.Seals) rfl fa37_2 rfl rfl st25 (cO (cS (vc (tv (rd 1 eInt a.Seals) rfl) (vc (tv (rd 1 eInt b.Seals) rfl) vn)) (lps rfl) (W_laws_eqIntS (n + 3) a.Seals b.Seals (by first | assumption | omega) (by first | assumption | omega)) rfl rfl) (fO (xnot (tv (tB (decide (a.Seals = b.Seals))) rfl)) (nt ?_))))))))
  refine cn (a.Seals = b.Seals) rfl (fun fhc2 => ?_) fun fhc2 => ?_
  · refine sr ?_
    refine fO (OF.assign (VEv.bool false)) (nt (rt (tr (vb (b' := false) rfl ?_))))
    obtain ⟨a0, a1, a2, a3⟩ := a
    obtain ⟨b0, b1, b2, b3⟩ := b
    simp_all
  refine sk (tn (sq (sr (lf (tI a.Salt) rfl fa37_3 rfl rfl st3 (lf (tI b.Salt) rfl fa37_3 rfl rfl st3 (fO (xne (tv (tI a.Salt) rfl) (tv (tI b.Salt) rfl)) (nt ?_)))))))
  refine cn (a.Salt = b.Salt) rfl (fun fhc3 => ?_) fun fhc3 => ?_
  · refine sr ?_
    refine fO (OF.assign (VEv.bool false)) (nt (rt (tr (vb (b' := false) rfl ?_))))
    obtain ⟨a0, a1, a2, a3⟩ := a
    obtain ⟨b0, b1, b2, b3⟩ := b
    simp_all
  refine sk (tn (sr (fO (OF.assign (VEv.bool true)) (nt (rt (vb (b' := true) rfl ?_))))))
  obtain ⟨a0, a1, a2, a3⟩ := a
  obtain ⟨b0, b1, b2, b3⟩ := b
  simp_all
theorem W_laws_eqSession (n : Nat) (a : D.Session) (b : D.Session) (ha : zSession a ≤ mx) (hb : zSession b ≤ mx) : Pure (acall Tryz.prog (n + 2)) 30 [(T.agg (eSession false a)), (T.agg (eSession false b))] (tB (decide (a = b))) := by
  refine Pure.intro (rs := [ResultVar.tmp 4]) Tryz.func30 rfl rfl rfl (E0 := [(0, (T.agg (eSession false a))), (1, (T.agg (eSession false b)))]) rfl ?_
  obtain ⟨hlim, hmx, hmax⟩ := lims
  simp only [zSession] at ha hb
  have hla_Asked := zL_len (z := zI) a.Asked
  have hlb_Asked := zL_len (z := zI) b.Asked
  refine sr (kO (B.box (ts := (eSession false a)) (tv (T.agg (eSession false a)) rfl) nofun rfl) (kO (B.box (ts := (eSession false b)) (tv (T.agg (eSession false b)) rfl) nofun rfl) (fO (OF.assign (VEv.bool false)) (nt (sq (sr (lf (tS a.Fill) rfl fa56_0 rfl rfl st9 (lf (tS b.Fill) rfl fa56_0 rfl rfl st9 (fO (B.sneq (c := (!(decide (a.Fill = b.Fill)))) (tv (tS a.Fill) rfl) (tv (tS b.Fill) rfl) rfl) (nt ?_))))))))))
  refine cn (a.Fill = b.Fill) rfl (fun fhc0 => ?_) fun fhc0 => ?_
  · refine sr ?_
    refine fO (OF.assign (VEv.bool false)) (nt (rt (tr (vb (b' := false) rfl ?_))))
    obtain ⟨a0, a1, a2, a3, a4, a5⟩ := a
    obtain ⟨b0, b1, b2, b3, b4, b5⟩ := b
    simp_all
  refine sk (tn (sq (sr (lf (tI a.Checks) rfl fa56_1 rfl rfl st3 (lf (tI b.Checks) rfl fa56_1 rfl rfl st3 (fO (xne (tv (tI a.Checks) rfl) (tv (tI b.Checks) rfl)) (nt ?_)))))))
  refine cn (a.Checks = b.Checks) rfl (fun fhc1 => ?_) fun fhc1 => ?_
  · refine sr ?_
    refine fO (OF.assign (VEv.bool false)) (nt (rt (tr (vb (b' := false) rfl ?_))))
    obtain ⟨a0, a1, a2, a3, a4, a5⟩ := a
    obtain ⟨b0, b1, b2, b3, b4, b5⟩ := b
    simp_all
  refine sk (tn (sq (sr (lf (tI a.Spent) rfl fa56_2 rfl rfl st3 (lf (tI b.Spent) rfl fa56_2 rfl rfl st3 (fO (xne (tv (tI a.Spent) rfl) (tv (tI b.Spent) rfl)) (nt ?_)))))))
  refine cn (a.Spent = b.Spent) rfl (fun fhc2 => ?_) fun fhc2 => ?_
  · refine sr ?_
    refine fO (OF.assign (VEv.bool false)) (nt (rt (tr (vb (b' := false) rfl ?_))))
    obtain ⟨a0, a1, a2, a3, a4, a5⟩ := a
    obtain ⟨b0, b1, b2, b3, b4, b5⟩ := b
    simp_all
  refine sk (tn (sq (sr (lf (rd 1 eInt a.Asked) rfl fa56_3 rfl rfl st25 (lf (rd 1 eInt b.Asked) rfl fa56_3 rfl rfl st25 (cO (cS (vc (tv (rd 1 eInt a.Asked) rfl) (vc (tv (rd 1 eInt b.Asked) rfl) vn)) (lps rfl) (W_laws_eqIntS (n + 0) a.Asked b.Asked (by first | assumption | omega) (by first | assumption | omega)) rfl rfl) (fO (xnot (tv (tB (decide (a.Asked = b.Asked))) rfl)) (nt ?_))))))))
  refine cn (a.Asked = b.Asked) rfl (fun fhc3 => ?_) fun fhc3 => ?_
  · refine sr ?_
    refine fO (OF.assign (VEv.bool false)) (nt (rt (tr (vb (b' := false) rfl ?_))))
    obtain ⟨a0, a1, a2, a3, a4, a5⟩ := a
    obtain ⟨b0, b1, b2, b3, b4, b5⟩ := b
    simp_all
  refine sk (tn (sq (sr (lf (tI a.Start) rfl fa56_4 rfl rfl st3 (lf (tI b.Start) rfl fa56_4 rfl rfl st3 (fO (xne (tv (tI a.Start) rfl) (tv (tI b.Start) rfl)) (nt ?_)))))))
  refine cn (a.Start = b.Start) rfl (fun fhc4 => ?_) fun fhc4 => ?_
  · refine sr ?_
    refine fO (OF.assign (VEv.bool false)) (nt (rt (tr (vb (b' := false) rfl ?_))))
    obtain ⟨a0, a1, a2, a3, a4, a5⟩ := a
    obtain ⟨b0, b1, b2, b3, b4, b5⟩ := b
    simp_all
  refine sk (tn (sq (sr (lf (tI a.Now) rfl fa56_5 rfl rfl st3 (lf (tI b.Now) rfl fa56_5 rfl rfl st3 (fO (xne (tv (tI a.Now) rfl) (tv (tI b.Now) rfl)) (nt ?_)))))))
  refine cn (a.Now = b.Now) rfl (fun fhc5 => ?_) fun fhc5 => ?_
  · refine sr ?_
    refine fO (OF.assign (VEv.bool false)) (nt (rt (tr (vb (b' := false) rfl ?_))))
    obtain ⟨a0, a1, a2, a3, a4, a5⟩ := a
    obtain ⟨b0, b1, b2, b3, b4, b5⟩ := b
    simp_all
  refine sk (tn (sr (fO (OF.assign (VEv.bool true)) (nt (rt (vb (b' := true) rfl ?_))))))
  obtain ⟨a0, a1, a2, a3, a4, a5⟩ := a
  obtain ⟨b0, b1, b2, b3, b4, b5⟩ := b
  simp_all
end Go.Proofs.YtcccmceoplcciaaGreat.AE
namespace Go.Proofs.YtcccmceoplcciaaGreat.AE
open Go Go.RowKit
set_option linter.unusedVariables false
set_option linter.unusedSimpArgs false
set_option maxRecDepth 20000
set_option maxHeartbeats 2000000
noncomputable section
theorem allNext {ok : Nat → Prop} {i n : Nat} (h : i ≤ n ∧ ∀ j, j < i → ok j) (hi : i < n) (hk : ok i) : i + 1 ≤ n ∧ ∀ j, j < i + 1 → ok j := by
  refine ⟨hi, fun j hj => ?_⟩
  rcases Nat.lt_or_ge j i with h1 | h1
  · exact h.2 j h1
  · obtain rfl : j = i := by omega
    exact hk
theorem allEnd {ok : Nat → Prop} {i n : Nat} (h : i ≤ n ∧ ∀ j, j < i → ok j) (hi : ¬ i < n) : ∀ j, j < n → ok j := fun j hj => h.2 j (by omega)
theorem same_at {α : Type} {l : List α} {i : Nat} {x y : α} (hx : l[i]? = some x) (hy : l[i]? = some y) : y = x := by
  rw [hx] at hy
  exact (Option.some.inj hy).symm
def isWord (s : ByteArray) : Prop := (1 ≤ s.size ∧ s.size ≤ 8) ∧ ∀ i, i < s.size → 97 ≤ bAt s i ∧ bAt s i ≤ 122
instance (s : ByteArray) : Decidable (isWord s) := Classical.propDecidable _
def ixF {α : Type} (p : α → Prop) [DecidablePred p] : List α → Int
  | [] => -1
  | x :: r => if p x then 0 else if ixF p r < 0 then -1 else ixF p r + 1
theorem ixF_found {α : Type} {p : α → Prop} [DecidablePred p] : ∀ {l : List α} {i : Nat} {x : α}, l[i]? = some x → p x → (∀ j y, j < i → l[j]? = some y → ¬ p y) → ixF p l = i
  | [], i, x, h, _, _ => by simp at h
  | y :: r, 0, x, h, hp, _ => by
    obtain rfl : y = x := by simpa using h
    simp only [ixF, if_pos hp]
    rfl
  | y :: r, i + 1, x, h, hp, hn => by
    have h1 := ixF_found (l := r) (i := i) (by simpa using h) hp (fun j z hj hz => hn (j + 1) z (by omega) (by simpa using hz))
    have h2 : ¬ p y := hn 0 y (by omega) (by simp)
    simp only [ixF, if_neg h2, h1]
    rw [if_neg (by omega)]
    rfl
theorem ixF_none {α : Type} {p : α → Prop} [DecidablePred p] : ∀ {l : List α}, (∀ j y, j < l.length → l[j]? = some y → ¬ p y) → ixF p l = -1
  | [], _ => rfl
  | y :: r, hn => by
    have h1 := ixF_none (l := r) (fun j z hj hz => hn (j + 1) z (by simp; omega) (by simpa using hz))
    have h2 : ¬ p y := hn 0 y (by simp) (by simp)
    simp only [ixF, if_neg h2, h1]
    rfl
theorem ixF_nn {α : Type} {p : α → Prop} [DecidablePred p] : ∀ {l : List α}, 0 ≤ ixF p l ↔ ∃ x ∈ l, p x
  | [] => by simp [ixF]
  | y :: r => by
    have h1 := ixF_nn (p := p) (l := r)
    simp only [ixF, List.mem_cons, exists_eq_or_imp]
    by_cases hy : p y
    · simp [hy]
    · simp only [if_neg hy, hy, false_or]
      rw [← h1]
      by_cases h : ixF p r < 0
      · rw [if_pos h]
        exact ⟨fun h2 => absurd h2 (by decide), fun h2 => by omega⟩
      · rw [if_neg h]
        exact ⟨fun h2 => by omega, fun h2 => by omega⟩
def NoneTo {α : Type} (p : α → Prop) (l : List α) (i : Nat) : Prop := i ≤ l.length ∧ ∀ j y, j < i → l[j]? = some y → ¬ p y
theorem NoneTo.start {α : Type} (p : α → Prop) (l : List α) : NoneTo p l 0 := ⟨Nat.zero_le _, fun j y hj => by omega⟩
theorem NoneTo.next {α : Type} {p : α → Prop} {l : List α} {i : Nat} {x : α} (h : NoneTo p l i) (hx : l[i]? = some x) (hn : ¬ p x) : NoneTo p l (i + 1) := by
  have := (List.getElem?_eq_some_iff.1 hx).1
  refine ⟨by omega, fun j y hj hy => ?_⟩
  rcases Nat.lt_or_ge j i with h1 | h1
  · exact h.2 j y h1 hy
  · obtain rfl : j = i := by omega
    rw [hx] at hy
    exact Option.some.inj hy ▸ hn
theorem NoneTo.all {α : Type} {p : α → Prop} {l : List α} {i : Nat} (h : NoneTo p l i) (hi : ¬ i < l.length) : ∀ j y, j < l.length → l[j]? = some y → ¬ p y := fun j y hj hy => h.2 j y (by omega) hy
theorem NoneTo.mem {α : Type} {p : α → Prop} {l : List α} {i : Nat} (h : NoneTo p l i) (hi : ¬ i < l.length) : ∀ y ∈ l, ¬ p y := fun y hy => by
  obtain ⟨j, hj⟩ := List.getElem?_of_mem hy
  exact h.all hi j y (List.getElem?_eq_some_iff.1 hj).1 hj
end
theorem W_spec_l1In (n : Nat) (a : Int) (b : Int) (c : Int)  : Pure (acall Tryz.prog (n + 1)) 56 [(tI a), (tI b), (tI c)] (tB (decide (b ≤ a ∧ a ≤ c))) := by
  refine Pure.intro (rs := [ResultVar.tmp 6]) Tryz.func56 rfl rfl rfl (E0 := [(0, (tI a)), (1, (tI b)), (2, (tI c))]) rfl ?_
  obtain ⟨hlim, hmx, hmax⟩ := lims
  refine sr (fO (OF.assign (VEv.bool false)) (nt (sr (mO (tI a) rfl (mO (tI b) rfl (fO (xge (tv (tI a) rfl) (tv (tI b) rfl)) (mO (tB (decide (b ≤ a))) rfl ?_)))))))
  refine gw (b ≤ a) (fun fhg10_1 => ?_) fun fhg10_1 => ?_
  · refine gF (dy fhg10_1) rfl rfl (OF.move (tv (tI a) rfl)) ?_
    refine gF (dy fhg10_1) rfl rfl (OF.move (tv (tI c) rfl)) (gF (dy fhg10_1) rfl rfl (xle (tv (tI a) rfl) (tv (tI c) rfl)) (fO (OF.pickT (VEv.tmpB rfl (dy fhg10_1)) (tv (tB (decide (a ≤ c))) rfl)) (aO (tB (decide (a ≤ c))) rfl (nt (rt (vb (b' := (decide (a ≤ c))) rfl ?_))))))
    exact decN (by omega)
  refine offs 3 3 true 10 (dz fhg10_1) rfl rfl rfl (fO (OF.pickF (VEv.tmpB rfl (dz fhg10_1)) (VEv.bool false)) (aO (tB false) rfl (nt (rt (vb (b' := false) rfl ?_)))))
  (symm; rw [decide_eq_false_iff_not]; omega)
theorem W_impl_InRange (n : Nat) (a : Int) (b : Int) (c : Int)  : Pure (acall Tryz.prog (n + 1)) 64 [(tI a), (tI b), (tI c)] (tB (decide (b ≤ a ∧ a ≤ c))) := by
  refine Pure.intro (rs := [ResultVar.tmp 6]) Tryz.func64 rfl rfl rfl (E0 := [(0, (tI a)), (1, (tI b)), (2, (tI c))]) rfl ?_
  obtain ⟨hlim, hmx, hmax⟩ := lims
  refine sr (fO (OF.assign (VEv.bool false)) (nt (sr (mO (tI b) rfl (mO (tI a) rfl (fO (xle (tv (tI b) rfl) (tv (tI a) rfl)) (mO (tB (decide (b ≤ a))) rfl ?_)))))))
  refine gw (b ≤ a) (fun fhg10_1 => ?_) fun fhg10_1 => ?_
  · refine gF (dy fhg10_1) rfl rfl (OF.move (tv (tI a) rfl)) ?_
    refine gF (dy fhg10_1) rfl rfl (OF.move (tv (tI c) rfl)) (gF (dy fhg10_1) rfl rfl (xle (tv (tI a) rfl) (tv (tI c) rfl)) (fO (OF.pickT (VEv.tmpB rfl (dy fhg10_1)) (tv (tB (decide (a ≤ c))) rfl)) (aO (tB (decide (a ≤ c))) rfl (nt (rt (vb (b' := (decide (a ≤ c))) rfl ?_))))))
    exact decN (by omega)
  refine offs 3 3 true 10 (dz fhg10_1) rfl rfl rfl (fO (OF.pickF (VEv.tmpB rfl (dz fhg10_1)) (VEv.bool false)) (aO (tB false) rfl (nt (rt (vb (b' := false) rfl ?_)))))
  (symm; rw [decide_eq_false_iff_not]; omega)
theorem W_impl_isLetter (n : Nat) (a : Int)  : Pure (acall Tryz.prog (n + 1)) 112 [(T.int .u8 a)] (tB (decide (97 ≤ a ∧ a ≤ 122))) := by
  refine Pure.intro (rs := [ResultVar.tmp 2]) Tryz.func112 rfl rfl rfl (E0 := [(0, (T.int .u8 a))]) rfl ?_
  obtain ⟨hlim, hmx, hmax⟩ := lims
  refine sr (fO (OF.assign (VEv.bool false)) (nt (sr (mO (T.int .u8 a) rfl (fO (xge (tv (T.int .u8 a) rfl) (VEv.int .u8 97)) (mO (tB (decide (97 ≤ a))) rfl ?_))))))
  refine gw (97 ≤ a) (fun fhg5_1 => ?_) fun fhg5_1 => ?_
  · refine gF (dy fhg5_1) rfl rfl (OF.move (tv (T.int .u8 a) rfl)) ?_
    refine gF (dy fhg5_1) rfl rfl (xle (tv (T.int .u8 a) rfl) (VEv.int .u8 122)) (fO (OF.pickT (VEv.tmpB rfl (dy fhg5_1)) (tv (tB (decide (a ≤ 122))) rfl)) (aO (tB (decide (a ≤ 122))) rfl (nt (rt (vb (b' := (decide (a ≤ 122))) rfl ?_)))))
    exact decN (by omega)
  refine offs 2 2 true 5 (dz fhg5_1) rfl rfl rfl (fO (OF.pickF (VEv.tmpB rfl (dz fhg5_1)) (VEv.bool false)) (aO (tB false) rfl (nt (rt (vb (b' := false) rfl ?_)))))
  (symm; rw [decide_eq_false_iff_not]; omega)
theorem W_impl_at (n : Nat) (a : Int) (b : Int)  : Pure (acall Tryz.prog (n + 1)) 81 [(tI a), (tI b)] (tB (decide (0 ≤ a ∧ a < b))) := by
  refine Pure.intro (rs := [ResultVar.tmp 4]) Tryz.func81 rfl rfl rfl (E0 := [(0, (tI a)), (1, (tI b))]) rfl ?_
  obtain ⟨hlim, hmx, hmax⟩ := lims
  refine sr (fO (OF.assign (VEv.bool false)) (nt (sr (mO (tI a) rfl (fO (xge (tv (tI a) rfl) (VEv.int .i64 0)) (mO (tB (decide (0 ≤ a))) rfl ?_))))))
  refine gw (0 ≤ a) (fun fhg7_1 => ?_) fun fhg7_1 => ?_
  · refine gF (dy fhg7_1) rfl rfl (OF.move (tv (tI a) rfl)) ?_
    refine gF (dy fhg7_1) rfl rfl (OF.move (tv (tI b) rfl)) (gF (dy fhg7_1) rfl rfl (xls (tv (tI a) rfl) (tv (tI b) rfl)) (fO (OF.pickT (VEv.tmpB rfl (dy fhg7_1)) (tv (tB (decide (a < b))) rfl)) (aO (tB (decide (a < b))) rfl (nt (rt (vb (b' := (decide (a < b))) rfl ?_))))))
    exact decN (by omega)
  refine offs 3 2 true 7 (dz fhg7_1) rfl rfl rfl (fO (OF.pickF (VEv.tmpB rfl (dz fhg7_1)) (VEv.bool false)) (aO (tB false) rfl (nt (rt (vb (b' := false) rfl ?_)))))
  (symm; rw [decide_eq_false_iff_not]; omega)
theorem W_spec_IsWord (n : Nat) (a : ByteArray) (ha : a.size ≤ maxLen) : Pure (acall Tryz.prog (n + 2)) 146 [(tS a)] (tB (decide (isWord a))) := by
  refine Pure.intro (rs := [ResultVar.tmp 2]) Tryz.func146 rfl rfl rfl (E0 := [(0, (tS a))]) rfl ?_
  obtain ⟨hlim, hmx, hmax⟩ := lims
  refine sr (fO (OF.assign (VEv.bool false)) (nt (sq (sr (mO (tS a) rfl (lO (B.lenS (tv (tS a) rfl) U9) (cO (cS (vc (tv (tN a.size) rfl) (vc (VEv.int .i64 1) (vc (VEv.int .i64 8) vn))) (lps rfl) (W_spec_l1In (n + 0) ((a.size : Nat) : Int) 1 8 ) rfl rfl) (fO (xnot (tv (tB (decide (1 ≤ ((a.size : Nat) : Int) ∧ ((a.size : Nat) : Int) ≤ 8))) rfl)) (nt ?_)))))))))
  refine cn (1 ≤ ((a.size : Nat) : Int) ∧ ((a.size : Nat) : Int) ≤ 8) rfl (fun fhc0 => ?_) fun fhc0 => ?_
  · refine sr ?_
    refine fO (OF.assign (VEv.bool false)) (nt (rt (tr (vb (b' := false) rfl ?_))))
    symm; rw [decide_eq_false_iff_not]; rintro ⟨h1, _⟩; omega
  refine sk (tn (sq (sr (fO (OF.assign (VEv.int .i64 0)) (nt (VRun.block ?_))))))
  refine VRun.loop (A := Nat) (fun s_ => [(0, (tS a)), (3, (tN s_))]) (fun s_ => mkO []) 0 (fun s_ => s_ ≤ a.size ∧ ∀ j, j < s_ → 97 ≤ bAt a j ∧ bAt a j ≤ 122) (fun s_ => a.size - s_) (0 : Nat) ?_ (Wk.mk (fun k => k) ?_ ?_ ?_) ?_
  · exact ⟨Nat.zero_le _, fun j hj => by omega⟩
  · exact (b2 (b2 bn))
  · exact bn
  · exact nd rfl
  rintro i (hI' : i ≤ a.size ∧ ∀ j, j < i → 97 ≤ bAt a j ∧ bAt a j ≤ 122)
  show VRun _ _ _ [(0, (tS a)), (3, (tN i))] (mkO []) 0 _
  refine sq (sr (mO (tN i) rfl (mO (tS a) rfl (lO (B.lenS (tv (tS a) rfl) U9) (fO (xls' (tv (tN i) rfl) (tv (tN a.size) rfl)) (nt ?_))))))
  refine cd (i < a.size) rfl (fun fhc1 => ?_) fun fhc1 => ?_
  · refine sk ?_
    refine tn (sq (VRun.block (sr (mO (tS a) rfl (mO (tN i) rfl ?_)))))
    have hb1 : i < a.size := (by omega)
    refine fO (xix (tv (tS a) rfl) (tv (tN i) rfl) hb1 U9) (fO (xls (tv (T.int .u8 (bAt a i)) rfl) (VEv.int .u8 97)) (mO (tB (decide (bAt a i < 97))) rfl ?_))
    refine gw (bAt a i < 97) (fun fhg18_2 => ?_) fun fhg18_2 => ?_
    · refine offs 4 4 false 18 (dy fhg18_2) rfl rfl rfl ?_
      refine fO (OF.pickT (VEv.tmpB rfl (dy fhg18_2)) (VEv.bool true)) (nt (ct rfl (sr (fO (OF.assign (VEv.bool false)) (nt (rt (vinB.r (tr (tr (vinB.r (tr ?_)))))))))))
      refine vb (b' := false) rfl ?_
      symm; rw [decide_eq_false_iff_not]; rintro ⟨_, h2⟩; have := h2 i fhc1; omega
    refine gF (dz fhg18_2) rfl rfl (OF.move (tv (tS a) rfl)) (gF (dz fhg18_2) rfl rfl (OF.move (tv (tN i) rfl)) ?_)
    have hb3 : i < a.size := (by omega)
    refine gF (dz fhg18_2) rfl rfl (xix (tv (tS a) rfl) (tv (tN i) rfl) hb3 U9) (gF (dz fhg18_2) rfl rfl (xgt (tv (T.int .u8 (bAt a i)) rfl) (VEv.int .u8 122)) (fO (OF.pickF (VEv.tmpB rfl (dz fhg18_2)) (tv (tB (decide (122 < bAt a i))) rfl)) (nt ?_)))
    refine cd (122 < bAt a i) rfl (fun fhc2 => ?_) fun fhc2 => ?_
    · refine sr ?_
      refine fO (OF.assign (VEv.bool false)) (nt (rt (vinB.r (tr (tr (vinB.r (tr (vb (b' := false) rfl ?_))))))))
      symm; rw [decide_eq_false_iff_not]; rintro ⟨_, h2⟩; have := h2 i fhc1; omega
    refine sk (vinB.n (tn (VRun.region (mO (tN i) rfl (fO (xinc (tv (tN i) rfl) (VEv.int .i64 1) (by omega)) (aO (tN (i + 1)) rfl (VRunO.nil (tn ?_))))))))
    refine ⟨(i + 1 : Nat), ?_, ?_, Wk.mk (fun k => k) ?_ ?_ ?_⟩
    · exact allNext (ok := fun j => 97 ≤ bAt a j ∧ bAt a j ≤ 122) hI' fhc1 (by omega)
    · omega
    · exact (b2 (b2 bn))
    · exact bn
    · exact nd rfl
  refine VRun.exit (vthn.e (vthn.e (vinB.e (tn (sr (fO (OF.assign (VEv.bool true)) (nt (rt (vb (b' := true) rfl ?_)))))))))
  symm; rw [decide_eq_true_eq]; exact ⟨by omega, allEnd hI' fhc1⟩
theorem W_impl_IsWord (n : Nat) (a : ByteArray) (ha : a.size ≤ maxLen) : Pure (acall Tryz.prog (n + 2)) 150 [(tS a)] (tB (decide (isWord a))) := by
  refine Pure.intro (rs := [ResultVar.tmp 2]) Tryz.func150 rfl rfl rfl (E0 := [(0, (tS a))]) rfl ?_
  obtain ⟨hlim, hmx, hmax⟩ := lims
  refine sr (fO (OF.assign (VEv.bool false)) (nt (sq (sr (mO (tS a) rfl (lO (B.lenS (tv (tS a) rfl) U9) (cO (cS (vc (tv (tN a.size) rfl) (vc (VEv.int .i64 1) (vc (VEv.int .i64 8) vn))) (lps rfl) (W_impl_InRange (n + 0) ((a.size : Nat) : Int) 1 8 ) rfl rfl) (fO (xnot (tv (tB (decide (1 ≤ ((a.size : Nat) : Int) ∧ ((a.size : Nat) : Int) ≤ 8))) rfl)) (nt ?_)))))))))
  refine cn (1 ≤ ((a.size : Nat) : Int) ∧ ((a.size : Nat) : Int) ≤ 8) rfl (fun fhc0 => ?_) fun fhc0 => ?_
  · refine sr ?_
    refine fO (OF.assign (VEv.bool false)) (nt (rt (tr (vb (b' := false) rfl ?_))))
    symm; rw [decide_eq_false_iff_not]; rintro ⟨h1, _⟩; omega
  refine sk (tn (sq (sr (mO (tS a) rfl (lO (B.lenS (tv (tS a) rfl) U9) (fO (OF.move (VEv.int .i64 0)) (nt (VRun.block ?_))))))))
  refine VRun.loop (A := Nat) (fun s_ => [(0, (tS a)), (9, (tN a.size)), (10, (tN s_))]) (fun s_ => mkO []) 0 (fun s_ => s_ ≤ a.size ∧ ∀ j, j < s_ → 97 ≤ bAt a j ∧ bAt a j ≤ 122) (fun s_ => a.size - s_) (0 : Nat) ?_ (Wk.mk (fun k => k) ?_ ?_ ?_) ?_
  · exact ⟨Nat.zero_le _, fun j hj => by omega⟩
  · exact (b2 (b2 (b2 bn)))
  · exact bn
  · exact nd rfl
  rintro i (hI' : i ≤ a.size ∧ ∀ j, j < i → 97 ≤ bAt a j ∧ bAt a j ≤ 122)
  show VRun _ _ _ [(0, (tS a)), (9, (tN a.size)), (10, (tN i))] (mkO []) 0 _
  refine sr (fO (xls' (tv (tN i) rfl) (tv (tN a.size) rfl)) (nt (sq ?_)))
  refine cd (i < a.size) rfl (fun fhc1 => ?_) fun fhc1 => ?_
  · refine sk ?_
    refine tn (sq (VRun.block (sr (mO (tN i) rfl (aO (tN i) rfl (nt (sr (mO (tS a) rfl (mO (tN i) rfl ?_)))))))))
    have hb1 : i < a.size := (by omega)
    refine fO (xix (tv (tS a) rfl) (tv (tN i) rfl) hb1 U9) (cO (cS (vc (tv (T.int .u8 (bAt a i)) rfl) vn) (lps rfl) (W_impl_isLetter (n + 0) (bAt a i) ) rfl rfl) (fO (xnot (tv (tB (decide (97 ≤ (bAt a i) ∧ (bAt a i) ≤ 122))) rfl)) (nt ?_)))
    refine cn (97 ≤ (bAt a i) ∧ (bAt a i) ≤ 122) rfl (fun fhc2 => ?_) fun fhc2 => ?_
    · refine sr ?_
      refine fO (OF.assign (VEv.bool false)) (nt (rt (vinB.r (tr (tr (vinB.r (tr (vb (b' := false) rfl ?_))))))))
      symm; rw [decide_eq_false_iff_not]; rintro ⟨_, h2⟩; have := h2 i fhc1; omega
    refine sk (vinB.n (tn (VRun.region (fO (xinc (tv (tN i) rfl) (VEv.int .i64 1) (by omega)) (mO (tN (i + 1)) rfl (VRunO.nil (tn ?_)))))))
    refine ⟨(i + 1 : Nat), ?_, ?_, Wk.mk (fun k => k) ?_ ?_ ?_⟩
    · exact allNext (ok := fun j => 97 ≤ bAt a j ∧ bAt a j ≤ 122) hI' fhc1 (by omega)
    · omega
    · exact (b2 (b2 (b2 bn)))
    · exact bn
    · exact nd rfl
  refine VRun.exit (vthn.e (vthn.e (vinB.e (tn (sr (fO (OF.assign (VEv.bool true)) (nt (rt (vb (b' := true) rfl ?_)))))))))
  symm; rw [decide_eq_true_eq]; exact ⟨by omega, allEnd hI' fhc1⟩
end Go.Proofs.YtcccmceoplcciaaGreat.AE
namespace Go.Proofs.YtcccmceoplcciaaGreat.AE
open Go Go.RowKit
set_option linter.unusedVariables false
set_option linter.unusedSimpArgs false
set_option maxRecDepth 20000
set_option maxHeartbeats 2000000
noncomputable section
def two (k : Int) : Prop := k = 4 ∨ k = 5
def stepOk (l : List D.Step) (j : Nat) : Prop := ∃ x, l[j]? = some x ∧ (1 ≤ x.Kind ∧ x.Kind ≤ 9) ∧ (x.Kind = 1 → isWord x.Word ∧ x.A = 0 ∧ x.B = 0) ∧
  (¬ x.Kind = 1 → x.Word = (⟨#[]⟩ : ByteArray) ∧ (0 ≤ x.A ∧ x.A < (j : Int)) ∧ (two x.Kind → 0 ≤ x.B ∧ x.B < (j : Int)) ∧ (¬ two x.Kind → x.B = 0) ∧ (¬ two x.Kind → ¬ x.Kind = 2 → ∃ y, l[x.A.toNat]? = some y ∧ y.Kind = 1))
instance (l : List D.Step) (j : Nat) : Decidable (stepOk l j) := Classical.propDecidable _
def isPlay (l : List D.Step) : Prop := (1 ≤ l.length ∧ l.length ≤ 9) ∧ ∀ j, j < l.length → stepOk l j
instance (l : List D.Step) : Decidable (isPlay l) := Classical.propDecidable _
def stepP (l : List D.Step) (j : Nat) (x : D.Step) : Prop := (1 ≤ x.Kind ∧ x.Kind ≤ 9) ∧ (x.Kind = 1 → isWord x.Word ∧ x.A = 0 ∧ x.B = 0) ∧
  (¬ x.Kind = 1 → x.Word = (⟨#[]⟩ : ByteArray) ∧ (0 ≤ x.A ∧ x.A < (j : Int)) ∧ (two x.Kind → 0 ≤ x.B ∧ x.B < (j : Int)) ∧ (¬ two x.Kind → x.B = 0) ∧ (¬ two x.Kind → ¬ x.Kind = 2 → ∃ y, l[x.A.toNat]? = some y ∧ y.Kind = 1))
theorem stepOk_iff {l : List D.Step} {j : Nat} {x : D.Step} (hx : l[j]? = some x) : stepOk l j ↔ stepP l j x := by
  constructor
  · rintro ⟨y, hy, h⟩
    obtain rfl := same_at hx hy
    exact h
  · intro h
    exact ⟨x, hx, h⟩
theorem exAt {l : List D.Step} {k : Nat} {y : D.Step} (hy : l[k]? = some y) : (∃ z, l[k]? = some z ∧ z.Kind = 1) ↔ y.Kind = 1 := by
  constructor
  · rintro ⟨z, hz, h⟩
    obtain rfl := same_at hy hz
    exact h
  · intro h
    exact ⟨y, hy, h⟩
theorem l15_a {l : List D.Step} {j : Nat} {x y : D.Step} (hx : l[j]? = some x) (hy : l[x.A.toNat]? = some y) (h1 : 1 ≤ x.Kind ∧ x.Kind ≤ 9) (h2 : ¬ x.Kind = 1) (h3 : x.Word = (⟨#[]⟩ : ByteArray)) (h4 : 0 ≤ x.A ∧ x.A < (j : Int)) (h5 : x.B = 0) (h6 : ¬ two x.Kind) (h7 : ¬ x.Kind = 2) : decide (y.Kind = 1) = decide (stepOk l j) := by
  refine decN ?_
  rw [stepOk_iff hx]
  simp only [stepP, exAt hy]
  exact ⟨fun h => ⟨h1, fun hk => absurd hk h2, fun _ => ⟨h3, h4, fun h => absurd h h6, fun _ => h5, fun _ _ => h⟩⟩, fun h => (h.2.2 h2).2.2.2.2 h6 h7⟩
theorem l15_b {l : List D.Step} {j : Nat} {x : D.Step} (hx : l[j]? = some x) (h1 : 1 ≤ x.Kind ∧ x.Kind ≤ 9) (h2 : x.Kind = 1) (h3 : isWord x.Word) (h4 : x.A = 0) : decide (x.B = 0) = decide (stepOk l j) := by
  refine decN ?_
  rw [stepOk_iff hx]
  simp only [stepP]
  exact ⟨fun h => ⟨h1, fun _ => ⟨h3, h4, h⟩, fun hk => absurd h2 hk⟩, fun h => (h.2.1 h2).2.2⟩
theorem not_isWord0 : ¬ isWord (⟨#[]⟩ : ByteArray) := fun h => absurd h.1.1 (by decide)
end
theorem W_impl_needsWord (n : Nat) (a : Int)  : Pure (acall Tryz.prog (n + 1)) 163 [(tI a)] (tB (decide (a = 3 ∨ 6 ≤ a))) := by
  refine Pure.intro (rs := [ResultVar.tmp 2]) Tryz.func163 rfl rfl rfl (E0 := [(0, (tI a))]) rfl ?_
  obtain ⟨hlim, hmx, hmax⟩ := lims
  refine sr (fO (OF.assign (VEv.bool false)) (nt (sr (mO (tI a) rfl (fO (xeq (tv (tI a) rfl) (VEv.int .i64 3)) (mO (tB (decide (a = 3))) rfl ?_))))))
  refine gw (a = 3) (fun fhg5_1 => ?_) fun fhg5_1 => ?_
  · refine offs 2 2 false 5 (dy fhg5_1) rfl rfl rfl ?_
    refine fO (OF.pickT (VEv.tmpB rfl (dy fhg5_1)) (VEv.bool true)) (aO (tB true) rfl (nt (rt (vb (b' := true) rfl ?_))))
    (symm; rw [decide_eq_true_eq]; omega)
  refine gF (dz fhg5_1) rfl rfl (OF.move (tv (tI a) rfl)) (gF (dz fhg5_1) rfl rfl (xge (tv (tI a) rfl) (VEv.int .i64 6)) (fO (OF.pickF (VEv.tmpB rfl (dz fhg5_1)) (tv (tB (decide (6 ≤ a))) rfl)) (aO (tB (decide (6 ≤ a))) rfl (nt (rt (vb (b' := (decide (6 ≤ a))) rfl ?_))))))
  exact decN (by omega)
theorem W_impl_isPair (n : Nat) (a : Int)  : Pure (acall Tryz.prog (n + 1)) 164 [(tI a)] (tB (decide (a = 4 ∨ a = 5))) := by
  refine Pure.intro (rs := [ResultVar.tmp 2]) Tryz.func164 rfl rfl rfl (E0 := [(0, (tI a))]) rfl ?_
  obtain ⟨hlim, hmx, hmax⟩ := lims
  refine sr (fO (OF.assign (VEv.bool false)) (nt (sr (mO (tI a) rfl (fO (xeq (tv (tI a) rfl) (VEv.int .i64 4)) (mO (tB (decide (a = 4))) rfl ?_))))))
  refine gw (a = 4) (fun fhg5_1 => ?_) fun fhg5_1 => ?_
  · refine offs 2 2 false 5 (dy fhg5_1) rfl rfl rfl ?_
    refine fO (OF.pickT (VEv.tmpB rfl (dy fhg5_1)) (VEv.bool true)) (aO (tB true) rfl (nt (rt (vb (b' := true) rfl ?_))))
    (symm; rw [decide_eq_true_eq]; omega)
  refine gF (dz fhg5_1) rfl rfl (OF.move (tv (tI a) rfl)) (gF (dz fhg5_1) rfl rfl (xeq (tv (tI a) rfl) (VEv.int .i64 5)) (fO (OF.pickF (VEv.tmpB rfl (dz fhg5_1)) (tv (tB (decide (a = 5))) rfl)) (aO (tB (decide (a = 5))) rfl (nt (rt (vb (b' := (decide (a = 5))) rfl ?_))))))
  exact decN (by omega)
theorem W_spec_l15Ok (n : Nat) (a : List D.Step) (i : Nat) (hz : zL zStep a ≤ mx) (hi : i < a.length) : Pure (acall Tryz.prog (n + 3)) 153 [(rd 4 eStep a), (tN i)] (tB (decide (stepOk a i))) := by
  refine Pure.intro (rs := [ResultVar.tmp 4]) Tryz.func153 rfl rfl rfl (E0 := [(0, (rd 4 eStep a)), (1, (tN i))]) rfl ?_
  obtain ⟨hlim, hmx, hmax⟩ := lims
  have ha := zL_len (z := zStep) a
  have hw : ∀ x ∈ a, x.Word.size ≤ maxLen := fun x hx => by have h1 := zL_mem (z := zStep) hx; simp only [zStep] at h1; omega
  refine sr (fO (OF.assign (VEv.bool false)) (nt (sr (mO (rd 4 eStep a) rfl (mO (tN i) rfl ?_)))))
  obtain ⟨x1, hx1⟩ : ∃ x, a[i]? = some x := ⟨_, List.getElem?_eq_getElem (by omega)⟩
  refine fO (OF.indexAddrR (row := (eStep false x1)) (i := i) (tv (rd 4 eStep a) rfl) (tv (tN i) rfl) rfl (map_at _ hx1) U81 sz121 if121) (lO (OL.loadRn (us := (eStep false x1)) (tv (T.rp (eStep false x1)) rfl) st121 sz121 (lb rfl) rfl) (kO (B.alloc (t := (T.agg [(tN 0), (tS ByteArray.empty), (tN 0), (tN 0)])) (ts := [(tN 0), (tS ByteArray.empty), (tN 0), (tN 0)]) zo121 zc121 nofun (fun _ => .agg _ _ rfl (RLof (RL.cons (.int _ _) (RL.cons (.str _) (RL.cons (.int _ _) (RL.cons (.int _ _) (RL.nil _))))))) rfl) (cO (B.storeO (us := (eStep false x1)) (ws := (eStep false x1)) (tv (T.op 0 0) rfl) (tv (T.agg (eStep false x1)) rfl) nofun rfl rfl (lb rfl) if121 sz121 (bc rfl (bc rfl (bc rfl (bc rfl bn)))) rfl) (nt (sq (sq (VRun.draw (B := [[], [0], [0, 1], [1, 0, 2], [2, 0, 1, 3], [3, 1, 0, 2, 4], [4, 2, 0, 1, 3, 5], [5, 3, 1, 0, 2, 4, 6], [3, 1, 0, 2, 4], [4, 2, 0, 1, 3, 8], [8, 3, 1, 0, 2, 4, 9], [9, 8, 10, 6, 4, 2, 0, 1, 3, 5, 7], [7, 5, 6, 10, 8, 9, 11, 3, 1, 0, 2, 4], [4, 2, 0, 1, 3, 11, 9, 8, 10, 6, 5, 7, 12], [12, 7, 5, 6, 10, 8, 9, 11, 3, 1, 0, 2, 4, 13], [13, 4, 2, 0, 1, 3, 11, 9, 8, 10, 6, 5, 7, 12, 14], [14, 12, 7, 5, 6, 10, 8, 9, 11, 3, 1, 0, 2, 4, 13, 15], [15, 13, 4, 2, 0, 1, 3, 11, 9, 8, 10, 6, 5, 7, 12, 14, 16], [16, 14, 12, 7, 5, 6, 10, 8, 9, 11, 3, 1, 0, 2, 4, 13, 15, 17], [17, 15, 13, 4, 2, 0, 1, 3, 11, 9, 8, 10, 6, 5, 7, 12, 14, 16, 18], [18, 16, 14, 12, 7, 5, 6, 10, 8, 9, 11, 3, 1, 0, 2, 4, 13, 15, 17, 19], [19, 18, 20, 16, 14, 12, 7, 5, 6, 10, 8, 9, 11, 3, 1, 0, 2, 4, 13, 15, 17], [17, 15, 14, 16, 20, 18, 19, 21, 12, 7, 5, 6, 10, 8, 9, 11, 3, 1, 0, 2, 4, 13]]) (by kernel_rfl) (by kernel_rfl) (fD (OF.fieldAddrO (tv (T.op 0 0) rfl) fa121_0) rfl rfl (lD (OL.loadO1 (t := (tI x1.Kind)) (tv (T.op 0 0) rfl) rfl rfl st3) rfl rfl (VRunD.quiet (bi := [0, 1]) rfl VWant.always rfl rfl rfl bn (cS (vc (tv (tI x1.Kind) rfl) (vc (VEv.int .i64 1) (vc (VEv.int .i64 9) vn))) (lps rfl) (W_spec_l1In (n + 1) x1.Kind 1 9 ) rfl rfl) (fD (xnot (tv (tB (decide (1 ≤ x1.Kind ∧ x1.Kind ≤ 9))) rfl)) rfl rfl ?_)))))))))))
  refine mD (tB (!(decide (1 ≤ x1.Kind ∧ x1.Kind ≤ 9)))) rfl rfl ?_
  refine gn (1 ≤ x1.Kind ∧ x1.Kind ≤ 9) (fun fhg15_1 => ?_) fun fhg15_1 => ?_
  · refine oD rfl rfl (ny fhg15_1) rfl ?_
    refine oD rfl rfl (ny fhg15_1) rfl (oD rfl rfl (ny fhg15_1) rfl (oD rfl rfl (ny fhg15_1) rfl (oD rfl rfl (ny fhg15_1) rfl (oD rfl rfl (ny fhg15_1) rfl (oD rfl rfl (ny fhg15_1) rfl (fD (OF.pickT (VEv.tmpB rfl (ny fhg15_1)) (VEv.bool true)) rfl rfl (mD (tB true) rfl rfl (VRunD.off rfl (VWant.not (b := true) rfl rfl rfl) (VRunD.off rfl (VWant.not (b := true) rfl rfl rfl) (VRunD.off rfl (VWant.not (b := true) rfl rfl rfl) (VRunD.off rfl (VWant.not (b := true) rfl rfl rfl) ?_)))))))))))
    refine uD rfl rfl rfl (uD rfl rfl rfl (uD rfl rfl rfl (VRunD.off rfl (VWant.not (b := true) rfl rfl rfl) (fD (OF.pickT (tv (tB true) rfl) (VEv.bool true)) rfl rfl (VRunD.nil (tn (ct rfl (sr (fO (OF.assign (VEv.bool false)) (nt (rt ?_)))))))))))
    refine tr (vb (b' := false) rfl ?_)
    (symm; rw [decide_eq_false_iff_not, stepOk_iff hx1]; rintro ⟨h1, h2, h3⟩; by_cases hk : x1.Kind = 1 <;> simp only [hk, two] at * <;> omega)
  refine VRunD.free rfl (VWant.on rfl rfl (nz fhg15_1)) rfl (OF.fieldAddrO (tv (T.op 0 0) rfl) fa121_0) (VRunD.look rfl (VWant.on rfl rfl (nz fhg15_1)) rfl (OL.loadO1 (t := (tI x1.Kind)) (tv (T.op 0 0) rfl) rfl rfl st3) (VRunD.free rfl (VWant.on rfl rfl (nz fhg15_1)) rfl (xeq (tv (tI x1.Kind) rfl) (VEv.int .i64 1)) (VRunD.free rfl (VWant.on rfl rfl (nz fhg15_1)) rfl (OF.fieldAddrO (tv (T.op 0 0) rfl) fa121_1) (VRunD.look rfl (VWant.on rfl rfl (nz fhg15_1)) rfl (OL.loadO1 (t := (tS x1.Word)) (tv (T.op 0 1) rfl) rfl rfl st9) (VRunD.quiet (bi := [8, 3, 1, 0, 2, 4, 9]) rfl (VWant.on rfl rfl (nz fhg15_1)) rfl rfl rfl bn (cS (vc (tv (tS x1.Word) rfl) vn) (lps rfl) (W_spec_IsWord (n + 0) x1.Word (by exact hw _ (List.mem_of_getElem? hx1))) rfl rfl) (VRunD.free rfl (VWant.on rfl rfl (nz fhg15_1)) rfl (B.bneq U4 (c := (!((decide (x1.Kind = 1)) == (decide (isWord x1.Word))))) (tv (tB (decide (x1.Kind = 1))) rfl) (tv (tB (decide (isWord x1.Word))) rfl) rfl) (fD (OF.pickF (VEv.tmpB rfl (nz fhg15_1)) (tv (tB (!((decide (x1.Kind = 1)) == (decide (isWord x1.Word))))) rfl)) rfl rfl (mD (tB (!((decide (x1.Kind = 1)) == (decide (isWord x1.Word))))) rfl rfl ?_))))))))
  refine bool_way (!((decide (x1.Kind = 1)) == (decide (isWord x1.Word)))) (fun hg24_2 => ?_) (fun hg24_2 => ?_)
  · have fhg24_2 : (!((decide (x1.Kind = 1)) == (decide (isWord x1.Word)))) = true := hg24_2
    refine oD rfl rfl hg24_2 rfl (oD rfl rfl hg24_2 rfl (oD rfl rfl hg24_2 rfl (oD rfl rfl hg24_2 rfl (uD rfl rfl rfl (uD rfl rfl rfl (uD rfl rfl rfl (oD rfl rfl hg24_2 rfl (fD (OF.pickT (VEv.tmpB rfl hg24_2) (VEv.bool true)) rfl rfl (VRunD.nil (tn (ct rfl ?_)))))))))))
    refine sr (fO (OF.assign (VEv.bool false)) (nt (rt (tr (vb (b' := false) rfl ?_)))))
    (symm; rw [decide_eq_false_iff_not, stepOk_iff hx1]; rintro ⟨h1, h2, h3⟩; by_cases hk : x1.Kind = 1 <;> simp only [hk, two] at * <;> (simp_all [not_isWord0]; done))
  have fhg24_2 : (!((decide (x1.Kind = 1)) == (decide (isWord x1.Word)))) = false := hg24_2
  refine VRunD.free rfl (VWant.on rfl rfl hg24_2) rfl (OF.fieldAddrO (tv (T.op 0 0) rfl) fa121_0) (VRunD.look rfl (VWant.on rfl rfl hg24_2) rfl (OL.loadO1 (t := (tI x1.Kind)) (tv (T.op 0 0) rfl) rfl rfl st3) (VRunD.free rfl (VWant.on rfl rfl hg24_2) rfl (xne (tv (tI x1.Kind) rfl) (VEv.int .i64 1)) (VRunD.free rfl (VWant.on rfl rfl hg24_2) rfl (OF.move (tv (tB (!(decide (x1.Kind = 1)))) rfl)) ?_)))
  refine gn (x1.Kind = 1) (fun fhg28_3 => ?_) fun fhg28_3 => ?_
  · refine VRunD.free rfl (VWant.on rfl rfl (ny fhg28_3)) rfl (OF.fieldAddrO (tv (T.op 0 0) rfl) fa121_1) ?_
    refine VRunD.look rfl (VWant.on rfl rfl (ny fhg28_3)) rfl (OL.loadO1 (t := (tS x1.Word)) (tv (T.op 0 1) rfl) rfl rfl st9) (VRunD.free rfl (VWant.on rfl rfl (ny fhg28_3)) rfl (B.sneq (c := (!(decide (x1.Word = (⟨#[]⟩ : ByteArray))))) (tv (tS x1.Word) rfl) (VEv.str (⟨#[]⟩ : ByteArray)) rfl) (VRunD.free rfl (VWant.on rfl rfl hg24_2) rfl (OF.pickT (VEv.tmpB rfl (ny fhg28_3)) (tv (tB (!(decide (x1.Word = (⟨#[]⟩ : ByteArray))))) rfl)) (fD (OF.pickF (VEv.tmpB rfl hg24_2) (tv (tB (!(decide (x1.Word = (⟨#[]⟩ : ByteArray))))) rfl)) rfl rfl (VRunD.nil (tn ?_)))))
    refine cn (x1.Word = (⟨#[]⟩ : ByteArray)) rfl (fun fhc0 => ?_) fun fhc0 => ?_
    · refine sr ?_
      refine fO (OF.assign (VEv.bool false)) (nt (rt (tr (vb (b' := false) rfl ?_))))
      (symm; rw [decide_eq_false_iff_not, stepOk_iff hx1]; rintro ⟨h1, h2, h3⟩; by_cases hk : x1.Kind = 1 <;> simp only [hk, two] at * <;> (simp_all [not_isWord0]; done))
    refine sk (tn (sr (lf (tI x1.Kind) rfl fa121_0 rfl rfl st3 (fO (xeq (tv (tI x1.Kind) rfl) (VEv.int .i64 4)) (mO (tB (decide (x1.Kind = 4))) rfl ?_)))))
    refine gw (x1.Kind = 4) (fun fhg37_4 => ?_) fun fhg37_4 => ?_
    · refine offs 3 3 false 37 (dy fhg37_4) rfl rfl rfl ?_
      refine fO (OF.pickT (VEv.tmpB rfl (dy fhg37_4)) (VEv.bool true)) (aO (tB true) rfl (nt (sq (sr (lf (tI x1.Kind) rfl fa121_0 rfl rfl st3 (fO (xeq (tv (tI x1.Kind) rfl) (VEv.int .i64 1)) (nt (cg (dz fhg28_3) rfl (sk (tn (sq ?_)))))))))))
      refine sr (lf (tI x1.A) rfl fa121_2 rfl rfl st3 (mO (tN i) rfl (fO (B.sub (n := (((i : Nat) : Int) - 1)) (tv (tN i) rfl) (VEv.int .i64 1) (by (rw [wrap64 (by omega)]; done))) (cO (cS (vc (tv (tI x1.A) rfl) (vc (VEv.int .i64 0) (vc (tv (tI (((i : Nat) : Int) - 1)) rfl) vn))) (lps rfl) (W_spec_l1In (n + 1) x1.A 0 (((i : Nat) : Int) - 1) ) rfl rfl) (fO (xnot (tv (tB (decide (0 ≤ x1.A ∧ x1.A ≤ (((i : Nat) : Int) - 1)))) rfl)) (mO (tB (!(decide (0 ≤ x1.A ∧ x1.A ≤ (((i : Nat) : Int) - 1))))) rfl ?_))))))
      refine gn (0 ≤ x1.A ∧ x1.A ≤ (((i : Nat) : Int) - 1)) (fun fhg59_5 => ?_) fun fhg59_5 => ?_
      · refine offs 2 6 false 59 (ny fhg59_5) rfl rfl rfl ?_
        refine offu 6 8 true 61 rfl rfl rfl (oO rfl rfl (ny fhg59_5) (fO (OF.pickT (VEv.tmpB rfl (ny fhg59_5)) (VEv.bool true)) (mO (tB true) rfl (offs 3 17 false 70 (b := true) rfl rfl rfl rfl (offu 3 20 true 73 rfl rfl rfl (VRunO.off (VWant.not (b := true) rfl rfl rfl) (fO (OF.pickT (tv (tB true) rfl) (VEv.bool true)) (nt (ct rfl (sr (fO (OF.assign (VEv.bool false)) ?_)))))))))))
        refine nt (rt (tr (vb (b' := false) rfl ?_)))
        (symm; rw [decide_eq_false_iff_not, stepOk_iff hx1]; rintro ⟨h1, h2, h3⟩; by_cases hk : x1.Kind = 1 <;> simp only [hk, two] at * <;> first | omega | (simp_all [not_isWord0]; omega))
      refine gF (nz fhg59_5) rfl rfl (OF.move (tv (tB true) rfl)) (gF (nz fhg59_5) rfl rfl (OF.move (tv (tB true) rfl)) (VRunO.free (VWant.on (b := true) rfl rfl rfl) (OF.fieldAddrO (tv (T.op 0 0) rfl) fa121_3) (VRunO.look (VWant.on (b := true) rfl rfl rfl) (OL.loadO1 (t := (tI x1.B)) (tv (T.op 0 3) rfl) rfl rfl st3) (VRunO.free (VWant.on (b := true) rfl rfl rfl) (OF.move (tv (tN i) rfl)) (VRunO.free (VWant.on (b := true) rfl rfl rfl) (B.sub (n := (((i : Nat) : Int) - 1)) (tv (tN i) rfl) (VEv.int .i64 1) (by (rw [wrap64 (by omega)]; done))) (VRunO.chain (VWant.on (b := true) rfl rfl rfl) (cS (vc (tv (tI x1.B) rfl) (vc (VEv.int .i64 0) (vc (tv (tI (((i : Nat) : Int) - 1)) rfl) vn))) (lps rfl) (W_spec_l1In (n + 1) x1.B 0 (((i : Nat) : Int) - 1) ) rfl rfl) (VRunO.free (VWant.on (b := true) rfl rfl rfl) (xnot (tv (tB (decide (0 ≤ x1.B ∧ x1.B ≤ (((i : Nat) : Int) - 1)))) rfl)) (gF (nz fhg59_5) rfl rfl (OF.pickT (tv (tB true) rfl) (tv (tB (!(decide (0 ≤ x1.B ∧ x1.B ≤ (((i : Nat) : Int) - 1))))) rfl)) (fO (OF.pickF (VEv.tmpB rfl (nz fhg59_5)) (tv (tB (!(decide (0 ≤ x1.B ∧ x1.B ≤ (((i : Nat) : Int) - 1))))) rfl)) (mO (tB (!(decide (0 ≤ x1.B ∧ x1.B ≤ (((i : Nat) : Int) - 1))))) rfl ?_))))))))))
      refine gn (0 ≤ x1.B ∧ x1.B ≤ (((i : Nat) : Int) - 1)) (fun fhg70_6 => ?_) fun fhg70_6 => ?_
      · refine offs 3 17 false 70 (ny fhg70_6) rfl rfl rfl ?_
        refine offu 3 20 true 73 rfl rfl rfl (oO rfl rfl (ny fhg70_6) (fO (OF.pickT (VEv.tmpB rfl (ny fhg70_6)) (VEv.bool true)) (nt (ct rfl (sr (fO (OF.assign (VEv.bool false)) (nt (rt (tr (vb (b' := false) rfl ?_))))))))))
        (symm; rw [decide_eq_false_iff_not, stepOk_iff hx1]; rintro ⟨h1, h2, h3⟩; by_cases hk : x1.Kind = 1 <;> simp only [hk, two] at * <;> first | omega | (simp_all [not_isWord0]; omega))
      refine gF (nz fhg70_6) rfl rfl (OF.move (tv (tB true) rfl)) (gF (nz fhg70_6) rfl rfl (B.not (c := false) (tv (tB true) rfl) rfl) (gF (nz fhg70_6) rfl rfl (OF.move (tv (tB false) rfl)) (offs 3 20 true 73 (b := false) rfl rfl rfl rfl (gF (nz fhg70_6) rfl rfl (OF.pickF (tv (tB false) rfl) (VEv.bool false)) (fO (OF.pickF (VEv.tmpB rfl (nz fhg70_6)) (tv (tB false) rfl)) (nt (cf rfl (sk (tn (sr (mO (tB true) rfl ?_)))))))))))
      refine mO (tB true) rfl (offs 3 1 false 80 (b := true) rfl rfl rfl rfl (fO (OF.pickT (tv (tB true) rfl) (VEv.bool true)) (mO (tB true) rfl (offs 7 6 false 85 (b := true) rfl rfl rfl rfl (fO (OF.pickT (tv (tB true) rfl) (VEv.bool true)) (aO (tB true) rfl (nt (rt (vb (b' := true) rfl ?_)))))))))
      (symm; rw [decide_eq_true_eq, stepOk_iff hx1]; refine ⟨by omega, fun hk => ?_, fun hk => ?_⟩ <;> first | (exfalso; omega) | (simp_all [two, not_isWord0]; omega))
    refine glf (tI x1.Kind) (dz fhg37_4) rfl rfl rfl rfl fa121_0 rfl rfl st3 (gF (dz fhg37_4) rfl rfl (xeq (tv (tI x1.Kind) rfl) (VEv.int .i64 5)) (fO (OF.pickF (VEv.tmpB rfl (dz fhg37_4)) (tv (tB (decide (x1.Kind = 5))) rfl)) (aO (tB (decide (x1.Kind = 5))) rfl (nt (sq (sr (lf (tI x1.Kind) rfl fa121_0 rfl rfl st3 (fO (xeq (tv (tI x1.Kind) rfl) (VEv.int .i64 1)) (nt (cg (dz fhg28_3) rfl (sk ?_)))))))))))
    refine tn (sq (sr (lf (tI x1.A) rfl fa121_2 rfl rfl st3 (mO (tN i) rfl (fO (B.sub (n := (((i : Nat) : Int) - 1)) (tv (tN i) rfl) (VEv.int .i64 1) (by (rw [wrap64 (by omega)]; done))) (cO (cS (vc (tv (tI x1.A) rfl) (vc (VEv.int .i64 0) (vc (tv (tI (((i : Nat) : Int) - 1)) rfl) vn))) (lps rfl) (W_spec_l1In (n + 1) x1.A 0 (((i : Nat) : Int) - 1) ) rfl rfl) (fO (xnot (tv (tB (decide (0 ≤ x1.A ∧ x1.A ≤ (((i : Nat) : Int) - 1)))) rfl)) (mO (tB (!(decide (0 ≤ x1.A ∧ x1.A ≤ (((i : Nat) : Int) - 1))))) rfl ?_))))))))
    refine gn (0 ≤ x1.A ∧ x1.A ≤ (((i : Nat) : Int) - 1)) (fun fhg59_7 => ?_) fun fhg59_7 => ?_
    · refine offs 2 6 false 59 (ny fhg59_7) rfl rfl rfl ?_
      refine offu 6 8 true 61 rfl rfl rfl (oO rfl rfl (ny fhg59_7) (fO (OF.pickT (VEv.tmpB rfl (ny fhg59_7)) (VEv.bool true)) (mO (tB true) rfl (offs 3 17 false 70 (b := true) rfl rfl rfl rfl (offu 3 20 true 73 rfl rfl rfl (VRunO.off (VWant.not (b := true) rfl rfl rfl) (fO (OF.pickT (tv (tB true) rfl) (VEv.bool true)) (nt (ct rfl (sr (fO (OF.assign (VEv.bool false)) ?_)))))))))))
      refine nt (rt (tr (vb (b' := false) rfl ?_)))
      (symm; rw [decide_eq_false_iff_not, stepOk_iff hx1]; rintro ⟨h1, h2, h3⟩; by_cases hk : x1.Kind = 1 <;> simp only [hk, two] at * <;> first | (simp_all [not_isWord0]; done) | (simp_all [not_isWord0]; omega))
    refine gF (nz fhg59_7) rfl rfl (OF.move (tv (tB (decide (x1.Kind = 5))) rfl)) (gF (nz fhg59_7) rfl rfl (OF.move (tv (tB (decide (x1.Kind = 5))) rfl)) ?_)
    refine gw (x1.Kind = 5) (fun fhg61_8 => ?_) fun fhg61_8 => ?_
    · refine glf (tI x1.B) (dy fhg61_8) rfl rfl rfl rfl fa121_3 rfl rfl st3 ?_
      refine gF (dy fhg61_8) rfl rfl (OF.move (tv (tN i) rfl)) (gF (dy fhg61_8) rfl rfl (B.sub (n := (((i : Nat) : Int) - 1)) (tv (tN i) rfl) (VEv.int .i64 1) (by (rw [wrap64 (by omega)]; done))) (VRunO.chain (VWant.on rfl rfl (dy fhg61_8)) (cS (vc (tv (tI x1.B) rfl) (vc (VEv.int .i64 0) (vc (tv (tI (((i : Nat) : Int) - 1)) rfl) vn))) (lps rfl) (W_spec_l1In (n + 1) x1.B 0 (((i : Nat) : Int) - 1) ) rfl rfl) (gF (dy fhg61_8) rfl rfl (xnot (tv (tB (decide (0 ≤ x1.B ∧ x1.B ≤ (((i : Nat) : Int) - 1)))) rfl)) (gF (nz fhg59_7) rfl rfl (OF.pickT (VEv.tmpB rfl (dy fhg61_8)) (tv (tB (!(decide (0 ≤ x1.B ∧ x1.B ≤ (((i : Nat) : Int) - 1))))) rfl)) (fO (OF.pickF (VEv.tmpB rfl (nz fhg59_7)) (tv (tB (!(decide (0 ≤ x1.B ∧ x1.B ≤ (((i : Nat) : Int) - 1))))) rfl)) (mO (tB (!(decide (0 ≤ x1.B ∧ x1.B ≤ (((i : Nat) : Int) - 1))))) rfl ?_))))))
      refine gn (0 ≤ x1.B ∧ x1.B ≤ (((i : Nat) : Int) - 1)) (fun fhg70_9 => ?_) fun fhg70_9 => ?_
      · refine offs 3 17 false 70 (ny fhg70_9) rfl rfl rfl ?_
        refine offu 3 20 true 73 rfl rfl rfl (oO rfl rfl (ny fhg70_9) (fO (OF.pickT (VEv.tmpB rfl (ny fhg70_9)) (VEv.bool true)) (nt (ct rfl (sr (fO (OF.assign (VEv.bool false)) (nt (rt (tr (vb (b' := false) rfl ?_))))))))))
        (symm; rw [decide_eq_false_iff_not, stepOk_iff hx1]; rintro ⟨h1, h2, h3⟩; by_cases hk : x1.Kind = 1 <;> simp only [hk, two] at * <;> first | omega | (simp_all [not_isWord0]; omega))
      refine gF (nz fhg70_9) rfl rfl (OF.move (tv (tB (decide (x1.Kind = 5))) rfl)) (gF (nz fhg70_9) rfl rfl (xnot (tv (tB (decide (x1.Kind = 5))) rfl)) (gF (nz fhg70_9) rfl rfl (OF.move (tv (tB (!(decide (x1.Kind = 5)))) rfl)) (offs 3 20 true 73 (nkT (dy fhg61_8)) rfl rfl rfl (gF (nz fhg70_9) rfl rfl (OF.pickF (VEv.tmpB rfl (nkT (dy fhg61_8))) (VEv.bool false)) (fO (OF.pickF (VEv.tmpB rfl (nz fhg70_9)) (tv (tB false) rfl)) (nt (cf rfl (sk (tn (sr (mO (tB (decide (x1.Kind = 5))) rfl ?_)))))))))))
      refine mO (tB (decide (x1.Kind = 5))) rfl (offs 3 1 false 80 (dy fhg61_8) rfl rfl rfl (fO (OF.pickT (VEv.tmpB rfl (dy fhg61_8)) (VEv.bool true)) (mO (tB true) rfl (offs 7 6 false 85 (b := true) rfl rfl rfl rfl (fO (OF.pickT (tv (tB true) rfl) (VEv.bool true)) (aO (tB true) rfl (nt (rt (vb (b' := true) rfl ?_)))))))))
      (symm; rw [decide_eq_true_eq, stepOk_iff hx1]; refine ⟨by omega, fun hk => ?_, fun hk => ?_⟩ <;> first | (exfalso; omega) | (simp_all [two, not_isWord0]; omega))
    refine offs 6 8 true 61 (dz fhg61_8) rfl rfl rfl (gF (nz fhg59_7) rfl rfl (OF.pickF (VEv.tmpB rfl (dz fhg61_8)) (VEv.bool false)) (fO (OF.pickF (VEv.tmpB rfl (nz fhg59_7)) (tv (tB false) rfl)) (mO (tB false) rfl (VRunO.free (VWant.on (b := false) rfl rfl rfl) (OF.move (tv (tB (decide (x1.Kind = 5))) rfl)) (VRunO.free (VWant.on (b := false) rfl rfl rfl) (xnot (tv (tB (decide (x1.Kind = 5))) rfl)) (VRunO.free (VWant.on (b := false) rfl rfl rfl) (OF.move (tv (tB (!(decide (x1.Kind = 5)))) rfl)) (glf (tI x1.B) (nkF (dz fhg61_8)) rfl rfl rfl rfl fa121_3 rfl rfl st3 (gF (nkF (dz fhg61_8)) rfl rfl (xne (tv (tI x1.B) rfl) (VEv.int .i64 0)) (VRunO.free (VWant.on (b := false) rfl rfl rfl) (OF.pickT (VEv.tmpB rfl (nkF (dz fhg61_8))) (tv (tB (!(decide (x1.B = 0)))) rfl)) (fO (OF.pickF (tv (tB false) rfl) (tv (tB (!(decide (x1.B = 0)))) rfl)) (nt ?_)))))))))))
    refine cn (x1.B = 0) rfl (fun fhc2 => ?_) fun fhc2 => ?_
    · refine sr ?_
      refine fO (OF.assign (VEv.bool false)) (nt (rt (tr (vb (b' := false) rfl ?_))))
      (symm; rw [decide_eq_false_iff_not, stepOk_iff hx1]; rintro ⟨h1, h2, h3⟩; by_cases hk : x1.Kind = 1 <;> simp only [hk, two] at * <;> (simp_all [not_isWord0]; done))
    refine sk (tn (sr (mO (tB (decide (x1.Kind = 5))) rfl (mO (tB (decide (x1.Kind = 5))) rfl (glf (tI x1.Kind) (dz fhg61_8) rfl rfl rfl rfl fa121_0 rfl rfl st3 (gF (dz fhg61_8) rfl rfl (xeq (tv (tI x1.Kind) rfl) (VEv.int .i64 2)) (fO (OF.pickF (VEv.tmpB rfl (dz fhg61_8)) (tv (tB (decide (x1.Kind = 2))) rfl)) (mO (tB (decide (x1.Kind = 2))) rfl ?_))))))))
    refine gw (x1.Kind = 2) (fun fhg85_10 => ?_) fun fhg85_10 => ?_
    · refine offs 7 6 false 85 (dy fhg85_10) rfl rfl rfl ?_
      refine fO (OF.pickT (VEv.tmpB rfl (dy fhg85_10)) (VEv.bool true)) (aO (tB true) rfl (nt (rt (vb (b' := true) rfl ?_))))
      (symm; rw [decide_eq_true_eq, stepOk_iff hx1]; refine ⟨by omega, fun hk => ?_, fun hk => ?_⟩ <;> first | (exfalso; omega) | (simp_all [two, not_isWord0]; omega))
    refine gF (dz fhg85_10) rfl rfl (OF.move (tv (rd 4 eStep a) rfl)) (glf (tI x1.A) (dz fhg85_10) rfl rfl rfl rfl fa121_2 rfl rfl st3 ?_)
    obtain ⟨x2, hx2⟩ : ∃ x, a[(Int.toNat x1.A)]? = some x := ⟨_, List.getElem?_eq_getElem (by omega)⟩
    refine gF (dz fhg85_10) rfl rfl (OF.indexAddrR (row := (eStep false x2)) (i := (Int.toNat x1.A)) (tv (rd 4 eStep a) rfl) (tv (tI x1.A) rfl) (by omega) (map_at _ hx2) U81 sz121 if121) (glr (tI x2.Kind) (dz fhg85_10) rfl rfl rfl rfl (lb rfl) fa121_0 rfl st3 (gF (dz fhg85_10) rfl rfl (xeq (tv (tI x2.Kind) rfl) (VEv.int .i64 1)) (fO (OF.pickF (VEv.tmpB rfl (dz fhg85_10)) (tv (tB (decide (x2.Kind = 1))) rfl)) (aO (tB (decide (x2.Kind = 1))) rfl (nt (rt (vb (b' := (decide (x2.Kind = 1))) rfl ?_)))))))
    (refine l15_a hx1 hx2 ?_ ?_ ?_ ?_ ?_ ?_ ?_ <;> first | assumption | omega | (simp only [two]; omega))
  refine oD rfl rfl (nz fhg28_3) rfl (oD rfl rfl (nz fhg28_3) rfl (oD rfl rfl (nz fhg28_3) rfl (VRunD.free rfl (VWant.on rfl rfl hg24_2) rfl (OF.pickF (VEv.tmpB rfl (nz fhg28_3)) (VEv.bool false)) (fD (OF.pickF (VEv.tmpB rfl hg24_2) (tv (tB false) rfl)) rfl rfl (VRunD.nil (tn (cf rfl (sk (tn (sr (lf (tI x1.Kind) rfl fa121_0 rfl rfl st3 ?_)))))))))))
  refine fO (xeq (tv (tI x1.Kind) rfl) (VEv.int .i64 4)) (mO (tB (decide (x1.Kind = 4))) rfl ?_)
  refine gw (x1.Kind = 4) (fun fhg37_11 => ?_) fun fhg37_11 => ?_
  · refine offs 3 3 false 37 (dy fhg37_11) rfl rfl rfl ?_
    refine fO (OF.pickT (VEv.tmpB rfl (dy fhg37_11)) (VEv.bool true)) (aO (tB true) rfl (nt (sq (sr (lf (tI x1.Kind) rfl fa121_0 rfl rfl st3 (fO (xeq (tv (tI x1.Kind) rfl) (VEv.int .i64 1)) (nt (ck (dy fhg28_3) rfl (sr (lf (tI x1.A) rfl fa121_2 rfl rfl st3 (fO (xeq (tv (tI x1.A) rfl) (VEv.int .i64 0)) ?_)))))))))))
    refine mO (tB (decide (x1.A = 0))) rfl ?_
    refine gw (x1.A = 0) (fun fhg48_12 => ?_) fun fhg48_12 => ?_
    · refine glf (tI x1.B) (dy fhg48_12) rfl rfl rfl rfl fa121_3 rfl rfl st3 ?_
      refine gF (dy fhg48_12) rfl rfl (xeq (tv (tI x1.B) rfl) (VEv.int .i64 0)) (fO (OF.pickT (VEv.tmpB rfl (dy fhg48_12)) (tv (tB (decide (x1.B = 0))) rfl)) (aO (tB (decide (x1.B = 0))) rfl (nt (rt (tr (vb (b' := (decide (x1.B = 0))) rfl ?_))))))
      (exfalso; omega)
    refine offs 3 3 true 48 (dz fhg48_12) rfl rfl rfl (fO (OF.pickF (VEv.tmpB rfl (dz fhg48_12)) (VEv.bool false)) (aO (tB false) rfl (nt (rt (tr (vb (b' := false) rfl ?_))))))
    (exfalso; omega)
  refine glf (tI x1.Kind) (dz fhg37_11) rfl rfl rfl rfl fa121_0 rfl rfl st3 (gF (dz fhg37_11) rfl rfl (xeq (tv (tI x1.Kind) rfl) (VEv.int .i64 5)) (fO (OF.pickF (VEv.tmpB rfl (dz fhg37_11)) (tv (tB (decide (x1.Kind = 5))) rfl)) (aO (tB (decide (x1.Kind = 5))) rfl (nt (sq (sr (lf (tI x1.Kind) rfl fa121_0 rfl rfl st3 (fO (xeq (tv (tI x1.Kind) rfl) (VEv.int .i64 1)) (nt (ck (dy fhg28_3) rfl (sr ?_)))))))))))
  refine lf (tI x1.A) rfl fa121_2 rfl rfl st3 (fO (xeq (tv (tI x1.A) rfl) (VEv.int .i64 0)) (mO (tB (decide (x1.A = 0))) rfl ?_))
  refine gw (x1.A = 0) (fun fhg48_13 => ?_) fun fhg48_13 => ?_
  · refine glf (tI x1.B) (dy fhg48_13) rfl rfl rfl rfl fa121_3 rfl rfl st3 ?_
    refine gF (dy fhg48_13) rfl rfl (xeq (tv (tI x1.B) rfl) (VEv.int .i64 0)) (fO (OF.pickT (VEv.tmpB rfl (dy fhg48_13)) (tv (tB (decide (x1.B = 0))) rfl)) (aO (tB (decide (x1.B = 0))) rfl (nt (rt (tr (vb (b' := (decide (x1.B = 0))) rfl ?_))))))
    (refine l15_b hx1 ?_ ?_ ?_ ?_ <;> first | assumption | (simp_all; done))
  refine offs 3 3 true 48 (dz fhg48_13) rfl rfl rfl (fO (OF.pickF (VEv.tmpB rfl (dz fhg48_13)) (VEv.bool false)) (aO (tB false) rfl (nt (rt (tr (vb (b' := false) rfl ?_))))))
  (symm; rw [decide_eq_false_iff_not, stepOk_iff hx1]; rintro ⟨h1, h2, h3⟩; by_cases hk : x1.Kind = 1 <;> simp only [hk, two] at * <;> (simp_all [not_isWord0]; done))
theorem W_spec_IsPlay (n : Nat) (a : List D.Step) (hz : zL zStep a ≤ mx) : Pure (acall Tryz.prog (n + 4)) 128 [(rd 4 eStep a)] (tB (decide (isPlay a))) := by
  refine Pure.intro (rs := [ResultVar.tmp 2]) Tryz.func128 rfl rfl rfl (E0 := [(0, (rd 4 eStep a))]) rfl ?_
  obtain ⟨hlim, hmx, hmax⟩ := lims
  have ha := zL_len (z := zStep) a
  refine sr (fO (OF.assign (VEv.bool false)) (nt (sq (sr (fO (OF.assign (VEv.int .i64 0)) (nt (VRun.block ?_)))))))
  refine VRun.loop (A := Nat) (fun s_ => [(0, (rd 4 eStep a)), (3, (tN s_))]) (fun s_ => mkO []) 0 (fun s_ => s_ ≤ a.length ∧ ∀ j, j < s_ → stepOk a j) (fun s_ => a.length - s_) (0 : Nat) ?_ (Wk.mk (fun k => k) ?_ ?_ ?_) ?_
  · exact ⟨Nat.zero_le _, fun j hj => by omega⟩
  · exact (b2 (b2 bn))
  · exact bn
  · exact nd rfl
  rintro i (hI' : i ≤ a.length ∧ ∀ j, j < i → stepOk a j)
  show VRun _ _ _ [(0, (rd 4 eStep a)), (3, (tN i))] (mkO []) 0 _
  have hI0 := hI'
  refine sq (sr (mO (tN i) rfl (mO (rd 4 eStep a) rfl (lO (B.lenR (m := a.length) (tv (rd 4 eStep a) rfl) U81 (List.length_map ..)) (fO (xls' (tv (tN i) rfl) (tv (tN a.length) rfl)) (mO (tB (decide (i < a.length))) rfl ?_))))))
  refine gw (i < a.length) (fun fhg8_1 => ?_) fun fhg8_1 => ?_
  · refine gF (dy fhg8_1) rfl rfl (OF.move (tv (rd 4 eStep a) rfl)) ?_
    refine gL (dy fhg8_1) rfl rfl (B.lenR (m := a.length) (tv (rd 4 eStep a) rfl) U81 (List.length_map ..)) (gF (dy fhg8_1) rfl rfl (B.leq (c := (decide (a.length ≤ 9))) (tv (tN a.length) rfl) (VEv.int .i64 9) (decN (by omega))) (fO (OF.pickT (VEv.tmpB rfl (dy fhg8_1)) (tv (tB (decide (a.length ≤ 9))) rfl)) (nt ?_)))
    refine cd (a.length ≤ 9) rfl (fun fhc0 => ?_) fun fhc0 => ?_
    · refine sk ?_
      refine tn (sq (VRun.block (sr (mO (rd 4 eStep a) rfl (mO (tN i) rfl (cO (cS (vc (tv (rd 4 eStep a) rfl) (vc (tv (tN i) rfl) vn)) (lps rfl) (W_spec_l15Ok (n + 0) a i (by assumption) (by assumption)) rfl rfl) (fO (xnot (tv (tB (decide (stepOk a i))) rfl)) (nt ?_))))))))
      refine cn (stepOk a i) rfl (fun fhc1 => ?_) fun fhc1 => ?_
      · refine sr ?_
        refine fO (OF.assign (VEv.bool false)) (nt (rt (vinB.r (tr (tr (vinB.r (tr (vb (b' := false) rfl ?_))))))))
        (symm; rw [decide_eq_false_iff_not]; rintro ⟨h1, h2⟩; exact absurd (h2 i (by omega)) (by assumption))
      refine sk (vinB.n (tn (VRun.region (mO (tN i) rfl (fO (xinc (tv (tN i) rfl) (VEv.int .i64 1) (by omega)) (aO (tN (i + 1)) rfl (VRunO.nil (tn ?_))))))))
      refine ⟨(i + 1 : Nat), ?_, ?_, Wk.mk (fun k => k) ?_ ?_ ?_⟩
      · exact allNext hI0 (by omega) (by assumption)
      · omega
      · exact (b2 (b2 bn))
      · exact bn
      · exact nd rfl
    refine VRun.exit (vthn.e (vthn.e (vinB.e (tn (sr (mO (rd 4 eStep a) rfl (lO (B.lenR (m := a.length) (tv (rd 4 eStep a) rfl) U81 (List.length_map ..)) (cO (cS (vc (tv (tN a.length) rfl) (vc (VEv.int .i64 1) (vc (VEv.int .i64 9) vn))) (lps rfl) (W_spec_l1In (n + 2) ((a.length : Nat) : Int) 1 9 ) rfl rfl) (aO (tB (decide (1 ≤ ((a.length : Nat) : Int) ∧ ((a.length : Nat) : Int) ≤ 9))) rfl (nt (rt ?_)))))))))))
    refine vb (b' := (decide (1 ≤ ((a.length : Nat) : Int) ∧ ((a.length : Nat) : Int) ≤ 9))) rfl ?_
    (refine decN ⟨fun h => ⟨by omega, allEnd hI' (by omega)⟩, fun h => by have := h.1; omega⟩)
  refine offs 3 4 true 8 (dz fhg8_1) rfl rfl rfl (fO (OF.pickF (VEv.tmpB rfl (dz fhg8_1)) (VEv.bool false)) (nt (cf rfl (VRun.exit (vthn.e (vthn.e (vinB.e (tn (sr (mO (rd 4 eStep a) rfl (lO (B.lenR (m := a.length) (tv (rd 4 eStep a) rfl) U81 (List.length_map ..)) ?_)))))))))))
  refine cO (cS (vc (tv (tN a.length) rfl) (vc (VEv.int .i64 1) (vc (VEv.int .i64 9) vn))) (lps rfl) (W_spec_l1In (n + 2) ((a.length : Nat) : Int) 1 9 ) rfl rfl) (aO (tB (decide (1 ≤ ((a.length : Nat) : Int) ∧ ((a.length : Nat) : Int) ≤ 9))) rfl (nt (rt (vb (b' := (decide (1 ≤ ((a.length : Nat) : Int) ∧ ((a.length : Nat) : Int) ≤ 9))) rfl ?_))))
  (refine decN ⟨fun h => ⟨by omega, allEnd hI' (by omega)⟩, fun h => by have := h.1; omega⟩)
theorem W_impl_IsPlay (n : Nat) (a : List D.Step) (hz : zL zStep a ≤ mx) : Pure (acall Tryz.prog (n + 3)) 142 [(rd 4 eStep a)] (tB (decide (isPlay a))) := by
  refine Pure.intro (rs := [ResultVar.tmp 2]) Tryz.func142 rfl rfl rfl (E0 := [(0, (rd 4 eStep a))]) rfl ?_
  obtain ⟨hlim, hmx, hmax⟩ := lims
  have ha := zL_len (z := zStep) a
  have hw : ∀ x ∈ a, x.Word.size ≤ maxLen := fun x hx => by have h1 := zL_mem (z := zStep) hx; simp only [zStep] at h1; omega
  refine sr (fO (OF.assign (VEv.bool false)) (nt (sq (sr (mO (rd 4 eStep a) rfl (lO (B.lenR (m := a.length) (tv (rd 4 eStep a) rfl) U81 (List.length_map ..)) (cO (cS (vc (tv (tN a.length) rfl) (vc (VEv.int .i64 1) (vc (VEv.int .i64 9) vn))) (lps rfl) (W_impl_InRange (n + 1) ((a.length : Nat) : Int) 1 9 ) rfl rfl) (fO (xnot (tv (tB (decide (1 ≤ ((a.length : Nat) : Int) ∧ ((a.length : Nat) : Int) ≤ 9))) rfl)) (nt ?_)))))))))
  refine cn (1 ≤ ((a.length : Nat) : Int) ∧ ((a.length : Nat) : Int) ≤ 9) rfl (fun fhc0 => ?_) fun fhc0 => ?_
  · refine sr ?_
    refine fO (OF.assign (VEv.bool false)) (nt (rt (tr (vb (b' := false) rfl ?_))))
    (symm; rw [decide_eq_false_iff_not]; rintro ⟨h1, h2⟩; (exfalso; omega))
  refine sk (tn (sq (sr (mO (rd 4 eStep a) rfl (lO (B.lenR (m := a.length) (tv (rd 4 eStep a) rfl) U81 (List.length_map ..)) (fO (OF.move (VEv.int .i64 0)) (nt (VRun.block ?_))))))))
  refine VRun.loop (A := Nat) (fun s_ => [(0, (rd 4 eStep a)), (9, (rd 4 eStep a)), (10, (tN a.length)), (11, (tN s_))]) (fun s_ => mkO []) 0 (fun s_ => s_ ≤ a.length ∧ ∀ j, j < s_ → stepOk a j) (fun s_ => a.length - s_) (0 : Nat) ?_ (Wk.mk (fun k => k) ?_ ?_ ?_) ?_
  · exact ⟨Nat.zero_le _, fun j hj => by omega⟩
  · exact (b2 (b2 (b2 (b2 bn))))
  · exact bn
  · exact nd rfl
  rintro i (hI' : i ≤ a.length ∧ ∀ j, j < i → stepOk a j)
  show VRun _ _ _ [(0, (rd 4 eStep a)), (9, (rd 4 eStep a)), (10, (tN a.length)), (11, (tN i))] (mkO []) 0 _
  have hI0 := hI'
  refine sr (fO (xls' (tv (tN i) rfl) (tv (tN a.length) rfl)) (nt (sq ?_)))
  refine cd (i < a.length) rfl (fun fhc1 => ?_) fun fhc1 => ?_
  · refine sk ?_
    refine tn (sq (VRun.block (sr (mO (tN i) rfl ?_))))
    obtain ⟨x1, hx1⟩ : ∃ x, a[i]? = some x := ⟨_, List.getElem?_eq_getElem (by omega)⟩
    refine fO (OF.indexAddrR (row := (eStep false x1)) (i := i) (tv (rd 4 eStep a) rfl) (tv (tN i) rfl) rfl (map_at _ hx1) U81 sz121 if121) (lO (OL.loadRn (us := (eStep false x1)) (tv (T.rp (eStep false x1)) rfl) st121 sz121 (lb rfl) rfl) (kO (B.alloc (t := (T.agg [(tN 0), (tS ByteArray.empty), (tN 0), (tN 0)])) (ts := [(tN 0), (tS ByteArray.empty), (tN 0), (tN 0)]) zo121 zc121 nofun (fun _ => .agg _ _ rfl (RLof (RL.cons (.int _ _) (RL.cons (.str _) (RL.cons (.int _ _) (RL.cons (.int _ _) (RL.nil _))))))) rfl) (aO (tN i) rfl (cO (B.storeO (us := (eStep false x1)) (ws := (eStep false x1)) (tv (T.op 0 0) rfl) (tv (T.agg (eStep false x1)) rfl) nofun rfl rfl (lb rfl) if121 sz121 (bc rfl (bc rfl (bc rfl (bc rfl bn)))) rfl) (nt (sq (sr (lf (tI x1.Kind) rfl fa121_0 rfl rfl st3 (cO (cS (vc (tv (tI x1.Kind) rfl) (vc (VEv.int .i64 1) (vc (VEv.int .i64 9) vn))) (lps rfl) (W_impl_InRange (n + 1) x1.Kind 1 9 ) rfl rfl) (fO (xnot (tv (tB (decide (1 ≤ x1.Kind ∧ x1.Kind ≤ 9))) rfl)) (nt ?_)))))))))))
    refine cn (1 ≤ x1.Kind ∧ x1.Kind ≤ 9) rfl (fun fhc2 => ?_) fun fhc2 => ?_
    · refine sr ?_
      refine fO (OF.assign (VEv.bool false)) (nt (rt (tr (vinB.r (tr (tr (vinB.r (tr (vb (b' := false) rfl ?_)))))))))
      (symm; rw [decide_eq_false_iff_not]; rintro ⟨h1, h2⟩; (have h3 := (stepOk_iff hx1).1 (h2 i fhc1); obtain ⟨h4, h5, h6⟩ := h3; simp only [two] at h6; omega))
    refine sk (tn (sq (sr (lf (tI x1.Kind) rfl fa121_0 rfl rfl st3 (fO (xeq (tv (tI x1.Kind) rfl) (VEv.int .i64 1)) (nt ?_))))))
    refine cd (x1.Kind = 1) rfl (fun fhc3 => ?_) fun fhc3 => ?_
    · refine sq ?_
      refine sr (lf (tS x1.Word) rfl fa121_1 rfl rfl st9 (cO (cS (vc (tv (tS x1.Word) rfl) vn) (lps rfl) (W_impl_IsWord (n + 0) x1.Word (by exact hw _ (List.mem_of_getElem? hx1))) rfl rfl) (fO (xnot (tv (tB (decide (isWord x1.Word))) rfl)) (mO (tB (!(decide (isWord x1.Word)))) rfl ?_))))
      refine gn (isWord x1.Word) (fun fhg27_1 => ?_) fun fhg27_1 => ?_
      · refine offs 3 4 false 27 (ny fhg27_1) rfl rfl rfl ?_
        refine fO (OF.pickT (VEv.tmpB rfl (ny fhg27_1)) (VEv.bool true)) (mO (tB true) rfl (offs 3 9 false 32 (b := true) rfl rfl rfl rfl (fO (OF.pickT (tv (tB true) rfl) (VEv.bool true)) (nt (ct rfl (sr (fO (OF.assign (VEv.bool false)) (nt (rt (tr (tr ?_)))))))))))
        refine vinB.r (tr (tr (vinB.r (tr (vb (b' := false) rfl ?_)))))
        (symm; rw [decide_eq_false_iff_not]; rintro ⟨h1, h2⟩; (have h3 := (stepOk_iff hx1).1 (h2 i fhc1); obtain ⟨h4, h5, h6⟩ := h3; simp only [two] at h6; (by_cases hk : x1.Kind = 1 <;> simp_all <;> omega)))
      refine glf (tI x1.A) (nz fhg27_1) rfl rfl rfl rfl fa121_2 rfl rfl st3 (gF (nz fhg27_1) rfl rfl (xne (tv (tI x1.A) rfl) (VEv.int .i64 0)) (fO (OF.pickF (VEv.tmpB rfl (nz fhg27_1)) (tv (tB (!(decide (x1.A = 0)))) rfl)) (mO (tB (!(decide (x1.A = 0)))) rfl ?_)))
      refine gn (x1.A = 0) (fun fhg32_2 => ?_) fun fhg32_2 => ?_
      · refine offs 3 9 false 32 (ny fhg32_2) rfl rfl rfl ?_
        refine fO (OF.pickT (VEv.tmpB rfl (ny fhg32_2)) (VEv.bool true)) (nt (ct rfl (sr (fO (OF.assign (VEv.bool false)) (nt (rt (tr (tr (vinB.r (tr (tr ?_)))))))))))
        refine vinB.r (tr (vb (b' := false) rfl ?_))
        (symm; rw [decide_eq_false_iff_not]; rintro ⟨h1, h2⟩; (have h3 := (stepOk_iff hx1).1 (h2 i fhc1); obtain ⟨h4, h5, h6⟩ := h3; simp only [two] at h6; omega))
      refine glf (tI x1.B) (nz fhg32_2) rfl rfl rfl rfl fa121_3 rfl rfl st3 (gF (nz fhg32_2) rfl rfl (xne (tv (tI x1.B) rfl) (VEv.int .i64 0)) (fO (OF.pickF (VEv.tmpB rfl (nz fhg32_2)) (tv (tB (!(decide (x1.B = 0)))) rfl)) (nt ?_)))
      refine cn (x1.B = 0) rfl (fun fhc4 => ?_) fun fhc4 => ?_
      · refine sr ?_
        refine fO (OF.assign (VEv.bool false)) (nt (rt (tr (tr (vinB.r (tr (tr (vinB.r (tr (vb (b' := false) rfl ?_))))))))))
        (symm; rw [decide_eq_false_iff_not]; rintro ⟨h1, h2⟩; (have h3 := (stepOk_iff hx1).1 (h2 i fhc1); obtain ⟨h4, h5, h6⟩ := h3; simp only [two] at h6; omega))
      refine sk (tn (VRun.exit (vthn.e (vinB.e (tn (VRun.region (fO (xinc (tv (tN i) rfl) (VEv.int .i64 1) (by omega)) (mO (tN (i + 1)) rfl (VRunO.nil (tn ?_))))))))))
      refine ⟨(i + 1 : Nat), ?_, ?_, Wk.mk (fun k => k) ?_ ?_ ?_⟩
      · refine allNext hI0 fhc1 ((stepOk_iff hx1).2 ?_)
        simp only [stepP, two]
        refine ⟨by omega, fun hk => ?_, fun hk => ?_⟩
        · (refine ⟨?_, ?_, ?_⟩ <;> assumption)
        · (exfalso; omega)
      · omega
      · exact (b2 (b2 (b2 (b2 bn))))
      · exact bn
      · exact nd rfl
    refine sk (tn (sq (sr (lf (tS x1.Word) rfl fa121_1 rfl rfl st9 (fO (B.sneq (c := (!(decide (x1.Word = (⟨#[]⟩ : ByteArray))))) (tv (tS x1.Word) rfl) (VEv.str (⟨#[]⟩ : ByteArray)) rfl) (mO (tB (!(decide (x1.Word = (⟨#[]⟩ : ByteArray))))) rfl ?_))))))
    refine gn (x1.Word = (⟨#[]⟩ : ByteArray)) (fun fhg40_3 => ?_) fun fhg40_3 => ?_
    · refine offs 5 3 false 40 (ny fhg40_3) rfl rfl rfl ?_
      refine fO (OF.pickT (VEv.tmpB rfl (ny fhg40_3)) (VEv.bool true)) (mO (tB true) rfl (offs 4 10 false 47 (b := true) rfl rfl rfl rfl (offu 7 14 true 51 rfl rfl rfl (VRunO.off (VWant.not (b := true) rfl rfl rfl) (fO (OF.pickT (tv (tB true) rfl) (VEv.bool true)) (nt (ct rfl (sr (fO (OF.assign (VEv.bool false)) (nt (rt ?_)))))))))))
      refine tr (vinB.r (tr (tr (vinB.r (tr (vb (b' := false) rfl ?_))))))
      (symm; rw [decide_eq_false_iff_not]; rintro ⟨h1, h2⟩; (have h3 := (stepOk_iff hx1).1 (h2 i fhc1); obtain ⟨h4, h5, h6⟩ := h3; simp only [two] at h6; (by_cases hk : x1.Kind = 1 <;> simp_all <;> omega)))
    refine glf (tI x1.A) (nz fhg40_3) rfl rfl rfl rfl fa121_2 rfl rfl st3 (gF (nz fhg40_3) rfl rfl (OF.move (tv (tN i) rfl)) (VRunO.chain (VWant.on rfl rfl (nz fhg40_3)) (cS (vc (tv (tI x1.A) rfl) (vc (tv (tN i) rfl) vn)) (lps rfl) (W_impl_at (n + 1) x1.A ((i : Nat) : Int) ) rfl rfl) (gF (nz fhg40_3) rfl rfl (xnot (tv (tB (decide (0 ≤ x1.A ∧ x1.A < ((i : Nat) : Int)))) rfl)) (fO (OF.pickF (VEv.tmpB rfl (nz fhg40_3)) (tv (tB (!(decide (0 ≤ x1.A ∧ x1.A < ((i : Nat) : Int))))) rfl)) (mO (tB (!(decide (0 ≤ x1.A ∧ x1.A < ((i : Nat) : Int))))) rfl ?_)))))
    refine gn (0 ≤ x1.A ∧ x1.A < ((i : Nat) : Int)) (fun fhg47_4 => ?_) fun fhg47_4 => ?_
    · refine offs 4 10 false 47 (ny fhg47_4) rfl rfl rfl ?_
      refine offu 7 14 true 51 rfl rfl rfl (oO rfl rfl (ny fhg47_4) (fO (OF.pickT (VEv.tmpB rfl (ny fhg47_4)) (VEv.bool true)) (nt (ct rfl (sr (fO (OF.assign (VEv.bool false)) (nt (rt (tr (vinB.r (tr ?_)))))))))))
      refine tr (vinB.r (tr (vb (b' := false) rfl ?_)))
      (symm; rw [decide_eq_false_iff_not]; rintro ⟨h1, h2⟩; (have h3 := (stepOk_iff hx1).1 (h2 i fhc1); obtain ⟨h4, h5, h6⟩ := h3; simp only [two] at h6; omega))
    refine glf (tI x1.Kind) (nz fhg47_4) rfl rfl rfl rfl fa121_0 rfl rfl st3 (VRunO.chain (VWant.on rfl rfl (nz fhg47_4)) (cS (vc (tv (tI x1.Kind) rfl) vn) (lps rfl) (W_impl_needsWord (n + 1) x1.Kind ) rfl rfl) (gF (nz fhg47_4) rfl rfl (OF.move (tv (tB (decide (x1.Kind = 3 ∨ 6 ≤ x1.Kind))) rfl)) ?_))
    refine gw (x1.Kind = 3 ∨ 6 ≤ x1.Kind) (fun fhg51_5 => ?_) fun fhg51_5 => ?_
    · refine gF (dy fhg51_5) rfl rfl (OF.move (tv (rd 4 eStep a) rfl)) ?_
      refine glf (tI x1.A) (dy fhg51_5) rfl rfl rfl rfl fa121_2 rfl rfl st3 ?_
      obtain ⟨x2, hx2⟩ : ∃ x, a[(Int.toNat x1.A)]? = some x := ⟨_, List.getElem?_eq_getElem (by omega)⟩
      refine gF (dy fhg51_5) rfl rfl (OF.indexAddrR (row := (eStep false x2)) (i := (Int.toNat x1.A)) (tv (rd 4 eStep a) rfl) (tv (tI x1.A) rfl) (by omega) (map_at _ hx2) U81 sz121 if121) (glr (tI x2.Kind) (dy fhg51_5) rfl rfl rfl rfl (lb rfl) fa121_0 rfl st3 (gF (dy fhg51_5) rfl rfl (xne (tv (tI x2.Kind) rfl) (VEv.int .i64 1)) (gF (nz fhg47_4) rfl rfl (OF.pickT (VEv.tmpB rfl (dy fhg51_5)) (tv (tB (!(decide (x2.Kind = 1)))) rfl)) (fO (OF.pickF (VEv.tmpB rfl (nz fhg47_4)) (tv (tB (!(decide (x2.Kind = 1)))) rfl)) (nt ?_)))))
      refine cn (x2.Kind = 1) rfl (fun fhc5 => ?_) fun fhc5 => ?_
      · refine sr ?_
        refine fO (OF.assign (VEv.bool false)) (nt (rt (tr (vinB.r (tr (tr (vinB.r (tr (vb (b' := false) rfl ?_)))))))))
        (symm; rw [decide_eq_false_iff_not]; rintro ⟨h1, h2⟩; (have h3 := (stepOk_iff hx1).1 (h2 i fhc1); obtain ⟨h4, h5, h6⟩ := h3; simp only [two] at h6; (by_cases hk : x1.Kind = 1 <;> simp_all <;> omega)))
      refine sk (tn (sr (lf (tI x1.Kind) rfl fa121_0 rfl rfl st3 (cO (cS (vc (tv (tI x1.Kind) rfl) vn) (lps rfl) (W_impl_isPair (n + 1) x1.Kind ) rfl rfl) (mO (tB (decide (x1.Kind = 4 ∨ x1.Kind = 5))) rfl ?_)))))
      refine gw (x1.Kind = 4 ∨ x1.Kind = 5) (fun fhg64_6 => ?_) fun fhg64_6 => ?_
      · refine glf (tI x1.B) (dy fhg64_6) rfl rfl rfl rfl fa121_3 rfl rfl st3 ?_
        refine gF (dy fhg64_6) rfl rfl (OF.move (tv (tN i) rfl)) (VRunO.chain (VWant.on rfl rfl (dy fhg64_6)) (cS (vc (tv (tI x1.B) rfl) (vc (tv (tN i) rfl) vn)) (lps rfl) (W_impl_at (n + 1) x1.B ((i : Nat) : Int) ) rfl rfl) (gF (dy fhg64_6) rfl rfl (xnot (tv (tB (decide (0 ≤ x1.B ∧ x1.B < ((i : Nat) : Int)))) rfl)) (fO (OF.pickT (VEv.tmpB rfl (dy fhg64_6)) (tv (tB (!(decide (0 ≤ x1.B ∧ x1.B < ((i : Nat) : Int))))) rfl)) (mO (tB (!(decide (0 ≤ x1.B ∧ x1.B < ((i : Nat) : Int))))) rfl ?_))))
        refine gn (0 ≤ x1.B ∧ x1.B < ((i : Nat) : Int)) (fun fhg71_7 => ?_) fun fhg71_7 => ?_
        · refine offs 5 10 false 71 (ny fhg71_7) rfl rfl rfl ?_
          refine offu 3 15 true 76 rfl rfl rfl (oO rfl rfl (ny fhg71_7) (fO (OF.pickT (VEv.tmpB rfl (ny fhg71_7)) (VEv.bool true)) (nt (ct rfl (sr (fO (OF.assign (VEv.bool false)) (nt (rt (vinB.r (tr (tr ?_)))))))))))
          refine vinB.r (tr (vb (b' := false) rfl ?_))
          (symm; rw [decide_eq_false_iff_not]; rintro ⟨h1, h2⟩; (exfalso; omega))
        refine glf (tI x1.Kind) (nz fhg71_7) rfl rfl rfl rfl fa121_0 rfl rfl st3 (VRunO.chain (VWant.on rfl rfl (nz fhg71_7)) (cS (vc (tv (tI x1.Kind) rfl) vn) (lps rfl) (W_impl_isPair (n + 1) x1.Kind ) rfl rfl) (gF (nz fhg71_7) rfl rfl (xnot (tv (tB (decide (x1.Kind = 4 ∨ x1.Kind = 5))) rfl)) (gF (nz fhg71_7) rfl rfl (OF.move (tv (tB (!(decide (x1.Kind = 4 ∨ x1.Kind = 5)))) rfl)) (offs 3 15 true 76 (nkT (dy fhg64_6)) rfl rfl rfl (gF (nz fhg71_7) rfl rfl (OF.pickF (VEv.tmpB rfl (nkT (dy fhg64_6))) (VEv.bool false)) (fO (OF.pickF (VEv.tmpB rfl (nz fhg71_7)) (tv (tB false) rfl)) (nt (cf rfl (sk (vinB.n (tn ?_)))))))))))
        refine VRun.region (fO (xinc (tv (tN i) rfl) (VEv.int .i64 1) (by omega)) (mO (tN (i + 1)) rfl (VRunO.nil (tn ?_))))
        refine ⟨(i + 1 : Nat), ?_, ?_, Wk.mk (fun k => k) ?_ ?_ ?_⟩
        · refine allNext hI0 fhc1 ((stepOk_iff hx1).2 ?_)
          simp only [stepP, two]
          refine ⟨by omega, fun hk => ?_, fun hk => ?_⟩
          · (exfalso; omega)
          · (exfalso; omega)
        · omega
        · exact (b2 (b2 (b2 (b2 bn))))
        · exact bn
        · exact nd rfl
      refine offs 5 3 true 64 (dz fhg64_6) rfl rfl rfl (fO (OF.pickF (VEv.tmpB rfl (dz fhg64_6)) (VEv.bool false)) (mO (tB false) rfl (VRunO.free (VWant.on (b := false) rfl rfl rfl) (OF.fieldAddrO (tv (T.op 0 0) rfl) fa121_0) (VRunO.look (VWant.on (b := false) rfl rfl rfl) (OL.loadO1 (t := (tI x1.Kind)) (tv (T.op 0 0) rfl) rfl rfl st3) (VRunO.chain (VWant.on (b := false) rfl rfl rfl) (cS (vc (tv (tI x1.Kind) rfl) vn) (lps rfl) (W_impl_isPair (n + 1) x1.Kind ) rfl rfl) (VRunO.free (VWant.on (b := false) rfl rfl rfl) (xnot (tv (tB (decide (x1.Kind = 4 ∨ x1.Kind = 5))) rfl)) (VRunO.free (VWant.on (b := false) rfl rfl rfl) (OF.move (tv (tB (!(decide (x1.Kind = 4 ∨ x1.Kind = 5)))) rfl)) (glf (tI x1.B) (nkF (dz fhg64_6)) rfl rfl rfl rfl fa121_3 rfl rfl st3 (gF (nkF (dz fhg64_6)) rfl rfl (xne (tv (tI x1.B) rfl) (VEv.int .i64 0)) (VRunO.free (VWant.on (b := false) rfl rfl rfl) (OF.pickT (VEv.tmpB rfl (nkF (dz fhg64_6))) (tv (tB (!(decide (x1.B = 0)))) rfl)) (fO (OF.pickF (tv (tB false) rfl) (tv (tB (!(decide (x1.B = 0)))) rfl)) ?_)))))))))))
      refine nt ?_
      refine cn (x1.B = 0) rfl (fun fhc6 => ?_) fun fhc6 => ?_
      · refine sr ?_
        refine fO (OF.assign (VEv.bool false)) (nt (rt (vinB.r (tr (tr (vinB.r (tr (vb (b' := false) rfl ?_))))))))
        (symm; rw [decide_eq_false_iff_not]; rintro ⟨h1, h2⟩; (have h3 := (stepOk_iff hx1).1 (h2 i fhc1); obtain ⟨h4, h5, h6⟩ := h3; simp only [two] at h6; omega))
      refine sk (vinB.n (tn (VRun.region (fO (xinc (tv (tN i) rfl) (VEv.int .i64 1) (by omega)) (mO (tN (i + 1)) rfl (VRunO.nil (tn ?_)))))))
      refine ⟨(i + 1 : Nat), ?_, ?_, Wk.mk (fun k => k) ?_ ?_ ?_⟩
      · refine allNext hI0 fhc1 ((stepOk_iff hx1).2 ?_)
        simp only [stepP, two]
        refine ⟨by omega, fun hk => ?_, fun hk => ?_⟩
        · (exfalso; omega)
        · (refine ⟨?_, ?_, fun h => ?_, fun h => ?_, fun h1 h2 => ?_⟩ <;> first | assumption | omega | (refine ⟨x2, hx2, ?_⟩; omega))
      · omega
      · exact (b2 (b2 (b2 (b2 bn))))
      · exact bn
      · exact nd rfl
    refine offs 7 14 true 51 (dz fhg51_5) rfl rfl rfl (gF (nz fhg47_4) rfl rfl (OF.pickF (VEv.tmpB rfl (dz fhg51_5)) (VEv.bool false)) (fO (OF.pickF (VEv.tmpB rfl (nz fhg47_4)) (tv (tB false) rfl)) (nt (cf rfl (sk (tn (sr (lf (tI x1.Kind) rfl fa121_0 rfl rfl st3 (cO (cS (vc (tv (tI x1.Kind) rfl) vn) (lps rfl) (W_impl_isPair (n + 1) x1.Kind ) rfl rfl) (mO (tB (decide (x1.Kind = 4 ∨ x1.Kind = 5))) rfl ?_))))))))))
    refine gw (x1.Kind = 4 ∨ x1.Kind = 5) (fun fhg64_8 => ?_) fun fhg64_8 => ?_
    · refine glf (tI x1.B) (dy fhg64_8) rfl rfl rfl rfl fa121_3 rfl rfl st3 ?_
      refine gF (dy fhg64_8) rfl rfl (OF.move (tv (tN i) rfl)) (VRunO.chain (VWant.on rfl rfl (dy fhg64_8)) (cS (vc (tv (tI x1.B) rfl) (vc (tv (tN i) rfl) vn)) (lps rfl) (W_impl_at (n + 1) x1.B ((i : Nat) : Int) ) rfl rfl) (gF (dy fhg64_8) rfl rfl (xnot (tv (tB (decide (0 ≤ x1.B ∧ x1.B < ((i : Nat) : Int)))) rfl)) (fO (OF.pickT (VEv.tmpB rfl (dy fhg64_8)) (tv (tB (!(decide (0 ≤ x1.B ∧ x1.B < ((i : Nat) : Int))))) rfl)) (mO (tB (!(decide (0 ≤ x1.B ∧ x1.B < ((i : Nat) : Int))))) rfl ?_))))
      refine gn (0 ≤ x1.B ∧ x1.B < ((i : Nat) : Int)) (fun fhg71_9 => ?_) fun fhg71_9 => ?_
      · refine offs 5 10 false 71 (ny fhg71_9) rfl rfl rfl ?_
        refine offu 3 15 true 76 rfl rfl rfl (oO rfl rfl (ny fhg71_9) (fO (OF.pickT (VEv.tmpB rfl (ny fhg71_9)) (VEv.bool true)) (nt (ct rfl (sr (fO (OF.assign (VEv.bool false)) (nt (rt (vinB.r (tr (tr ?_)))))))))))
        refine vinB.r (tr (vb (b' := false) rfl ?_))
        (symm; rw [decide_eq_false_iff_not]; rintro ⟨h1, h2⟩; (have h3 := (stepOk_iff hx1).1 (h2 i fhc1); obtain ⟨h4, h5, h6⟩ := h3; simp only [two] at h6; omega))
      refine glf (tI x1.Kind) (nz fhg71_9) rfl rfl rfl rfl fa121_0 rfl rfl st3 (VRunO.chain (VWant.on rfl rfl (nz fhg71_9)) (cS (vc (tv (tI x1.Kind) rfl) vn) (lps rfl) (W_impl_isPair (n + 1) x1.Kind ) rfl rfl) (gF (nz fhg71_9) rfl rfl (xnot (tv (tB (decide (x1.Kind = 4 ∨ x1.Kind = 5))) rfl)) (gF (nz fhg71_9) rfl rfl (OF.move (tv (tB (!(decide (x1.Kind = 4 ∨ x1.Kind = 5)))) rfl)) (offs 3 15 true 76 (nkT (dy fhg64_8)) rfl rfl rfl (gF (nz fhg71_9) rfl rfl (OF.pickF (VEv.tmpB rfl (nkT (dy fhg64_8))) (VEv.bool false)) (fO (OF.pickF (VEv.tmpB rfl (nz fhg71_9)) (tv (tB false) rfl)) (nt (cf rfl (sk (vinB.n (tn ?_)))))))))))
      refine VRun.region (fO (xinc (tv (tN i) rfl) (VEv.int .i64 1) (by omega)) (mO (tN (i + 1)) rfl (VRunO.nil (tn ?_))))
      refine ⟨(i + 1 : Nat), ?_, ?_, Wk.mk (fun k => k) ?_ ?_ ?_⟩
      · refine allNext hI0 fhc1 ((stepOk_iff hx1).2 ?_)
        simp only [stepP, two]
        refine ⟨by omega, fun hk => ?_, fun hk => ?_⟩
        · (exfalso; omega)
        · (refine ⟨?_, ?_, fun h => ?_, fun h => ?_, fun h1 h2 => ?_⟩ <;> first | assumption | omega)
      · omega
      · exact (b2 (b2 (b2 (b2 bn))))
      · exact bn
      · exact nd rfl
    refine offs 5 3 true 64 (dz fhg64_8) rfl rfl rfl (fO (OF.pickF (VEv.tmpB rfl (dz fhg64_8)) (VEv.bool false)) (mO (tB false) rfl (VRunO.free (VWant.on (b := false) rfl rfl rfl) (OF.fieldAddrO (tv (T.op 0 0) rfl) fa121_0) (VRunO.look (VWant.on (b := false) rfl rfl rfl) (OL.loadO1 (t := (tI x1.Kind)) (tv (T.op 0 0) rfl) rfl rfl st3) (VRunO.chain (VWant.on (b := false) rfl rfl rfl) (cS (vc (tv (tI x1.Kind) rfl) vn) (lps rfl) (W_impl_isPair (n + 1) x1.Kind ) rfl rfl) (VRunO.free (VWant.on (b := false) rfl rfl rfl) (xnot (tv (tB (decide (x1.Kind = 4 ∨ x1.Kind = 5))) rfl)) (VRunO.free (VWant.on (b := false) rfl rfl rfl) (OF.move (tv (tB (!(decide (x1.Kind = 4 ∨ x1.Kind = 5)))) rfl)) (glf (tI x1.B) (nkF (dz fhg64_8)) rfl rfl rfl rfl fa121_3 rfl rfl st3 (gF (nkF (dz fhg64_8)) rfl rfl (xne (tv (tI x1.B) rfl) (VEv.int .i64 0)) (VRunO.free (VWant.on (b := false) rfl rfl rfl) (OF.pickT (VEv.tmpB rfl (nkF (dz fhg64_8))) (tv (tB (!(decide (x1.B = 0)))) rfl)) (fO (OF.pickF (tv (tB false) rfl) (tv (tB (!(decide (x1.B = 0)))) rfl)) ?_)))))))))))
    refine nt ?_
    refine cn (x1.B = 0) rfl (fun fhc6 => ?_) fun fhc6 => ?_
    · refine sr ?_
      refine fO (OF.assign (VEv.bool false)) (nt (rt (vinB.r (tr (tr (vinB.r (tr (vb (b' := false) rfl ?_))))))))
      (symm; rw [decide_eq_false_iff_not]; rintro ⟨h1, h2⟩; (have h3 := (stepOk_iff hx1).1 (h2 i fhc1); obtain ⟨h4, h5, h6⟩ := h3; simp only [two] at h6; omega))
    refine sk (vinB.n (tn (VRun.region (fO (xinc (tv (tN i) rfl) (VEv.int .i64 1) (by omega)) (mO (tN (i + 1)) rfl (VRunO.nil (tn ?_)))))))
    refine ⟨(i + 1 : Nat), ?_, ?_, Wk.mk (fun k => k) ?_ ?_ ?_⟩
    · refine allNext hI0 fhc1 ((stepOk_iff hx1).2 ?_)
      simp only [stepP, two]
      refine ⟨by omega, fun hk => ?_, fun hk => ?_⟩
      · (exfalso; omega)
      · (refine ⟨?_, ?_, fun h => ?_, fun h => ?_, fun h1 h2 => ?_⟩ <;> first | assumption | omega)
    · omega
    · exact (b2 (b2 (b2 (b2 bn))))
    · exact bn
    · exact nd rfl
  refine VRun.exit (vthn.e (vthn.e (vinB.e (tn (sr (fO (OF.assign (VEv.bool true)) (nt (rt (vb (b' := true) rfl ?_)))))))))
  (symm; rw [decide_eq_true_eq]; exact ⟨by omega, allEnd hI' fhc1⟩)
end Go.Proofs.YtcccmceoplcciaaGreat.AE
namespace Go.Proofs.YtcccmceoplcciaaGreat.AE
open Go Go.RowKit
set_option linter.unusedVariables false
set_option linter.unusedSimpArgs false
set_option maxRecDepth 20000
set_option maxHeartbeats 2000000
theorem W_spec_IsClue (n : Nat) (a : D.Clue) (hz : zClue a ≤ mx) : Pure (acall Tryz.prog (n + 5)) 99 [(T.agg (eClue false a))] (tB (decide ((1 ≤ a.Sense ∧ a.Sense ≤ 99) ∧ isPlay a.Play))) := by
  refine Pure.intro (rs := [ResultVar.tmp 2]) Tryz.func99 rfl rfl rfl (E0 := [(0, (T.agg (eClue false a)))]) rfl ?_
  obtain ⟨hlim, hmx, hmax⟩ := lims
  simp only [zClue] at hz
  refine sr (kO (B.box (ts := (eClue false a)) (tv (T.agg (eClue false a)) rfl) nofun rfl) (fO (OF.assign (VEv.bool false)) (nt (sr (lf (tI a.Sense) rfl fa83_0 rfl rfl st3 (cO (cS (vc (tv (tI a.Sense) rfl) (vc (VEv.int .i64 1) (vc (VEv.int .i64 99) vn))) (lps rfl) (W_spec_l1In (n + 3) a.Sense 1 99 ) rfl rfl) (mO (tB (decide (1 ≤ a.Sense ∧ a.Sense ≤ 99))) rfl ?_)))))))
  refine gw (1 ≤ a.Sense ∧ a.Sense ≤ 99) (fun fhg6_1 => ?_) fun fhg6_1 => ?_
  · refine glf (rd 4 eStep a.Play) (dy fhg6_1) rfl rfl rfl rfl fa83_1 rfl rfl st81 ?_
    refine VRunO.chain (VWant.on rfl rfl (dy fhg6_1)) (cS (vc (tv (rd 4 eStep a.Play) rfl) vn) (lps rfl) (W_spec_IsPlay (n + 0) a.Play (by assumption)) rfl rfl) (fO (OF.pickT (VEv.tmpB rfl (dy fhg6_1)) (tv (tB (decide (isPlay a.Play))) rfl)) (aO (tB (decide (isPlay a.Play))) rfl (nt (rt (vb (b' := (decide (isPlay a.Play))) rfl ?_)))))
    (refine decN ⟨fun h => ⟨?_, h⟩, fun h => h.2⟩; assumption)
  refine offs 3 3 true 6 (dz fhg6_1) rfl rfl rfl (fO (OF.pickF (VEv.tmpB rfl (dz fhg6_1)) (VEv.bool false)) (aO (tB false) rfl (nt (rt (vb (b' := false) rfl ?_)))))
  (symm; rw [decide_eq_false_iff_not]; rintro ⟨h1, h2⟩; contradiction)
theorem W_impl_IsClue (n : Nat) (a : D.Clue) (hz : zClue a ≤ mx) : Pure (acall Tryz.prog (n + 4)) 110 [(T.agg (eClue false a))] (tB (decide ((1 ≤ a.Sense ∧ a.Sense ≤ 99) ∧ isPlay a.Play))) := by
  refine Pure.intro (rs := [ResultVar.tmp 2]) Tryz.func110 rfl rfl rfl (E0 := [(0, (T.agg (eClue false a)))]) rfl ?_
  obtain ⟨hlim, hmx, hmax⟩ := lims
  simp only [zClue] at hz
  refine sr (kO (B.box (ts := (eClue false a)) (tv (T.agg (eClue false a)) rfl) nofun rfl) (fO (OF.assign (VEv.bool false)) (nt (sr (lf (tI a.Sense) rfl fa83_0 rfl rfl st3 (cO (cS (vc (tv (tI a.Sense) rfl) (vc (VEv.int .i64 1) (vc (VEv.int .i64 99) vn))) (lps rfl) (W_impl_InRange (n + 2) a.Sense 1 99 ) rfl rfl) (mO (tB (decide (1 ≤ a.Sense ∧ a.Sense ≤ 99))) rfl ?_)))))))
  refine gw (1 ≤ a.Sense ∧ a.Sense ≤ 99) (fun fhg6_1 => ?_) fun fhg6_1 => ?_
  · refine glf (rd 4 eStep a.Play) (dy fhg6_1) rfl rfl rfl rfl fa83_1 rfl rfl st81 ?_
    refine VRunO.chain (VWant.on rfl rfl (dy fhg6_1)) (cS (vc (tv (rd 4 eStep a.Play) rfl) vn) (lps rfl) (W_impl_IsPlay (n + 0) a.Play (by assumption)) rfl rfl) (fO (OF.pickT (VEv.tmpB rfl (dy fhg6_1)) (tv (tB (decide (isPlay a.Play))) rfl)) (aO (tB (decide (isPlay a.Play))) rfl (nt (rt (vb (b' := (decide (isPlay a.Play))) rfl ?_)))))
    (refine decN ⟨fun h => ⟨?_, h⟩, fun h => h.2⟩; assumption)
  refine offs 3 3 true 6 (dz fhg6_1) rfl rfl rfl (fO (OF.pickF (VEv.tmpB rfl (dz fhg6_1)) (VEv.bool false)) (aO (tB false) rfl (nt (rt (vb (b' := false) rfl ?_)))))
  (symm; rw [decide_eq_false_iff_not]; rintro ⟨h1, h2⟩; contradiction)
end Go.Proofs.YtcccmceoplcciaaGreat.AE
namespace Go.Proofs.YtcccmceoplcciaaGreat.AE
open Go Go.RowKit
set_option linter.unusedVariables false
set_option linter.unusedSimpArgs false
set_option maxRecDepth 20000
set_option maxHeartbeats 2000000
theorem W_slices_Equal_int_int_ (n : Nat) (a : List Int) (b : List Int) (hla : a.length ≤ mx) (hlb : b.length ≤ mx) : Pure (acall Tryz.prog (n + 1)) 66 [(rd 1 eInt a), (rd 1 eInt b)] (tB (decide (a = b))) := by
  refine Pure.intro (rs := [ResultVar.tmp 4]) Tryz.func66 rfl rfl rfl (E0 := [(0, (rd 1 eInt a)), (1, (rd 1 eInt b))]) rfl ?_
  obtain ⟨hlim, hmx, hmax⟩ := lims
  refine sr (fO (OF.assign (VEv.bool false)) (nt (sq (sr (mO (rd 1 eInt a) rfl (lO (B.lenR (m := a.length) (tv (rd 1 eInt a) rfl) U25 (List.length_map ..)) (mO (rd 1 eInt b) rfl (lO (B.lenR (m := b.length) (tv (rd 1 eInt b) rfl) U25 (List.length_map ..)) (fO (xne' (tv (tN a.length) rfl) (tv (tN b.length) rfl)) (nt ?_))))))))))
  refine cn (a.length = b.length) rfl (fun fhc0 => ?_) fun fhc0 => ?_
  · refine sr ?_
    refine fO (OF.assign (VEv.bool false)) (nt (rt (tr (vb (b' := false) rfl ?_))))
    symm; rw [decide_eq_false_iff_not]; rintro rfl; exact fhc0 rfl
  refine sk (tn (sq (sr (mO (rd 1 eInt a) rfl (lO (B.lenR (m := a.length) (tv (rd 1 eInt a) rfl) U25 (List.length_map ..)) (fO (OF.move (VEv.int .i64 0)) (nt (VRun.block ?_))))))))
  refine VRun.loop (A := Nat) (fun s_ => [(0, (rd 1 eInt a)), (1, (rd 1 eInt b)), (12, (tN a.length)), (13, (tN s_))]) (fun s_ => mkO []) 0 (fun s_ => s_ ≤ a.length ∧ ∀ j, j < s_ → a[j]? = b[j]?) (fun s_ => a.length - s_) (0 : Nat) ?_ (Wk.mk (fun k => k) ?_ ?_ ?_) ?_
  · first | trivial | (simp; done) | omega | (constructor <;> simp)
  · exact (b2 (b2 (b2 (b2 bn))))
  · exact bn
  · exact nd rfl
  rintro i (hI' : i ≤ a.length ∧ ∀ j, j < i → a[j]? = b[j]?)
  show VRun _ _ _ [(0, (rd 1 eInt a)), (1, (rd 1 eInt b)), (12, (tN a.length)), (13, (tN i))] (mkO []) 0 _
  refine sr (fO (xls' (tv (tN i) rfl) (tv (tN a.length) rfl)) (nt (sq ?_)))
  refine cd (i < a.length) rfl (fun fhc1 => ?_) fun fhc1 => ?_
  · refine sk ?_
    refine tn (sq (VRun.block (sr (mO (tN i) rfl (aO (tN i) rfl (nt (sq (VRun.draw (B := [[], [], [1, 0], [0, 1, 2], [], [], [5, 4], [4, 5, 6], [6, 5, 4, 7, 2, 1, 0, 3]]) (by kernel_rfl) (by kernel_rfl) (mD (rd 1 eInt a) rfl rfl (mD (tN i) rfl rfl ?_))))))))))
    obtain ⟨x1, hx1⟩ : ∃ x, a[i]? = some x := ⟨_, List.getElem?_eq_getElem (by omega)⟩
    refine fD (OF.indexAddrR (row := (eInt false x1)) (i := i) (tv (rd 1 eInt a) rfl) (tv (tN i) rfl) rfl (map_at _ hx1) U25 sz3 if3) rfl rfl (lD (OL.loadR1 (t := (tI x1)) (tv (T.rp [(tI x1)]) rfl) rfl st3) rfl rfl (mD (rd 1 eInt b) rfl rfl (mD (tN i) rfl rfl ?_)))
    obtain ⟨x2, hx2⟩ : ∃ x, b[i]? = some x := ⟨_, List.getElem?_eq_getElem (by omega)⟩
    refine fD (OF.indexAddrR (row := (eInt false x2)) (i := i) (tv (rd 1 eInt b) rfl) (tv (tN i) rfl) rfl (map_at _ hx2) U25 sz3 if3) rfl rfl (lD (OL.loadR1 (t := (tI x2)) (tv (T.rp [(tI x2)]) rfl) rfl st3) rfl rfl (fD (xne (tv (tI x1) rfl) (tv (tI x2) rfl)) rfl rfl (VRunD.nil (tn ?_))))
    refine cn (x1 = x2) rfl (fun fhc2 => ?_) fun fhc2 => ?_
    · refine sr ?_
      refine fO (OF.assign (VEv.bool false)) (nt (rt (vinB.r (tr (tr (vinB.r (tr (vb (b' := false) rfl ?_))))))))
      symm; rw [decide_eq_false_iff_not]; exact agree_not hx1 hx2 fhc2
    refine sk (vinB.n (tn (VRun.region (fO (xinc (tv (tN i) rfl) (VEv.int .i64 1) (by omega)) (mO (tN (i + 1)) rfl (VRunO.nil (tn ?_)))))))
    refine ⟨(i + 1 : Nat), ?_, ?_, Wk.mk (fun k => k) ?_ ?_ ?_⟩
    · exact agree_next hI' hx1 hx2 fhc2
    · first | omega | (simp only []; omega) | (show _ < _; omega) | (simp; omega)
    · exact (b2 (b2 (b2 (b2 bn))))
    · exact bn
    · exact nd rfl
  refine VRun.exit (vthn.e (vthn.e (vinB.e (tn (sr (fO (OF.assign (VEv.bool true)) (nt (rt (vb (b' := true) rfl ?_)))))))))
  symm; rw [decide_eq_true_eq]; exact agree_all hI' fhc0 fhc1
end Go.Proofs.YtcccmceoplcciaaGreat.AE
namespace Go.Proofs.YtcccmceoplcciaaGreat.AE
open Go Go.RowKit
set_option linter.unusedVariables false
set_option linter.unusedSimpArgs false
set_option maxRecDepth 20000
set_option maxHeartbeats 2000000
noncomputable section
def revI (a : List Int) (i : Nat) : List Int := (List.range a.length).map fun j => if j < i ∨ a.length ≤ j + i then a.getD (a.length - 1 - j) 0 else a.getD j 0
theorem revI_len (a : List Int) (i : Nat) : (revI a i).length = a.length := by simp [revI]
theorem revI_at {a : List Int} {i j : Nat} (h : j < a.length) : (revI a i)[j]? = some (if j < i ∨ a.length ≤ j + i then a.getD (a.length - 1 - j) 0 else a.getD j 0) := by
  unfold revI
  rw [List.getElem?_map, List.getElem?_range h]
  rfl
theorem revI_zero (a : List Int) : revI a 0 = a := by
  refine List.ext_getElem? fun j => ?_
  rcases Nat.lt_or_ge j a.length with h | h
  · rw [revI_at h, if_neg (by omega), List.getD_eq_getElem?_getD, List.getElem?_eq_getElem h]
    rfl
  · rw [List.getElem?_eq_none (by rw [revI_len]; exact h), List.getElem?_eq_none h]
theorem revI_end {a : List Int} {i : Nat} (h : a.length ≤ 2 * i + 1) (h2 : i ≤ a.length) : revI a i = a.reverse := by
  refine List.ext_getElem? fun j => ?_
  rcases Nat.lt_or_ge j a.length with h3 | h3
  · rw [revI_at h3, List.getElem?_reverse h3, List.getElem?_eq_getElem (by omega)]
    split
    · rw [List.getD_eq_getElem?_getD, List.getElem?_eq_getElem (by omega)]; rfl
    · have e : a.length - 1 - j = j := by omega
      rw [List.getD_eq_getElem?_getD, List.getElem?_eq_getElem h3]
      simp only [Option.getD_some, e]
  · rw [List.getElem?_eq_none (by rw [revI_len]; exact h3), List.getElem?_eq_none (by simpa using h3)]
theorem revI_step {a : List Int} {i k : Nat} {x y : Int} (hk : k = a.length - 1 - i) (hi : i < k) (hx : (revI a i)[k]? = some x) (hy : (revI a i)[i]? = some y) : ((revI a i).set i x).set k y = revI a (i + 1) := by
  subst hk
  rw [revI_at (by omega), if_neg (by omega)] at hx hy
  obtain rfl := Option.some.inj hx
  obtain rfl := Option.some.inj hy
  refine List.ext_getElem? fun j => ?_
  rcases Nat.lt_or_ge j a.length with h | h
  · rw [revI_at h, List.getElem?_set, List.getElem?_set, List.length_set, revI_len, revI_at h]
    by_cases e1 : a.length - 1 - i = j
    · rw [if_pos e1, if_pos (by omega), if_pos (by omega)]
      congr 2
      omega
    · rw [if_neg e1]
      by_cases e2 : i = j
      · rw [if_pos e2, if_pos (by omega), if_pos (by omega), e2]
      · rw [if_neg e2]
        by_cases e3 : j < i ∨ a.length ≤ j + i
        · rw [if_pos e3, if_pos (by omega)]
        · rw [if_neg e3, if_neg (by omega)]
  · rw [List.getElem?_eq_none (by rw [List.length_set, List.length_set, revI_len]; exact h), List.getElem?_eq_none (by rw [revI_len]; exact h)]
end
theorem W_slices_Reverse_byte_byte_ (n : Nat) (a : List Int) (ha : a.length ≤ lim) : Mut (acall Tryz.prog (n + 1)) 195 1 (a.map (eByte true)) [] none (a.reverse.map (eByte true)) := by
  refine Mut.intro (rt := 0) Tryz.func195 rfl rfl rfl (by kernel_rfl) (scMap (fun _ => rfl) _) (scMap (fun _ => rfl) _) (E0 := []) rfl ?_
  obtain ⟨hlim, hmx, hmax⟩ := lims
  refine sr (mO (T.os 1 0 0 ((a.map (eByte true)).length)) rfl (lO (B.lenO (m := a.length) (tv (T.os 1 0 0 ((a.map (eByte true)).length)) rfl) U132 (List.length_map ..)) (fO (B.sub (n := (((a.length : Nat) : Int) - 1)) (tv (tN a.length) rfl) (VEv.int .i64 1) (by (rw [wrap64 (by omega)]; done))) (fO (OF.assign (VEv.int .i64 0)) (aO (tI (((a.length : Nat) : Int) - 1)) rfl (nt (VRun.block ?_)))))))
  have he1 : a = revI a 0 := by exact (revI_zero a).symm
  refine VRun.loop (A := Nat) (fun s_ => [(0, (T.os 1 0 0 (((revI a s_).map (eByte true)).length))), (2, (tN s_)), (3, (tI ((a.length : Int) - 1 - s_)))]) (fun s_ => mkO [(0, (Obj.rows 1 ((revI a s_).map (eByte true))))]) 1 (fun s_ => 2 * s_ ≤ a.length + 1 ∧ s_ ≤ a.length) (fun s_ => a.length - s_) (0 : Nat) ?_ (Wk.mk (fun k => k) ?_ ?_ ?_) ?_
  · (simp; done)
  · exact (bc ⟨(congrArg (fun l_ => T.os 1 0 0 (List.map (eByte true) l_).length) he1), rfl⟩ (b2 (bc ⟨(congrArg (T.int .i64) (show (((a.length : Nat) : Int) - 1) = (a.length : Int) - 1 - 0 from (by omega))), rfl⟩ bn)))
  · exact (bc ⟨(congrArg (fun l_ => some (Obj.rows 1 (List.map (eByte true) l_))) he1), (lb rfl), rfl⟩ bn)
  · exact nd rfl
  rintro i (hI' : 2 * i ≤ a.length + 1 ∧ i ≤ a.length)
  show VRun _ _ _ [(0, (T.os 1 0 0 (((revI a i).map (eByte true)).length))), (2, (tN i)), (3, (tI ((a.length : Int) - 1 - i)))] (mkO [(0, (Obj.rows 1 ((revI a i).map (eByte true))))]) 1 _
  have hml := revI_len a i
  have hI1 := hI'.1
  have hI2 := hI'.2
  refine sq (sr (mO (tN i) rfl (mO (tI ((a.length : Int) - 1 - i)) rfl (fO (xls (tv (tN i) rfl) (tv (tI ((a.length : Int) - 1 - i)) rfl)) (nt ?_)))))
  refine cd (((i : Nat) : Int) < (a.length : Int) - 1 - i) rfl (fun fhc0 => ?_) fun fhc0 => ?_
  · refine sk ?_
    refine tn (sq (VRun.block (VRun.draw (B := [[], [], [], [], [], [], [5, 4], [4, 5, 6], [], [], [9, 8], [8, 9, 10], [10, 9, 8, 11, 7, 6, 5, 4, 1, 0], [0, 1, 4, 5, 6, 7, 11, 8, 9, 10, 12], [13, 12, 11, 10, 9, 8, 7, 6, 5, 4, 1, 0, 3, 2], [2, 3, 0, 1, 4, 5, 6, 7, 8, 9, 10, 11, 12, 13, 14]]) (by kernel_rfl) (by kernel_rfl) (mD (T.os 1 0 0 (((revI a i).map (eByte true)).length)) rfl rfl (mD (tN i) rfl rfl (mD (T.os 1 0 0 (((revI a i).map (eByte true)).length)) rfl rfl (mD (tI ((a.length : Int) - 1 - i)) rfl rfl (mD (T.os 1 0 0 (((revI a i).map (eByte true)).length)) rfl rfl (mD (tI ((a.length : Int) - 1 - i)) rfl rfl ?_)))))))))
    obtain ⟨x1, hx1⟩ : ∃ x, (revI a i)[(Int.toNat ((a.length : Int) - 1 - i))]? = some x := ⟨_, List.getElem?_eq_getElem (by omega)⟩
    refine fD (B.indexAddrO (i := (Int.toNat ((a.length : Int) - 1 - i))) (tv (T.os 1 0 0 (((revI a i).map (eByte true)).length)) rfl) (tv (tI ((a.length : Int) - 1 - i)) rfl) (by omega) (by (simp only [List.length_map]; omega)) U132 sz5 if5) rfl rfl (lD (OL.loadP1 (t := (T.int .u8 x1)) (row := (eByte true x1)) (tv (T.orp 1 0 (Int.toNat ((a.length : Int) - 1 - i)) 0) rfl) rfl (map_at _ hx1) rfl rfl st5) rfl rfl (mD (T.os 1 0 0 (((revI a i).map (eByte true)).length)) rfl rfl (mD (tN i) rfl rfl ?_)))
    obtain ⟨x2, hx2⟩ : ∃ x, (revI a i)[i]? = some x := ⟨_, List.getElem?_eq_getElem (by omega)⟩
    refine fD (B.indexAddrO (i := i) (tv (T.os 1 0 0 (((revI a i).map (eByte true)).length)) rfl) (tv (tN i) rfl) rfl (by (simp only [List.length_map]; omega)) U132 sz5 if5) rfl rfl (lD (OL.loadP1 (t := (T.int .u8 x2)) (row := (eByte true x2)) (tv (T.orp 1 0 i 0) rfl) rfl (map_at _ hx2) rfl rfl st5) rfl rfl (fD (B.indexAddrO (i := i) (tv (T.os 1 0 0 (((revI a i).map (eByte true)).length)) rfl) (tv (tN i) rfl) rfl (by (simp only [List.length_map]; omega)) U132 sz5 if5) rfl rfl (VRunD.chain (bi := [0, 1, 4, 5, 6, 7, 11, 8, 9, 10, 12]) rfl VWant.always rfl rfl rfl (by kernel_rfl) (B.storeP (us := [(T.int .u8 x1)]) (rows' := (((revI a i).set i x1).map (eByte true))) (row := (eByte true x2)) (tv (T.orp 1 0 i 0) rfl) (tv (T.int .u8 x1) rfl) nofun rfl (map_at _ hx2) rfl (lb rfl) if5 sz5 (bc rfl bn) (by intro r hr t ht; obtain ⟨x, _, rfl⟩ := List.mem_map.1 hr; rw [flByte] at ht; exact isPl_flat (okByte.pl _ t ht)) (set_mapE rfl)) ?_)))
    obtain ⟨x3, hx3⟩ : ∃ x, ((revI a i).set i x1)[(Int.toNat ((a.length : Int) - 1 - i))]? = some x := ⟨_, List.getElem?_eq_getElem (by (simp only [List.length_set]; omega))⟩
    refine fD (B.indexAddrO (i := (Int.toNat ((a.length : Int) - 1 - i))) (tv (T.os 1 0 0 (((revI a i).map (eByte true)).length)) rfl) (tv (tI ((a.length : Int) - 1 - i)) rfl) (by omega) (by (simp only [List.length_map]; omega)) U132 sz5 if5) rfl rfl (VRunD.chain (bi := [2, 3, 0, 1, 4, 5, 6, 7, 8, 9, 10, 11, 12, 13, 14]) rfl VWant.always rfl rfl rfl (by kernel_rfl) (B.storeP (us := [(T.int .u8 x2)]) (rows' := ((((revI a i).set i x1).set (Int.toNat ((a.length : Int) - 1 - i)) x2).map (eByte true))) (row := (eByte true x3)) (tv (T.orp 1 0 (Int.toNat ((a.length : Int) - 1 - i)) 0) rfl) (tv (T.int .u8 x2) rfl) nofun rfl (map_at _ hx3) rfl (lb rfl) if5 sz5 (bc rfl bn) (by intro r hr t ht; obtain ⟨x, _, rfl⟩ := List.mem_map.1 hr; rw [flByte] at ht; exact isPl_flat (okByte.pl _ t ht)) (set_mapE rfl)) (VRunD.nil (vinB.n (tn (VRun.region (mO (tN i) rfl (fO (xinc (tv (tN i) rfl) (VEv.int .i64 1) (by omega)) (mO (tI ((a.length : Int) - 1 - i)) rfl (fO (B.sub (n := ((a.length : Int) - 1 - i - 1)) (tv (tI ((a.length : Int) - 1 - i)) rfl) (VEv.int .i64 1) (by (rw [wrap64 (by omega)]; done))) (aO (tN (i + 1)) rfl (aO (tI ((a.length : Int) - 1 - i - 1)) rfl ?_)))))))))))
    refine VRunO.nil (tn ?_)
    have hml2 := revI_len a (i + 1)
    have he2 : (((revI a i).set i x1).set (Int.toNat ((a.length : Int) - 1 - i)) x2) = revI a (i + 1) := by (refine revI_step ?_ ?_ hx1 hx2 <;> omega)
    refine ⟨(i + 1 : Nat), ?_, ?_, Wk.mk (fun k => k) ?_ ?_ ?_⟩
    · omega
    · omega
    · exact (bc ⟨(congrArg (fun n_ => T.os 1 0 0 n_) (show ((revI a i).map (eByte true)).length = ((revI a (i + 1)).map (eByte true)).length from (by rw [List.length_map, List.length_map, hml, hml2]))), rfl⟩ (b2 (bc ⟨(congrArg (T.int .i64) (show ((a.length : Int) - 1 - i - 1) = (a.length : Int) - 1 - (i + 1) from (by omega))), rfl⟩ bn)))
    · exact (bc ⟨(congrArg (fun l_ => some (Obj.rows 1 (List.map (eByte true) l_))) he2), (lb rfl), rfl⟩ bn)
    · exact nd rfl
  refine VRun.exit (vthn.e (vthn.e (vinB.e ?_)))
  refine vmut.v (rows := ((revI a i).map (eByte true))) rfl rfl ?_ rfl
  · show List.map _ (revI a i) = List.map _ a.reverse
    refine congrArg (List.map _) ?_
    refine revI_end ?_ ?_ <;> omega
end Go.Proofs.YtcccmceoplcciaaGreat.AE
