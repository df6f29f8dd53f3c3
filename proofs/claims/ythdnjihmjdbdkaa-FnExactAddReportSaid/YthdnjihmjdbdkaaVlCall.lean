/- Contracts over trees: what a call lends, what it gives; a call within a call; states that tell less. Conditions: none. -/
import Derived.Test.YthdnjihmjdbdkaaVlOps4
namespace Go.Proofs.Ythdnjihmjdbdkaa.AE
open Go Go.RowKit
set_option linter.unusedVariables false
set_option linter.unusedSimpArgs false
/-- What a call gives: it hangs on no cells but new ones. -/
def RES (p : Nat) (h h' : AH) (r : T) (v : Value) : Prop := ∃ N, S (fun _ => none) h' r v N ∧ N.Nodup ∧ ∀ a ∈ N, Under p a ∧ h a = none
/-- Called with what reads as ts, f gives what reads as r, and leaves what stood. -/
def Pure (call : CallT) (f : FuncId) (ts : List T) (r : T) : Prop := ∀ (h : AH) (p : Nat) (vs : List Value), Fr p h → RL h ts vs → CallS call f vs h p (fun v h' => Quiet h h' ∧ RES p h h' r v)
/-! ### lending -/
def Lend (O : Objs) (t t' : T) : Prop := ∀ (p : Nat) (h0 : LB) (σ : Nat → Option Nat) (hf : AH) (own : Nat → Option Nat) (E : Env) (nx : Nat) (Ea : Nat → Value) (h : AH) (v : Value), SR p h0 σ hf own E O nx Ea h → V σ hf nx t v → R h t' v
def LendL (O : Objs) (ts ts' : List T) : Prop := ts.length = ts'.length ∧ ∀ i, i < ts.length → Lend O (ts.getD i .any) (ts'.getD i .any)
section
variable {O : Objs} {t t' : T} {ts ts' : List T}
theorem SR.fr {p nx : Nat} {h0 : LB} {hf h : AH} {σ own : Nat → Option Nat} {E : Env} {Ea : Nat → Value} (hs : SR p h0 σ hf own E O nx Ea h) : ∀ a o, hf a = some o → h a = some o := fun a o ho => (hs.fro a o ho).1
theorem Lend.pl (h : isPl t = true) : Lend O t t := fun p h0 σ hf own E nx Ea H v hs hv => (hv.pl h).mono hs.fr
theorem LendL.nil : LendL O [] [] := ⟨rfl, fun i hi => by simp at hi⟩
theorem LendL.cons (h : Lend O t t') (hr : LendL O ts ts') : LendL O (t :: ts) (t' :: ts') := by
  refine ⟨by simp [hr.1], fun i hi => ?_⟩
  cases i with
  | zero => simpa using h
  | succ i => simpa using hr.2 i (by simpa using hi)
theorem LendL.app {us us' : List T} (h : LendL O ts ts') (hr : LendL O us us') : LendL O (ts ++ us) (ts' ++ us') := by
  refine ⟨by simp [h.1, hr.1], fun i hi => ?_⟩
  rcases Nat.lt_or_ge i ts.length with h1 | h1
  · have := h.2 i h1
    rw [List.getD_eq_getElem?_getD, List.getD_eq_getElem?_getD] at this ⊢
    rwa [List.getElem?_append_left h1, List.getElem?_append_left (by rw [← h.1]; exact h1)]
  · rw [List.length_append] at hi
    have := hr.2 (i - ts.length) (by omega)
    rw [List.getD_eq_getElem?_getD, List.getD_eq_getElem?_getD] at this ⊢
    rwa [List.getElem?_append_right h1, List.getElem?_append_right (by rw [← h.1]; exact h1), ← h.1]
theorem LendL.V {p nx : Nat} {h0 : LB} {hf h : AH} {σ own : Nat → Option Nat} {E : Env} {Ea : Nat → Value} {vs : List Value} (hl : LendL O ts ts') (hs : SR p h0 σ hf own E O nx Ea h) (hv : VL σ hf nx ts vs) : RL h ts' vs :=
  ⟨by rw [← hl.1]; exact hv.1, fun i hi => hl.2 i (by rw [hl.1]; exact hi) p h0 σ hf own E nx Ea h _ hs (hv.2 i (by rw [hl.1]; exact hi))⟩
theorem Lend.os {sz k n : Nat} {rows rows' : List (List T)} (hk : gO O k = some (.rows sz rows)) (hn : n = rows.length) (hz : fzLL rows = rows') : Lend O (.os sz k 0 n) (.sl false sz rows') := fun p h0 σ hf own E nx Ea h v hs hv => by
  subst hn
  subst hz
  obtain ⟨N, hN1, hN2, h3⟩ := hs.objAt hk
  obtain ⟨hk', ⟨a, m, rfl, h4, h5⟩ | ⟨h4, _, h5, h6⟩⟩ := hv.osInv
  · rw [h4] at h3
    cases h3 with
    | rows hh hodd hlen hfit hsl =>
      have hS := S.ow sz rows m h5 hh hodd hlen hfit hsl
      have := hS.fzR hs.fr (fun _ _ _ e => e)
      rw [Nat.zero_mul]
      simpa only [fz] using this
  · obtain rfl := List.eq_nil_of_length_eq_zero h5
    rcases h6 with rfl | ⟨a, o, rfl⟩
    · exact .sl0 sz
    · exact .sle sz a o 0
theorem Lend.op {k o : Nat} {us us' : List T} (hk : gO O k = some (.cells us)) (hl : LendL O us us') (ho : o ≤ us.length) (he : us'.drop o = ts) : Lend O (.op k o) (.rp ts) := fun p h0 σ hf own E nx Ea h v hs hv => by
  subst he
  obtain ⟨N, hN1, hN2, h3⟩ := hs.objAt hk
  obtain ⟨a, rfl, h4, h5⟩ := hv.opInv
  rw [h4] at h3
  cases h3 with
  | cells hh hodd hvl =>
    have hr := hl.V hs hvl
    have e1 := hl.1
    refine .rp _ o hh (by rw [List.length_drop]; have := hr.1; omega) (fun i hi => ?_)
    rw [List.length_drop] at hi
    have := hr.2 (o + i) (by omega)
    rwa [List.getD_eq_getElem?_getD (l := us'.drop o), List.getElem?_drop, ← List.getD_eq_getElem?_getD]
theorem Lend.agg (hl : LendL O ts ts') : Lend O (.agg ts) (.agg ts') := fun p h0 σ hf own E nx Ea h v hs hv => by
  obtain ⟨l, rfl, h1⟩ := hv.aggL
  have h2 := hl.V hs h1
  exact .agg _ _ (by simpa using h2.1) (RLof h2)
theorem V.fnL {σ : Nat → Option Nat} {hf : AH} {nx : Nat} {f : FuncId} {ts : List T} {v : Value} (h : V σ hf nx (.fn f ts) v) : ∃ vs : List Value, v = .func (.func f) #[] vs.toArray ∧ VL σ hf nx ts vs := by
  cases h with
  | fz hr =>
    cases hr with
    | fn _ _ vs hs h => exact ⟨vs.toList, by simp, by simpa using hs, fun i hi => .fz (by have := h i hi; simpa [Array.getD_eq_getD_getElem?, List.getD_eq_getElem?_getD] using this)⟩
  | fn _ _ vs hs h => exact ⟨vs.toList, by simp, by simpa using hs, fun i hi => by have := h i hi; simpa [Array.getD_eq_getD_getElem?, List.getD_eq_getElem?_getD] using this⟩
theorem Lend.fn {f : FuncId} (hl : LendL O ts ts') : Lend O (.fn f ts) (.fn f ts') := fun p h0 σ hf own E nx Ea h v hs hv => by
  obtain ⟨l, rfl, h1⟩ := hv.fnL
  have h2 := hl.V hs h1
  exact .fn f _ _ (by simpa using h2.1) (RLof h2)
theorem Lend.nils {sz : Nat} : Lend O .nils (.sl false sz []) := fun p h0 σ hf own E nx Ea h v hs hv => by
  obtain rfl := hv.nilsInv
  exact .sl0 sz
end
/-! ### taking what is given -/
mutual
def adopt : Nat → T → T × List Obj
  | n, .sl true sz rows => (.os sz n 0 rows.length, [.rows sz rows])
  | n, .agg ts => (.agg (adoptL n ts).1, (adoptL n ts).2)
  | n, .tup ts => (.tup (adoptL n ts).1, (adoptL n ts).2)
  | _, .sl false sz rows => (.sl false sz rows, [])
  | _, .any => (.any, [])
  | _, .bool b => (.bool b, [])
  | _, .int k n => (.int k n, [])
  | _, .str s => (.str s, [])
  | _, .ptr0 => (.ptr0, [])
  | _, .fn0 => (.fn0, [])
  | _, .nils => (.nils, [])
  | _, .fn f cs => (.fn f cs, [])
  | _, .rp cs => (.rp cs, [])
  | _, .os sz k lo n => (.os sz k lo n, [])
  | _, .op k o => (.op k o, [])
  | _, .orp sz k i o => (.orp sz k i o, [])
  | _, .om k => (.om k, [])
def adoptL : Nat → List T → List T × List Obj
  | _, [] => ([], [])
  | n, t :: r => ((adopt n t).1 :: (adoptL (n + (adopt n t).2.length) r).1, (adopt n t).2 ++ (adoptL (n + (adopt n t).2.length) r).2)
end
def putOs : Objs → Nat → List Obj → Objs
  | O, _, [] => O
  | O, n, o :: r => putOs ((n, some o) :: O) (n + 1) r
theorem putOs_append : ∀ (a : List Obj) (O : Objs) (n : Nat) (b : List Obj), putOs O n (a ++ b) = putOs (putOs O n a) (n + a.length) b
  | [], O, n, b => by simp [putOs]
  | o :: r, O, n, b => by
    rw [List.cons_append, putOs, putOs, putOs_append r, List.length_cons, show n + 1 + r.length = n + (r.length + 1) by omega]
theorem adoptL_same : ∀ (ts : List T) (n : Nat), (∀ i, i < ts.length → ∀ n, adopt n (ts.getD i .any) = (ts.getD i .any, [])) → adoptL n ts = (ts, [])
  | [], n, _ => rfl
  | t :: r, n, h => by
    have h1 := h 0 (by simp) n
    simp only [List.getD_cons_zero] at h1
    unfold adoptL
    rw [h1, adoptL_same r _ (fun i hi n => by simpa using h (i + 1) (by simpa using hi) n)]
    rfl
theorem adopt_R {hf : AH} {t : T} {v : Value} (h : R hf t v) : ∀ n, adopt n t = (t, []) := by
  induction h with
  | agg ts vs hs _ ih => intro n; unfold adopt; rw [adoptL_same ts n ih]
  | tup ts vs hs _ ih => intro n; unfold adopt; rw [adoptL_same ts n ih]
  | _ => intro n; rfl
mutual
theorem S.names {hf h : AH} : ∀ {t : T} {v : Value} {N : List Nat}, S hf h t v N → ∀ a ∈ N, h a ≠ none
  | _, _, _, .fz hr, a, ha => by cases ha
  | _, _, _, .ow0 sz, a, ha => by cases ha
  | _, _, _, .owe sz b o, a, ha => by cases ha
  | _, _, _, .ow sz rows m hm hk hodd hlen hfit hs, a, ha => by
    rcases List.mem_cons.1 ha with rfl | ha
    · rw [hk]; simp
    · exact SL.names hs a ha
  | _, _, _, .agg hs, a, ha => SL.names hs a ha
  | _, _, _, .tup hs, a, ha => SL.names hs a ha
theorem SL.names {hf h : AH} : ∀ {t : List T} {v : List Value} {N : List Nat}, SL hf h t v N → ∀ a ∈ N, h a ≠ none
  | _, _, _, .nil, a, ha => by cases ha
  | _, _, _, .cons hs hr, a, ha => (List.mem_append.1 ha).elim (S.names hs a) (SL.names hr a)
end
section
variable {p : Nat} {h0 : LB} {hf h : AH} {E : Env} {Ea : Nat → Value}
open Classical in
theorem SR.take1 {σ own : Nat → Option Nat} {O : Objs} {nx : Nat} {oa : Option Nat} {N : List Nat} {obj : Obj} (hs : SR p h0 σ hf own E O nx Ea h) (hnd : N.Nodup) (hN : ∀ a ∈ N, UL p h0 a ∧ h0.h a = none ∧ h a ≠ none ∧ hf a = none ∧ own a = none) (ho : ∀ σ' nx', ObjR σ' hf nx' h obj oa N) :
    SR p h0 (fun k => if k = nx then oa else σ k) hf (fun a => if a ∈ N then some nx else own a) E ((nx, some obj) :: O) (nx + 1) Ea h := by
  have hx := hs.ext (nx' := nx + 1) (σ' := fun k => if k = nx then oa else σ k) (own' := fun a => if a ∈ N then some nx else own a) (h' := h) (by omega) (σnew _)
    (fun a k ha => by
      have : a ∉ N := fun hn => by rw [(hN a hn).2.2.2.2] at ha; cases ha
      simp only [if_neg this]
      exact ha)
    (fun a k ha => by
      split at ha
      · rename_i hn
        obtain ⟨h1, h2, h3, h4, h5⟩ := hN a hn
        obtain rfl := Option.some.inj ha
        exact .inr ⟨h1, h2, h3, by omega, h4⟩
      · exact .inl ha)
    (fun _ _ => rfl) hs.dom
  refine ⟨hx.env, fun k o hk => ?_, hx.fro, hx.mine, hx.base, hx.dom⟩
  simp only [gO] at hk
  split at hk
  · rename_i e
    subst e
    obtain rfl := Option.some.inj hk
    exact ⟨by omega, N, hnd, fun a ha => by simp only [if_pos ha], by simpa using ho _ _⟩
  · exact hx.obj k o hk
def Fresh (p : Nat) (h0 : LB) (hf h : AH) (own : Nat → Option Nat) (N : List Nat) : Prop := ∀ a ∈ N, UL p h0 a ∧ h0.h a = none ∧ h a ≠ none ∧ hf a = none ∧ own a = none
mutual
theorem S.adopt : ∀ {t : T} {v : Value} {N : List Nat} {σ own : Nat → Option Nat} {O : Objs} {nx : Nat}, S (fun _ => none) h t v N → SR p h0 σ hf own E O nx Ea h → N.Nodup → Fresh p h0 hf h own N →
    ∃ σ' own', SR p h0 σ' hf own' E (putOs O nx (adopt nx t).2) (nx + (adopt nx t).2.length) Ea h ∧ (∀ k, k < nx → σ' k = σ k) ∧ V σ' hf (nx + (adopt nx t).2.length) (AE.adopt nx t).1 v ∧ (∀ a, a ∉ N → own' a = own a)
  | t, v, _, σ, own, O, nx, .fz hr, hs, hnd, hfr => by
    rw [adopt_R hr]
    exact ⟨σ, own, hs, fun _ _ => rfl, .fz (hr.mono (fun a o e => by cases e)), fun _ _ => rfl⟩
  | _, _, _, σ, own, O, nx, .ow0 sz, hs, hnd, hfr => by
    have := hs.take1 (oa := none) (N := []) (obj := .rows sz []) (by simp) (by simp) (fun _ _ => .none sz)
    exact ⟨_, _, this, σnew _, .os0 sz nx (by simp [AE.adopt]) (by simp), fun a ha => by simp⟩
  | _, _, _, σ, own, O, nx, .owe sz b o, hs, hnd, hfr => by
    have := hs.take1 (oa := none) (N := []) (obj := .rows sz []) (by simp) (by simp) (fun _ _ => .none sz)
    exact ⟨_, _, this, σnew _, .ose sz nx b o (by simp [AE.adopt]) (by simp), fun a ha => by simp⟩
  | _, _, _, σ, own, O, nx, .ow (a := a) (N := N) sz rows m hm hk hodd hlen hfit hsl, hs, hnd, hfr => by
    have := hs.take1 (oa := some a) (N := a :: N) (obj := .rows sz rows) hnd hfr (fun _ _ => .rows hk hodd hlen hfit (hsl.mono (fun a o e => by cases e) (fun _ _ => rfl)))
    refine ⟨_, _, this, σnew _, ?_, fun a ha => by simp only [if_neg ha]⟩
    have h2 := V.os (σ := fun k => if k = nx then some a else σ k) (hf := hf) (nx := nx + 1) (a := a) sz nx 0 rows.length m (by omega) (by simp) hm
    rw [Nat.zero_mul] at h2
    exact h2
  | _, _, _, σ, own, O, nx, .agg (ts := ts) hsl, hs, hnd, hfr => by
    obtain ⟨σ', own', h1, h2, h3, h4⟩ := SL.adopt hsl hs hnd hfr
    unfold AE.adopt
    exact ⟨σ', own', h1, h2, h3.toAgg, h4⟩
  | _, _, _, σ, own, O, nx, .tup (ts := ts) hsl, hs, hnd, hfr => by
    obtain ⟨σ', own', h1, h2, h3, h4⟩ := SL.adopt hsl hs hnd hfr
    unfold AE.adopt
    exact ⟨σ', own', h1, h2, h3.toTup, h4⟩
theorem SL.adopt : ∀ {t : List T} {v : List Value} {N : List Nat} {σ own : Nat → Option Nat} {O : Objs} {nx : Nat}, SL (fun _ => none) h t v N → SR p h0 σ hf own E O nx Ea h → N.Nodup → Fresh p h0 hf h own N →
    ∃ σ' own', SR p h0 σ' hf own' E (putOs O nx (adoptL nx t).2) (nx + (adoptL nx t).2.length) Ea h ∧ (∀ k, k < nx → σ' k = σ k) ∧ VL σ' hf (nx + (adoptL nx t).2.length) (AE.adoptL nx t).1 v ∧ (∀ a, a ∉ N → own' a = own a)
  | _, _, _, σ, own, O, nx, .nil, hs, hnd, hfr => ⟨σ, own, hs, fun _ _ => rfl, VL.nil _ _ _, fun _ _ => rfl⟩
  | _, _, _, σ, own, O, nx, .cons (t := t) (ts := ts) (N := N) (M := M) h1 h2, hs, hnd, hfr => by
    rw [List.nodup_append] at hnd
    obtain ⟨σ1, own1, a1, a2, a3, a4⟩ := S.adopt h1 hs hnd.1 (fun a ha => hfr a (by simp [ha]))
    have hdis : ∀ a ∈ M, a ∉ N := fun a ha hn => hnd.2.2 a hn a ha rfl
    obtain ⟨σ2, own2, b1, b2, b3, b4⟩ := SL.adopt h2 a1 hnd.2.1 (fun a ha => by
      obtain ⟨g1, g2, g3, g4, g5⟩ := hfr a (by simp [ha])
      exact ⟨g1, g2, g3, g4, (a4 a (hdis a ha)).trans g5⟩)
    unfold AE.adoptL
    simp only [putOs_append, List.length_append, ← Nat.add_assoc]
    refine ⟨σ2, own2, b1, fun k hk => (b2 k (by omega)).trans (a2 k hk), .cons (a3.mono (fun _ _ e => e) (by omega) b2) b3, fun a ha => ?_⟩
    rw [b4 a (fun hm => ha (by simp [hm])), a4 a (fun hm => ha (by simp [hm]))]
end
end
section
variable {call : CallT} {P : Program} {E : Env} {O : Objs} {d : Option Tmp} {ty tt s e xt : TypeId} {ps : String} {af : Array Edge} {g : Option (Nat × Bool)} {x y z : Operand} {t u w : T} {nx sz : Nat} {rows rows2 : List (List T)} {ks ks2 : List Nat}
theorem OC.callX {f : FuncId} {o : Oper} {us : List T} {r r' : T} {objs : List Obj} (ho : ∀ (q p : Nat) (h0 : LB) (σ : Nat → Option Nat) (hf : AH) (own : Nat → Option Nat) (Ea : Nat → Value) (h : AH), SR p h0 σ hf own E O nx Ea h → ∃ vs, aop P q Ea h o = some (.enter f vs) ∧ RL h us vs) (hp : Pure call f us r) (had : adopt nx r = (r', objs)) :
    OC call P E O nx o r' (putOs O nx objs) (nx + objs.length) [] := ⟨Nat.le_add_right _ _, fun q p h0 σ hf own Ea h hs hu hF => by
  obtain ⟨vs, h1, h2⟩ := ho q p h0 σ hf own Ea h hs
  have h3 := hp h q vs hF h2
  unfold CallS at h3
  obtain ⟨v, h', h4, h5, h6, N, h7, h8, h9⟩ := h3
  have hfn : ∀ a, h a = none → hf a = none := fun a ha => by
    cases hh : hf a with
    | none => rfl
    | some o => rw [(hs.fro _ _ hh).1] at ha; cases ha
  have h0n : ∀ a, h a = none → h0.h a = none := fun a ha => by
    cases hh : h0.h a with
    | none => rfl
    | some o =>
      have e1 := hs.base a (by rw [hh]; simp)
      rw [hfn a ha, hh] at e1
      cases e1
  have hs' := hs.ext (nx' := nx) (σ' := σ) (own' := own) (h' := h') (Nat.le_refl _) (fun _ _ => rfl) (fun _ _ e => e) (fun _ _ e => .inl e) h6 (fun a ha => by
    rcases h5 a ha with e | e
    · exact hs.dom a e
    · exact .inr (hu a e))
  obtain ⟨σ', own', b1, b2, b3, b4⟩ := S.adopt h7 hs' h8 (fun a ha => by
    obtain ⟨g1, g2⟩ := h9 a ha
    refine ⟨hu a g1, h0n a g2, h7.names a ha, hfn a g2, ?_⟩
    cases hh : own a with
    | none => rfl
    | some k => exact absurd g2 (hs.mine a k hh).2.2.1)
  rw [had] at b1 b3
  refine ⟨v, h', σ', own', by simp only [aexec, h1, h4], h5, b2, b1, b3, fun a ha _ => h6 a ha, fun a k hk => ?_⟩
  by_cases hn : a ∈ N
  · exact .inr (.inl (h9 a hn).2)
  · rw [b4 a hn] at hk
    exact .inl hk⟩
theorem OC.callF {f : FuncId} {args : Array Operand} {tys : Array TypeId} {ts us : List T} {r r' : T} {objs : List Obj} (hb : hasBody P f = true) (ha : VEvs E args.toList ts) (hl : LendL O ts us) (hp : Pure call f us r) (had : adopt nx r = (r', objs)) :
    OC call P E O nx ⟨d, .call ⟨.value (.func f), args, tys⟩, ty, ps, af, g⟩ r' (putOs O nx objs) (nx + objs.length) [] := OC.callX (fun q p h0 σ hf own Ea h hs => by
  obtain ⟨vs, h1, h2⟩ := ha σ hf nx Ea hs.env
  exact ⟨vs, X.calls hb h1, hl.V hs h2⟩) hp had
/-- A call of a function value. -/
theorem OC.callv {f : FuncId} {a : Tmp} {args : Array Operand} {tys : Array TypeId} {ts us caps ucaps : List T} {r r' : T} {objs : List Obj} (hf : gE E a = .fn f caps) (hb : hasBody P f = true) (ha : VEvs E args.toList ts) (hl : LendL O ts us) (hlc : LendL O caps ucaps) (hp : Pure call f (us ++ ucaps) r) (had : adopt nx r = (r', objs)) :
    OC call P E O nx ⟨d, .call ⟨.value (.tmp a), args, tys⟩, ty, ps, af, g⟩ r' (putOs O nx objs) (nx + objs.length) [] := OC.callX (fun q p h0 σ hf' own Ea h hs => by
  obtain ⟨vs, h1, h2⟩ := ha σ hf' nx Ea hs.env
  have h3 := hs.env a
  rw [hf] at h3
  obtain ⟨cs, h4, h5⟩ := h3.fnL
  refine ⟨vs ++ cs, by have := X.callv (P := P) (p := q) (h := h) (d := d) (ty := ty) (ps := ps) (af := af) (g := g) (ts := tys) h4 hb h1; simpa using this, ?_⟩
  refine (hl.app hlc).V hs ⟨by simp [h2.1, h5.1], fun i hi => ?_⟩
  rcases Nat.lt_or_ge i ts.length with g1 | g1
  · have := h2.2 i g1
    rw [List.getD_eq_getElem?_getD, List.getD_eq_getElem?_getD] at this ⊢
    rwa [List.getElem?_append_left g1, List.getElem?_append_left (by rw [← h2.1]; exact g1)]
  · rw [List.length_append] at hi
    have := h5.2 (i - ts.length) (by omega)
    rw [List.getD_eq_getElem?_getD, List.getD_eq_getElem?_getD] at this ⊢
    rwa [List.getElem?_append_right g1, List.getElem?_append_right (by rw [← h2.1]; exact g1), ← h2.1]) hp had
theorem prun_underlying {P : Program} {t : TypeId} {x : TypeDesc} (hu : P.underlying t = some x) : prun P (underlying t) = some x := by
  simp [underlying, prun_bind, prun_program, hu, prun_pure]
theorem prun_map {P : Program} {α β : Type} (f : α → β) (s : Sem α) : prun P (f <$> s) = (prun P s).map f := by
  show prun P (s >>= fun a => Pure.pure (f a)) = _
  rw [prun_bind]
  cases prun P s <;> rfl
theorem prun_eqnil {P : Program} {t e : TypeId} (hu : P.underlying t = some (.slice e)) : prun P (Op.equal t (.slice none 0 0) (.slice none 0 0)) = some true := by
  show prun P (Op.equalIn (9999 + 1) t _ _) = _
  rw [Op.equalIn]
  simp only [prun_bind, prun_underlying hu, Option.bind_some, prun_pure]
  rfl
/-- A slice held against nil: either way. -/
theorem VRunO.nilEq {call : CallT} {P : Program} {ops : Array Oper} {l : List Oper} {K : Env → Objs → Nat → Prop} (hw : VWant ops E ⟨d, .binOp .eql tt x y xt, ty, ps, af, g⟩ true) (hx : VEv E x (.sl false sz rows)) (hy : VEv E y .nils) (hu : P.underlying tt = some (.slice e)) (hk : ∀ b : Bool, (b = true → rows = []) → VRunO call P ops l (pE E d (.bool b)) O nx K) :
    VRunO call P ops (⟨d, .binOp .eql tt x y xt, ty, ps, af, g⟩ :: l) E O nx K := by
  unfold VRunO at hk ⊢
  intro p h0 σ hf own Ea h c i hs
  obtain ⟨v, h1, h2⟩ := hx σ hf nx Ea hs.env
  obtain ⟨v', h3, h4⟩ := hy σ hf nx Ea hs.env
  obtain rfl := h4.nilsInv
  have hr := h2.slInv
  obtain ⟨b, h5, h6⟩ : ∃ b : Bool, abop P .eql tt x y v (.slice none 0 0) = some (.bool b) ∧ (b = true → rows = []) := by
    generalize hT : T.sl false sz rows = tr at hr
    cases hr <;> first | cases hT | skip
    · exact ⟨true, by simp [abop, aeq, abin, closedV, closed1, eqGuard, binOp, prun_pure, prun_map, prun_eqnil hu, clo], fun _ => rfl⟩
    · refine ⟨false, ?_, fun e => by cases e⟩
      simp [abop, aeq, abin, closedV, closed1, anil, isNil, hu]
    · refine ⟨false, ?_, fun e => by cases e⟩
      simp [abop, aeq, abin, closedV, closed1, anil, isNil, hu]
  exact RunO.pure rfl rfl (hw σ hf nx Ea hs.env) (X.bin h1 h3 h5) (hk b h6 p h0 σ hf own _ h c _ (hs.put (.fz (.bool b)) _))
end
end Go.Proofs.Ythdnjihmjdbdkaa.AE
