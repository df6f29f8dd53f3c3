/- A part of what the row of FnExactAddCorrection uses. Conditions: as each theorem states. -/
import Derived.Test.YtfpnmphheminbaaZFnExactAddCorrectionb
import Derived.Test.YtfpnmphheminbaaProg
import Derived.KernelRfl
namespace Go.Proofs.Ytfpnmphheminbaa.AE
open Go Go.RowKit
set_option linter.unusedVariables false
set_option linter.unusedSimpArgs false
theorem SL.cut {hf h : AH} : ∀ {ts : List T} {vs : List Value} {N : List Nat} (j : Nat) (hj : j < ts.length), SL hf h ts vs N → ∃ A B C, N = A ++ (B ++ C) ∧ S hf h (ts.getD j .any) (vs.getD j undef) B ∧ ∀ (h' : AH) (t' : T) (v' : Value), (∀ a ∈ A, h' a = h a) → (∀ a ∈ C, h' a = h a) → S hf h' t' v' B → SL hf h' (ts.set j t') (vs.set j v') N
  | _, _, _, j, hj, .nil => by simp at hj
  | _, _, _, 0, hj, .cons (N := N) (M := M) hs hr => ⟨[], N, M, rfl, by simpa using hs, fun h' t' v' _ hC hS => .cons hS (SL.mono (fun _ _ e => e) hr hC)⟩
  | _, _, _, j + 1, hj, .cons (N := N) (M := M) hs hr => by
    obtain ⟨A, B, C, e, h1, h2⟩ := SL.cut j (by simpa using hj) hr
    refine ⟨N ++ A, B, C, by rw [e, List.append_assoc], by simpa using h1, fun h' t' v' hA hC hS => ?_⟩
    exact .cons (S.mono (fun _ _ e => e) hs (fun a ha => hA a (by simp [ha]))) (h2 h' t' v' (fun a ha => hA a (by simp [ha])) hC hS)
theorem spl_set {cs : List T} {o : Nat} {t : T} (h : o < cs.length) : spl cs o [t] = cs.set o t := by
  rw [spl, List.set_eq_take_append_cons_drop, if_pos h]
  simp
theorem splice_set {cs : List Value} {o : Nat} {t : Value} (h : o < cs.length) : AE.splice cs o [t] = cs.set o t := by
  rw [AE.splice, List.set_eq_take_append_cons_drop, if_pos h]
  simp
theorem sc_val {u : T} (hu : sc u = true) {σ : Nat → Option Nat} {hf : AH} {nx : Nat} {v : Value} (hv : V σ hf nx u v) : v.cells.toList = [v] ∧ v.oneCell' = true ∧ ∀ hf h, S hf h u v [] := by
  cases u <;> first | (simp [sc] at hu; done) | skip
  · obtain rfl := hv.boolInv; exact ⟨rfl, rfl, fun _ _ => .fz (.bool _)⟩
  · obtain rfl := hv.intInv; exact ⟨rfl, rfl, fun _ _ => .fz (.int _ _)⟩
  · obtain rfl := hv.strInv; exact ⟨rfl, rfl, fun _ _ => .fz (.str _)⟩
theorem S.scN {hf h : AH} {t : T} {v : Value} {N : List Nat} (hs : S hf h t v N) (ht : AE.sc t = true) : N = [] := by
  cases hs with
  | fz hr => rfl
  | _ => simp [AE.sc] at ht
section
variable {call : CallT} {P : Program} {E : Env} {O : Objs} {d : Option Tmp} {ty tt : TypeId} {ps : String} {af : Array Edge} {g : Option (Nat × Bool)} {x y : Operand} {nx sz k i o : Nat} {rows rows' : List (List T)} {row : List T} {asg : List Nat}
theorem nest_at {σ : Nat → Option Nat} {hf h : AH} {a : Nat} {cs : List Value} {N : List Nat} {t0 : T} (hh : h a = some (.cells sz cs)) (hlen : ∀ r ∈ rows, r.length = sz) (hfit : rows.length * sz ≤ cs.length) (hsl : SL hf h rows.flatten (cs.take (rows.length * sz)) N) (hi : rows[i]? = some row) (ho : row[o]? = some t0) :
    i * sz + o < rows.length * sz ∧ ∃ v A B C, cs[i * sz + o]? = some v ∧ N = A ++ (B ++ C) ∧ S hf h t0 v B ∧ ∀ (h' : AH) (t' : T) (v' : Value), (∀ b ∈ A, h' b = h b) → (∀ b ∈ C, h' b = h b) → S hf h' t' v' B → SL hf h' (rows.set i (row.set o t')).flatten ((cs.set (i * sz + o) v').take (rows.length * sz)) N := by
  have hlt : i < rows.length := (List.getElem?_eq_some_iff.1 hi).1
  have hrow : row.length = sz := hlen row (List.mem_of_getElem? hi)
  have hol := (List.getElem?_eq_some_iff.1 ho).1
  have ho' : o < sz := by rw [← hrow]; exact hol
  have hf1 := row_fit (sz := sz) hlt
  have hfl := flatten_len hlen
  obtain ⟨A, B, C, e, h1, h2⟩ := hsl.cut (i * sz + o) (by omega)
  rw [flatten_getD hlen hi ho', List.getD_eq_getElem?_getD, ho, Option.getD_some, List.getD_eq_getElem?_getD, List.getElem?_take, if_pos (by omega), List.getElem?_eq_getElem (by omega), Option.getD_some] at h1
  refine ⟨by omega, _, A, B, C, List.getElem?_eq_getElem (by omega), e, h1, fun h' t' v' hA hC hS => ?_⟩
  have h3 := h2 h' t' v' hA hC hS
  rw [← spl_set (by omega), ← flatten_set hlen hi (by simp only [List.length_cons, List.length_nil]; omega), spl_set hol] at h3
  rw [List.take_set]
  exact h3
theorem B.storeN {t0 u : T} (hx : VEv E x (.orp sz k i o)) (hy : VEv E y u) (hu : sc u = true) (hk : gO O k = some (.rowsN sz rows asg)) (hi : rows[i]? = some row) (ho : row[o]? = some t0) (ht0 : sc t0 = true) (hif : (P.info? tt).isSome = true) (hn : P.cellsOf tt = 1) (hr : rows.set i (row.set o u) = rows') :
    OC call P E O nx ⟨d, .store tt x y, ty, ps, af, g⟩ .any ((k, some (.rowsN sz rows' asg)) :: O) nx [k] := ⟨Nat.le_refl _, fun q p h0 σ hf own Ea h hs hq hF => by
  subst hr
  obtain ⟨v, h1, h2⟩ := hx σ hf nx Ea hs.env
  obtain ⟨v', h3, h4⟩ := hy σ hf nx Ea hs.env
  obtain ⟨c1, c2, c3⟩ := sc_val hu h4
  obtain ⟨a, rfl, h5, h6⟩ := h2.orpInv
  obtain ⟨N, hN1, hN2, h7⟩ := hs.objAt hk
  rw [h5] at h7
  cases h7 with
  | rowsN hh hodd hlen hfit hsl =>
    rename_i cs
    obtain ⟨hlt, w, A, B, C, e1, e2, e3, e4⟩ := nest_at (σ := σ) hh hlen hfit hsl hi ho
    obtain rfl := e3.scN ht0
    have hst := astore_at (P := P) (t := tt) (v := v') (o := i * sz + o) hodd hh hif hn c1 rfl (by simp only [List.length_cons, List.length_nil]; omega) (by simpa using c2)
    rw [splice_set (by omega)] at hst
    have hown : own a = some k := hN2 a (by simp)
    have haN : ∀ b, b ∈ asg → b ≠ a := fun b hb e => (List.nodup_cons.1 hN1).1 (e ▸ hb)
    have hupd : ∀ z : AObj, ∀ b ∈ asg, (h.upd a (some z)) b = h b := fun z b hb => AH.upd_ne _ (haN b hb) _
    have hobj : ObjR σ hf nx (h.upd a (some (.cells sz (cs.set (i * sz + o) v')))) (.rowsN sz (rows.set i (row.set o u)) asg) (some a) (a :: asg) := by
      refine .rowsN (AH.upd_same _ _ _) hodd (fun r hr => ?_) (by rw [List.length_set, List.length_set]; exact hfit) ?_
      · rcases List.mem_or_eq_of_mem_set hr with hm | rfl
        · exact hlen r hm
        · rw [List.length_set]; exact hlen row (List.mem_of_getElem? hi)
      · rw [List.length_set]
        exact e4 _ _ _ (fun b hb => hupd _ b (by rw [e2]; simp [hb])) (fun b hb => hupd _ b (by rw [e2]; simp [hb])) (c3 _ _)
    refine ⟨undef, _, σ, own, X.store h1 h3 hst, Dom.old (by rw [hh]; simp) _, fun _ _ => rfl, hs.upd h5 h6 hown hN1 hN2 hobj, .any _, fun b hb hnk => AH.upd_ne _ (fun e => ?_) _, fun b k' e => .inl e⟩
    exact hnk k (by simp) (e ▸ hown)⟩
theorem VRunO.nest {ops : Array Oper} {l : List Oper} {K : Env → Objs → Nat → Prop} {d1 d2 d3 : Nat} {ty1 ty2 ty3 : TypeId} {ps1 ps2 ps3 : String} {af1 af2 af3 : Array Edge} {f : FuncId} {tys : Array TypeId} {sz2 : Nat} {rs rs' : List (List T)} {n r : Int} (h12 : (d1 == d2) = false) (hx : VEv E x (.orp sz k i o)) (hk : gO O k = some (.rowsN sz rows asg)) (hi : rows[i]? = some row) (ho : row[o]? = some (.sl true sz2 rs)) (hst : isStruct P tt = some false) (hy : VEv ((d1, .any) :: E) y (.int .i64 n)) (hb : hasBody P f = true) (hm : Mut call f sz2 rs [.int .i64 n] (some r) rs') (hc : ∀ r ∈ rs, ∀ t ∈ r, Clean t) (hr : rows.set i (row.set o (.sl true sz2 rs')) = rows')
    (hK : VRunO call P ops l ((d3, .int .i64 r) :: (d2, .int .i64 n) :: (d1, .any) :: E) ((k, some (.rowsN sz rows' asg)) :: O) nx K) :
    VRunO call P ops (⟨some d1, .load tt x, ty1, ps1, af1, none⟩ :: ⟨some d2, .move y, ty2, ps2, af2, none⟩ :: ⟨some d3, .call ⟨.value (.func f), #[.tmp d1, .tmp d2], tys⟩, ty3, ps3, af3, none⟩ :: l) E O nx K := by
  unfold VRunO at hK ⊢
  intro p h0 σ hf own Ea h c j hs
  subst hr
  obtain ⟨v, h1, h2⟩ := hx σ hf nx Ea hs.env
  obtain ⟨a, rfl, h5, h6⟩ := h2.orpInv
  obtain ⟨N, hN1, hN2, h7⟩ := hs.objAt hk
  rw [h5] at h7
  cases h7 with
  | rowsN hh hodd hlen hfit hsl =>
    rename_i cs
    obtain ⟨hlt, v0, A, B, C, e1, e2, e3, e4⟩ := nest_at (σ := σ) hh hlen hfit hsl hi ho
    have hs1 := hs.put (V.any (σ := σ) (hf := hf) (nx := nx) v0) (some d1)
    obtain ⟨w, y1, y2⟩ := hy σ hf nx _ hs1.env
    obtain rfl := y2.intInv
    have hs2 := hs1.put y2 (some d2)
    have hdd : d1 ≠ d2 := by simpa using h12
    refine RunO.pure rfl rfl rfl (X.load h1 (aload_one hst hh e1)) (RunO.pure rfl rfl rfl (X.move y1) ?_)
    have hown : own a = some k := hN2 a (by simp)
    have hsub : ∀ b ∈ B, b ∈ asg := fun b hb => by rw [e2]; simp [hb]
    have hnd : asg.Nodup := (List.nodup_cons.1 hN1).2
    have hndB : B.Nodup := by rw [e2, List.nodup_append, List.nodup_append] at hnd; exact hnd.2.1.1
    have hdisA : ∀ b ∈ A, b ∉ B := fun b hb hm2 => by rw [e2, List.nodup_append] at hnd; exact hnd.2.2 b hb b (by simp [hm2]) rfl
    have hdisC : ∀ b ∈ C, b ∉ B := fun b hb hm2 => by rw [e2, List.nodup_append, List.nodup_append] at hnd; exact hnd.2.1.2.2 b hm2 b hb rfl
    have haB : a ∉ B := fun hm2 => (List.nodup_cons.1 hN1).1 (hsub a hm2)
    have hevs : AE.evs (putE (putE Ea (some d1) v0) (some d2) (.int .i64 n)) [.tmp d1, .tmp d2] = some [v0, .int .i64 n] := by
      simp [AE.evs, evo, putE, hdd]
    unfold RunO
    intro hfc
    have hF : Fr (child p (c + (j + 1 + 1))) h := FrC.fr hfc (Nat.le_refl _)
    have hS0 : S (fun _ => none) h (.sl true sz2 rs) v0 B := S.clean e3 (.sl _ _ hc)
    have h8 := hm h (child p (c + (j + 1 + 1))) hf v0 B [.int .i64 n] hF (fun b o hb => ⟨(hs.fro b o hb).1, fun hm2 => by have := hN2 b (by simp [hsub b hm2]); rw [(hs.fro b o hb).2] at this; cases this⟩) hS0 hndB (RL.cons (.int _ _) (RL.nil _))
    unfold CallS at h8
    obtain ⟨v, h', k1, k2, k3, rfl, k5⟩ := h8
    have hha : h' a = some (.cells sz cs) := (k3 a (by rw [hh]; simp) haB).trans hh
    have hobj : ObjR σ hf nx h' (.rowsN sz (rows.set i (row.set o (.sl true sz2 rs'))) asg) (σ k) (a :: asg) := by
      rw [h5]
      refine .rowsN hha hodd (fun r hr => ?_) (by rw [List.length_set]; exact hfit) ?_
      · rcases List.mem_or_eq_of_mem_set hr with hm2 | rfl
        · exact hlen r hm2
        · rw [List.length_set]; exact hlen row (List.mem_of_getElem? hi)
      · rw [List.length_set]
        have hnn : ∀ b ∈ asg, h b ≠ none := fun b hb => hsl.names b hb
        have := e4 h' (.sl true sz2 rs') v0 (fun b hb => k3 b (hnn b (by rw [e2]; simp [hb])) (hdisA b hb)) (fun b hb => k3 b (hnn b (by rw [e2]; simp [hb])) (hdisC b hb)) (k5.mono (fun _ _ e => by cases e) (fun _ _ => rfl))
        have e5 : cs.set (i * sz + o) v0 = cs := by
          refine List.ext_getElem? fun q => ?_
          rw [List.getElem?_set]
          split
          · rename_i e; subst e; rw [if_pos (by omega), e1]
          · rfl
        rwa [e5] at this
    have hs3 : SR p h0 σ hf own ((d2, .int .i64 n) :: (d1, .any) :: E) ((k, some (.rowsN sz (rows.set i (row.set o (.sl true sz2 rs'))) asg)) :: O) nx (putE (putE Ea (some d1) v0) (some d2) (.int .i64 n)) h' := by
      refine ⟨hs2.env, fun k' o' hk' => ?_, fun b o' hb => ?_, fun b k' hb => ?_, hs.base, fun t ht => ?_⟩
      · simp only [gO] at hk'
        split at hk'
        · rename_i e
          subst e
          obtain rfl := Option.some.inj hk'
          exact ⟨h6, a :: asg, hN1, hN2, hobj⟩
        · rename_i hne
          obtain ⟨m1, N2, m2, m3, m4⟩ := hs.obj k' o' hk'
          refine ⟨m1, N2, m2, m3, m4.mono (fun _ _ e => e) (Nat.le_refl _) (fun _ _ => rfl) (fun b hb => k3 b (hs.mine b k' (m3 b hb)).2.2.1 (fun hm2 => ?_))⟩
          have := hN2 b (by simp [hsub b hm2])
          rw [m3 b hb] at this
          exact hne (Option.some.inj this)
      · obtain ⟨m1, m2⟩ := hs.fro b o' hb
        refine ⟨?_, m2⟩
        rw [k3 b (by rw [m1]; simp) (fun hm2 => by have := hN2 b (by simp [hsub b hm2]); rw [m2] at this; cases this)]
        exact m1
      · obtain ⟨m1, m2, m3, m4⟩ := hs.mine b k' hb
        refine ⟨m1, m2, ?_, m4⟩
        by_cases hm2 : b ∈ B
        · exact k5.names b hm2
        · rw [k3 b m3 hm2]; exact m3
      · rcases k2 t ht with e | e
        · exact hs.dom t e
        · exact .inr (.inl (under_child e))
    have hs4 := hs3.put (V.fz (σ := σ) (hf := hf) (nx := nx) (R.int (hf := hf) .i64 r)) (some d3)
    have hk4 := hK p h0 σ hf own _ h' c (j + 1 + 1 + 1) hs4
    have hex : aexec call P (child p (c + (j + 1 + 1))) (putE (putE Ea (some d1) v0) (some d2) (.int .i64 n)) h ⟨some d3, .call ⟨.value (.func f), #[.tmp d1, .tmp d2], tys⟩, ty3, ps3, af3, none⟩ = some (rvV (some r), h') := by
      simp only [aexec, X.calls (ts := tys) hb (show AE.evs _ (#[Operand.tmp d1, Operand.tmp d2].toList) = some [v0, .int .i64 n] from hevs), k1]
    have hst2 := RunO.step (call := call) (P := P) (π := p) (c := c) (i := j + 1 + 1) (ops := ops) (r := l) (K := KK p h0 K) rfl rfl rfl hex (fun _ => k2) (fun _ => hk4)
    unfold RunO at hst2
    exact hst2 hfc
end
abbrev LO := List (Nat × List (List T))
def loO (asg : Nat → List Nat) : Nat → LO → Objs
  | _, [] => []
  | n, x :: r => (n, some (.rowsN x.1 x.2 (asg n))) :: loO asg (n + 1) r
theorem gO_loO (asg : Nat → List Nat) (k : Nat) : ∀ (L : LO) (n : Nat), gO (loO asg n L) k = if n ≤ k then (L[k - n]?).map (fun x => Obj.rowsN x.1 x.2 (asg k)) else none
  | [], n => by simp [loO, gO]
  | x :: r, n => by
    rw [loO, gO]
    by_cases h : k = n
    · subst h; simp
    · rw [if_neg h, gO_loO asg k r (n + 1)]
      by_cases h2 : n ≤ k
      · rw [if_pos h2, if_pos (by omega), show k - n = (k - (n + 1)) + 1 by omega, List.getElem?_cons_succ]
      · rw [if_neg h2, if_neg (by omega)]
def HasL (σ : Nat → Option Nat) (hf : AH) (own : Nat → Option Nat) (asg : Nat → List Nat) (L : LO) (h : AH) : Prop := ∀ k x, L[k]? = some x → ∃ N, N.Nodup ∧ (∀ a ∈ N, own a = some k) ∧ ObjR σ hf L.length h (.rowsN x.1 x.2 (asg k)) (σ k) N
def LoanM (call : CallT) (f : FuncId) (L : LO) (ts : List T) (r : T) (L' : LO) : Prop := ∀ (asg : Nat → List Nat) (h : AH) (p : Nat) (hf : AH) (σ own : Nat → Option Nat) (vs : List Value), Fr p h → (∀ b o, hf b = some o → h b = some o ∧ own b = none) → (∀ b k, own b = some k → h b ≠ none ∧ k < L.length) → HasL σ hf own asg L h → VL σ hf L.length ts vs →
  CallS call f vs h p (fun v h' => (∀ b, h b ≠ none → own b = none → h' b = h b) ∧ (∃ hf2, V σ hf2 L.length r v) ∧ ∀ k x, L'[k]? = some x → ∃ N, N.Nodup ∧ (∀ a ∈ N, own a = some k) ∧ ObjR σ hf L.length h' (.rowsN x.1 x.2 (asg k)) (σ k) N)
inductive PinK (k : Nat) : T → Prop
  | os (sz n : Nat) : PinK k (.os sz k 0 n)
  | agg {ts : List T} {t : T} (i : Nat) (h : ts[i]? = some t) (hp : PinK k t) : PinK k (.agg ts)
inductive PRes : T → Prop
  | none : PRes (.tup [])
  | int (k : IntKind) (n : Int) : PRes (.int k n)
  | bool (b : Bool) : PRes (.bool b)
theorem PRes.R {r : T} {v : Value} {σ : Nat → Option Nat} {hf : AH} {nx : Nat} (hr : PRes r) (h : V σ hf nx r v) (hf' : AH) : AE.R hf' r v := by
  cases hr with
  | none =>
    obtain ⟨l, rfl, h1⟩ := V.tupL h
    obtain rfl := List.eq_nil_of_length_eq_zero h1.1.symm
    exact .tup [] #[] rfl (fun i hi => by simp at hi)
  | int k n => obtain rfl := V.intInv h; exact .int _ _
  | bool b => obtain rfl := V.boolInv h; exact .bool _
theorem osSameK {σ σ' : Nat → Option Nat} {hf hf' : AH} {nx nx' sz k k' n : Nat} {v : Value} (h : V σ hf nx (.os sz k 0 n) v) (h' : V σ' hf' nx' (.os sz k' 0 n) v) : σ' k' = σ k := by
  obtain ⟨_, ⟨a, m, e1, e2, e3⟩ | ⟨e1, _, e2, e3⟩⟩ := h.osInv
  · obtain ⟨_, ⟨a', m', f1, f2, f3⟩ | ⟨f1, _, f2, f3⟩⟩ := h'.osInv
    · rw [e1] at f1
      simp only [Value.slice.injEq, Option.some.injEq, Addr.mk.injEq] at f1
      rw [e2, f2, f1.1.1]
    · subst e1
      rcases f3 with f3 | ⟨b, o, f3⟩
      · exact absurd f3 (by simp)
      · simp only [Value.slice.injEq] at f3
        omega
  · obtain ⟨_, ⟨a', m', f1, f2, f3⟩ | ⟨f1, _, f2, f3⟩⟩ := h'.osInv
    · subst f1
      rcases e3 with e3 | ⟨b, o, e3⟩
      · exact absurd e3 (by simp)
      · simp only [Value.slice.injEq] at e3
        omega
    · rw [e1, f1]
theorem PinK.same {σ σ' : Nat → Option Nat} {hf hf' : AH} {nx nx' k : Nat} {f : Nat → Nat} {pin : T} {v : Value} (hp : PinK k pin) (h : V σ hf nx pin v) (h' : V σ' hf' nx' (ren f pin) v) : σ' (f k) = σ k := by
  induction hp generalizing v with
  | os sz n => exact osSameK h h'
  | agg i hi hp ih =>
    rename_i ts t
    obtain ⟨l, rfl, h1⟩ := V.aggL h
    have h2 : V σ' hf' nx' (.agg (renL f ts)) (.agg l.toArray) := h'
    obtain ⟨l2, e, h3⟩ := V.aggL h2
    have e2 : l2 = l := by
      simp only [Value.agg.injEq] at e
      have := congrArg Array.toList e
      simpa using this.symm
    subst e2
    have hlt := (List.getElem?_eq_some_iff.1 hi).1
    have g1 := h1.2 i hlt
    have g2 := h3.2 i (by rw [renL_map, List.length_map]; exact hlt)
    rw [List.getD_eq_getElem?_getD, hi, Option.getD_some] at g1
    rw [renL_map, List.getD_eq_getElem?_getD, List.getElem?_map, hi, Option.map_some, Option.getD_some] at g2
    exact ih g1 g2
def finO (O : Objs) (f : Nat → Nat) (asg : Nat → List Nat) : Nat → LO → Prop
  | _, [] => True
  | n, x :: r => gO O (f n) = some (.rowsN x.1 x.2 (asg n)) ∧ finO O f asg (n + 1) r
theorem finO.at {O : Objs} {f : Nat → Nat} {asg : Nat → List Nat} : ∀ {L : LO} {n : Nat} (k : Nat) {x}, finO O f asg n L → L[k]? = some x → gO O (f (n + k)) = some (.rowsN x.1 x.2 (asg (n + k)))
  | [], n, k, x, _, h => by simp at h
  | y :: r, n, 0, x, h, e => by
    obtain rfl : y = x := by simpa using e
    exact h.1
  | y :: r, n, k + 1, x, h, e => by
    have := finO.at (L := r) (n := n + 1) k h.2 (by simpa using e)
    rwa [show n + 1 + k = n + (k + 1) by omega] at this
def vloanM (P : Program) (rs : List ResultVar) (pins : List (Nat × T)) (L' : LO) (asg : Nat → List Nat) (r : T) : AX → Env → Objs → Nat → Prop
  | .exit _, _, _, _ => False
  | _, E, O, _ => ∃ (f : Nat → Nat) (us : List T), VRes P E O rs us ∧ oneT us = r ∧ (∀ x ∈ pins, gE E x.1 = ren f x.2) ∧ finO O f asg 0 L'
theorem vloanM.r {P : Program} {rs : List ResultVar} {pins : List (Nat × T)} {L1 L' : LO} {asg : Nat → List Nat} {r : T} {E : Env} {O : Objs} {nx : Nat} {us : List T} (f : Nat → Nat) (h : VRes P E O rs us) (h1 : oneT us = r) (h2 : ∀ x ∈ pins, gE E x.1 = ren f x.2) (h3 : finO O f asg 0 L1) (e : L1 = L') : vloanM P rs pins L' asg r .ret E O nx := ⟨f, us, h, h1, h2, e ▸ h3⟩
theorem ObjR.nameN {σ : Nat → Option Nat} {hf h : AH} {nx sz : Nat} {rows : List (List T)} {asg N : List Nat} {oa : Option Nat} (h1 : ObjR σ hf nx h (.rowsN sz rows asg) oa N) : (oa = Option.none ∧ N = [] ∧ asg = []) ∨ ∃ a, oa = some a ∧ N = a :: asg := by
  cases h1 with
  | noneN sz => exact .inl ⟨rfl, rfl, rfl⟩
  | rowsN hk hodd hlen hfit hs => exact .inr ⟨_, rfl, rfl⟩
theorem ObjR.moveN {σ σ' : Nat → Option Nat} {hf hf' h h' : AH} {nx nx' sz : Nat} {rows : List (List T)} {asg N : List Nat} {oa : Option Nat} (h1 : ObjR σ hf nx h (.rowsN sz rows asg) oa N) (hc : ∀ r ∈ rows, ∀ t ∈ r, Clean t) (hh : ∀ a ∈ N, h' a = h a) : ObjR σ' hf' nx' h' (.rowsN sz rows asg) oa N := by
  cases h1 with
  | noneN sz => exact .noneN sz
  | rowsN hk hodd hlen hfit hs =>
    refine .rowsN ((hh _ (by simp)).trans hk) hodd hlen hfit ?_
    have h2 := SL.clean (hf' := fun _ => Option.none) hs (fun t ht => by
      obtain ⟨r, hr, htr⟩ := List.mem_flatten.1 ht
      exact hc r hr t htr)
    exact h2.mono (fun _ _ e => (by cases e)) (fun a ha => hh a (by simp [ha]))
theorem ObjR.namesN {σ : Nat → Option Nat} {hf h : AH} {nx sz : Nat} {rows : List (List T)} {asg N : List Nat} {oa : Option Nat} (h1 : ObjR σ hf nx h (.rowsN sz rows asg) oa N) : ∀ a ∈ N, h a ≠ Option.none := by
  cases h1 with
  | noneN sz => intro a ha; cases ha
  | rowsN hk hodd hlen hfit hs =>
    intro a ha
    rcases List.mem_cons.1 ha with rfl | ha
    · rw [hk]; simp
    · exact hs.names a ha
theorem LoanM.intro {P : Program} {f : FuncId} {fn : Func} {c : Code} {n : Nat} {ts : List T} {r : T} {L L' : LO} {rs : List ResultVar} (pins : List (Nat × T)) (hf : P.funcs[f]? = some fn) (hb : fn.body = some c) (hc : boundsC fn.ntmps c = true) (hrs : fn.results.toList = rs) (hL : L'.length = L.length) (hp1 : ∀ x ∈ pins, noW x.1 c = true ∧ ts[x.1]? = some x.2) (hp2 : ∀ k, k < L.length → ∃ x ∈ pins, PinK k x.2) (hr0 : PRes r) (hcl : ∀ x ∈ L', ∀ r ∈ x.2, ∀ t ∈ r, Clean t) {E0 : Env} (hE : tenv 0 ts = E0)
    (hr : ∀ asg, VRun (acall P n) P c E0 (loO asg 0 L) L.length (vloanM P rs pins L' asg r)) : LoanM (acall P (n + 1)) f L ts r L' := by
  subst hE
  intro asg h p hfz σ own vs hfp hfN hown hO hvs
  classical
  let hb0 : AH := fun b => if own b ≠ none then none else h b
  have hb1 : ∀ b, own b = none → hb0 b = h b := fun b hb => if_neg (by simp [hb])
  have hb2 : ∀ b, own b ≠ none → hb0 b = none := fun b hb => if_pos hb
  have hb3 : ∀ b o, hb0 b = some o → own b = none ∧ h b = some o := fun b o hb => by
    by_cases hm : own b = none
    · exact ⟨hm, (hb1 b hm).symm.trans hb⟩
    · rw [hb2 b hm] at hb; cases hb
  have hsub : ∀ b o, hfz b = some o → hb0 b = some o := fun b o hb => (hb1 b (hfN b o hb).2).trans (hfN b o hb).1
  have hs0 : SR p ⟨hb0, fun b => own b ≠ none⟩ σ hb0 own (tenv 0 ts) (loO asg 0 L) L.length (fun t => vs.getD t undef) h := by
    refine ⟨fun t => ?_, fun k o hk => ?_, fun a o ha => ⟨(hb3 a o ha).2, (hb3 a o ha).1⟩, fun a k ha => ?_, fun _ _ => rfl, fun t ht => ?_⟩
    · rw [gE_tenv, if_neg (by omega), Nat.sub_zero]
      rcases Nat.lt_or_ge t ts.length with h1 | h1
      · exact (hvs.2 t h1).mono hsub (Nat.le_refl _) (fun _ _ => rfl)
      · rw [List.getD_eq_getElem?_getD, List.getElem?_eq_none h1]
        exact .any _
    · rw [gO_loO, if_pos (Nat.zero_le _), Nat.sub_zero] at hk
      obtain ⟨x, hx, rfl⟩ := Option.map_eq_some_iff.1 hk
      obtain ⟨N, g1, g2, g3⟩ := hO k x hx
      exact ⟨(List.getElem?_eq_some_iff.1 hx).1, N, g1, g2, g3.mono hsub (Nat.le_refl _) (fun _ _ => rfl) (fun _ _ => rfl)⟩
    · have h1 : own a ≠ none := by rw [ha]; simp
      exact ⟨.inr h1, hb2 a h1, (hown a k ha).1, (hown a k ha).2⟩
    · by_cases hm : own t = none
      · exact .inl (by show hb0 t ≠ none; rw [hb1 t hm]; exact ht)
      · exact .inr (.inr hm)
  have hr1 := hr asg
  unfold VRun at hr1
  have hrun := hr1 p _ σ _ _ _ h 0 hs0
  have hrun2 : Run (acall P n) P p c ⟨fun t => vs.getD t undef, h, 0⟩ (fun e s => KK p ⟨hb0, fun b => own b ≠ none⟩ (vloanM P rs pins L' asg r e) s.E s.h ∧ ∀ x ∈ pins, s.E x.1 = vs.getD x.1 undef) := by
    unfold Run at hrun ⊢
    intro hfc
    obtain ⟨e, s', h1, h2, h3⟩ := hrun hfc
    exact ⟨e, s', h1, h2, h3, fun x hx => acode_noW _ _ _ _ (hp1 x hx).1 h1⟩
  refine CallS.intro (rs := rs) hf hb hc hfp hrs (Run.mono hrun2 ?_)
  rintro e s' ⟨⟨σ', hf', own', E, O, nx, h1, h2⟩, h0⟩
  have key : (∃ (f : Nat → Nat) (us : List T), VRes P E O rs us ∧ oneT us = r ∧ (∀ x ∈ pins, gE E x.1 = ren f x.2) ∧ finO O f asg 0 L') → ∃ l, ares P s'.h s'.E rs = some l ∧ (fun v h' => (∀ b, h b ≠ none → own b = none → h' b = h b) ∧ (∃ hf2, V σ hf2 L.length r v) ∧ ∀ k x, L'[k]? = some x → ∃ N, N.Nodup ∧ (∀ a ∈ N, own a = some k) ∧ ObjR σ hfz L.length h' (.rowsN x.1 x.2 (asg k)) (σ k) N) (oneV l) (if tokenless (oneV l) then bound h s'.h else mask p h s'.h) := by
    rintro ⟨f, us, g1, g2, g3, g4⟩
    obtain ⟨l, l1, l2⟩ := g1.run h1
    have g5 : V σ' hf' nx (oneT us) (oneV l) := by
      have hlen := l2.1
      match us, l, l2, hlen with
      | [], [], g4, _ => exact g4.toTup
      | [t], [v], g4, _ =>
        obtain ⟨v', r', e, g6, _⟩ := g4.tail
        cases e
        exact g6
      | t :: t' :: us, v :: v' :: l, g4, _ => exact g4.toTup
      | [], _ :: _, _, hl => cases hl
      | [_], [], _, hl => cases hl
      | [_], _ :: _ :: _, _, hl => cases hl
      | _ :: _ :: _, [], _, hl => cases hl
      | _ :: _ :: _, [_], _, hl => cases hl
    rw [g2] at g5
    have hbase : ∀ a o, hb0 a = some o → hf' a = some o := fun a o ha => by
      have e3 : hf' a = hb0 a := h1.base a (by show hb0 a ≠ none; rw [ha]; simp)
      rw [e3, ha]
    have hσ : ∀ k, k < L.length → σ' (f k) = σ k := fun k hk => by
      obtain ⟨x, hx, hpk⟩ := hp2 k hk
      have e1 := (hp1 x hx).2
      have hjl := (List.getElem?_eq_some_iff.1 e1).1
      have p1 := hvs.2 x.1 hjl
      rw [List.getD_eq_getElem?_getD, e1] at p1
      have p2 := h1.env x.1
      rw [g3 x hx, h0 x hx] at p2
      exact hpk.same p1 p2
    have hold : ∀ b, h b ≠ none → (if tokenless (oneV l) then bound h s'.h else mask p h s'.h) b = s'.h b := fun b hb => by
      split
      · unfold bound
        cases hh : h b with
        | none => exact absurd hh hb
        | some o => rfl
      · exact mask_eq (.inl hb)
    refine ⟨l, l1, fun b hb hbN => ?_, ⟨hf', .fz (hr0.R g5 _)⟩, fun k x hx => ?_⟩
    · rw [hold b hb]
      obtain ⟨o, ho⟩ := Option.ne_none_iff_exists'.1 hb
      rw [(h1.fro b o (hbase b o ((hb1 b hbN).trans ho))).1, ho]
    · have hkl : k < L.length := by rw [← hL]; exact (List.getElem?_eq_some_iff.1 hx).1
      obtain ⟨N, n1, n2, n3⟩ := hO k _ (List.getElem?_eq_getElem hkl)
      have g6 := finO.at k g4 hx
      rw [Nat.zero_add] at g6
      obtain ⟨M, m1, m2, m3⟩ := h1.objAt g6
      rw [hσ k hkl] at m3
      have hMN : M = N := by
        rcases n3.nameN with ⟨q1, rfl, q2⟩ | ⟨a, q1, rfl⟩
        · rcases m3.nameN with ⟨_, rfl, _⟩ | ⟨a', q3, _⟩
          · rfl
          · rw [q1] at q3; cases q3
        · rcases m3.nameN with ⟨q3, _, _⟩ | ⟨a', q3, rfl⟩
          · rw [q1] at q3; cases q3
          · rw [q1] at q3; rw [Option.some.inj q3]
      subst hMN
      exact ⟨M, n1, n2, m3.moveN (hcl x (List.mem_of_getElem? hx)) (fun a ha => hold a (hown a k (n2 a ha)).1)⟩
  cases e with
  | normal => unfold fin; exact key h2
  | ret => unfold fin; exact key h2
  | exit id => exact h2.elim
def ix : List Nat → Nat → Option Nat
  | [], _ => none
  | a :: r, k => if k = a then some 0 else (ix r k).map (· + 1)
theorem ix_some : ∀ {ks : List Nat} {k n : Nat}, ix ks k = some n → ks[n]? = some k
  | [], k, n, h => by cases h
  | a :: r, k, n, h => by
    simp only [ix] at h
    split at h
    · rename_i e
      obtain rfl := Option.some.inj h
      simp [e]
    · obtain ⟨m, h1, rfl⟩ := Option.map_eq_some_iff.1 h
      simpa using ix_some h1
theorem ix_at : ∀ {ks : List Nat} {k n : Nat}, ks.Nodup → ks[n]? = some k → ix ks k = some n
  | [], k, n, _, h => by simp at h
  | a :: r, k, 0, _, h => by
    obtain rfl : a = k := by simpa using h
    simp [ix]
  | a :: r, k, n + 1, hn, h => by
    have h1 : r[n]? = some k := by simpa using h
    have h2 := List.nodup_cons.1 hn
    have h3 : ¬ k = a := fun e => h2.1 (e ▸ List.mem_of_getElem? h1)
    simp only [ix, if_neg h3, ix_at h2.2 h1, Option.map_some]
def isR : Obj → Nat × List (List T) → Prop
  | .rows sz rows, x => x = (sz, rows)
  | .rowsN sz rows _, x => x = (sz, rows)
  | _, _ => False
def putR : Obj → Nat × List (List T) → Obj
  | .rows _ _, x => .rows x.1 x.2
  | .rowsN _ _ asg, x => .rowsN x.1 x.2 asg
  | o, _ => o
theorem isR.toN {σ : Nat → Option Nat} {hf h : AH} {nx : Nat} {o : Obj} {x : Nat × List (List T)} {oa : Option Nat} {N : List Nat} (ho : isR o x) (h1 : ObjR σ hf nx h o oa N) : ∃ asg, ObjR σ hf nx h (.rowsN x.1 x.2 asg) oa N ∧ ∀ {σ' : Nat → Option Nat} {hf' h' : AH} {nx' : Nat} {y : Nat × List (List T)}, ObjR σ' hf' nx' h' (.rowsN y.1 y.2 asg) oa N → ObjR σ' hf' nx' h' (putR o y) oa N := by
  cases h1 with
  | rows hk hodd hlen hfit hs =>
    obtain rfl : x = _ := ho
    refine ⟨_, .rowsN hk hodd hlen hfit hs, fun {σ' hf' h' nx' y} h2 => ?_⟩
    obtain ⟨sz', rows'⟩ := y
    cases h2 with
    | rowsN hk hodd hlen hfit hs => exact .rows hk hodd hlen hfit hs
  | none sz =>
    obtain rfl : x = _ := ho
    refine ⟨_, .noneN sz, fun {σ' hf' h' nx' y} h2 => ?_⟩
    obtain ⟨sz', rows'⟩ := y
    cases h2 with
    | noneN sz => exact ObjR.none _
  | rowsN hk hodd hlen hfit hs =>
    obtain rfl : x = _ := ho
    exact ⟨_, .rowsN hk hodd hlen hfit hs, fun h2 => h2⟩
  | noneN sz =>
    obtain rfl : x = _ := ho
    exact ⟨_, .noneN sz, fun h2 => h2⟩
  | cells hk hodd hv => exact (show False from ho).elim
  | map hk hodd g1 g2 => exact (show False from ho).elim
def putK : Objs → List Nat → LO → List Obj → Objs
  | O, k :: ks, x :: r, o :: os => putK ((k, some (putR o x)) :: O) ks r os
  | O, _, _, _ => O
theorem gO_putK (q : Nat) : ∀ {ks : List Nat} {L : LO} {os : List Obj} {O : Objs}, ks.Nodup → L.length = ks.length → os.length = ks.length → gO (putK O ks L os) q = match ix ks q with
    | some n => (match L[n]?, os[n]? with | some x, some o => some (putR o x) | _, _ => none)
    | none => gO O q
  | [], L, os, O, _, hl, ho => by
    cases L with
    | nil => simp [putK, ix]
    | cons x r => cases hl
  | k :: ks, [], os, O, _, hl, ho => by cases hl
  | k :: ks, x :: r, [], O, _, hl, ho => by cases ho
  | k :: ks, x :: r, o :: os, O, hn, hl, ho => by
    have hn2 := List.nodup_cons.1 hn
    rw [putK, gO_putK q hn2.2 (by simpa using hl) (by simpa using ho)]
    simp only [ix]
    by_cases hq : q = k
    · subst hq
      have : ix ks q = none := by
        cases hx : ix ks q with
        | none => rfl
        | some n => exact absurd (List.mem_of_getElem? (ix_some hx)) hn2.1
      simp [this, gO]
    · rw [if_neg hq]
      cases hx : ix ks q with
      | none => simp [gO, hq]
      | some n => simp
def hosL (O : Objs) : List Nat → List Obj → LO → Prop
  | [], [], [] => True
  | k :: ks, o :: os, x :: L => (gO O k = some o ∧ isR o x) ∧ hosL O ks os L
  | _, _, _ => False
theorem hosL.len {O : Objs} : ∀ {ks : List Nat} {os : List Obj} {L : LO}, hosL O ks os L → L.length = ks.length ∧ os.length = ks.length
  | [], [], [], _ => ⟨rfl, rfl⟩
  | k :: ks, o :: os, x :: L, h => by
    obtain ⟨h1, h2⟩ := hosL.len h.2
    exact ⟨by simp [h1], by simp [h2]⟩
  | [], _ :: _, _, h => h.elim
  | [], [], _ :: _, h => h.elim
  | _ :: _, [], _, h => h.elim
  | _ :: _, _ :: _, [], h => h.elim
theorem hosL.at {O : Objs} : ∀ {ks : List Nat} {os : List Obj} {L : LO}, hosL O ks os L → ∀ n k : Nat, ks[n]? = some k → ∃ (o : Obj) (x : Nat × List (List T)), os[n]? = some o ∧ L[n]? = some x ∧ gO O k = some o ∧ isR o x
  | [], _, _, _, n, k, e => by simp at e
  | k :: ks, o :: os, x :: L, h, 0, k', e => by
    obtain rfl : k = k' := by simpa using e
    exact ⟨o, x, rfl, rfl, h.1.1, h.1.2⟩
  | k :: ks, o :: os, x :: L, h, n + 1, k', e => by
    obtain ⟨o', x', e1, e2, e3⟩ := hosL.at h.2 n k' (by simpa using e)
    exact ⟨o', x', by simpa using e1, by simpa using e2, e3⟩
  | _ :: _, [], _, h, _, _, _ => h.elim
  | _ :: _, _ :: _, [], h, _, _, _ => h.elim
def PinsTo (pins : List (Nat × T)) : Nat → Prop
  | 0 => True
  | n + 1 => PinsTo pins n ∧ ∃ x ∈ pins, PinK n x.2
theorem PinsTo.at {pins : List (Nat × T)} : ∀ {m : Nat}, PinsTo pins m → ∀ k, k < m → ∃ x ∈ pins, PinK k x.2
  | 0, _, k, h => by omega
  | m + 1, h, k, hk => by
    by_cases e : k = m
    · subst e; exact h.2
    · exact PinsTo.at h.1 k (by omega)
theorem OC.viaN {call : CallT} {P : Program} {E : Env} {O O1 : Objs} {nx nx' k sz : Nat} {o : Oper} {t : T} {rows rows' : List (List T)} {asg ks : List Nat} (hk : gO O k = some (.rowsN sz rows asg)) (hsc : scR rows) (hsc' : scR rows')
    (h : OC call P E ((k, some (.rows sz rows)) :: O) nx o t ((k, some (.rows sz rows')) :: O1) nx' ks) : OC call P E O nx o t ((k, some (.rowsN sz rows' asg)) :: O1) nx' ks := ⟨h.1, fun q p h0 σ hf own Ea H hs hu hF => by
  obtain ⟨N, hN1, hN2, h3⟩ := hs.objAt hk
  have hasg : asg = [] := by
    generalize σ k = oa at h3
    cases h3 with
    | noneN => rfl
    | rowsN hh hodd hlen hfit hsl => exact hsl.sc hsc.flat
  subst hasg
  have hs' : SR p h0 σ hf own E ((k, some (.rows sz rows)) :: O) nx Ea H := ⟨hs.env, fun k2 o2 h2 => by
    by_cases e : k2 = k
    · subst e
      rw [gO_at] at h2
      obtain rfl := Option.some.inj h2
      refine ⟨(hs.obj _ _ hk).1, N, hN1, hN2, ?_⟩
      generalize σ k2 = oa at h3 ⊢
      cases h3 with
      | noneN => exact .none _
      | rowsN hh hodd hlen hfit hsl => exact .rows hh hodd hlen hfit hsl
    · rw [gO_off _ (by simpa using e)] at h2
      exact hs.obj k2 o2 h2, hs.fro, hs.mine, hs.base, hs.dom⟩
  obtain ⟨v, h', σ', own', e1, e2, e3, e4, e5⟩ := h.2 q p h0 σ hf own Ea H hs' hu hF
  refine ⟨v, h', σ', own', e1, e2, e3, ⟨e4.env, fun k2 o2 h2 => ?_, e4.fro, e4.mine, e4.base, e4.dom⟩, e5⟩
  by_cases e : k2 = k
  · subst e
    rw [gO_at] at h2
    obtain rfl := Option.some.inj h2
    obtain ⟨f1, N', f2, f3, f4⟩ := e4.obj k2 _ (gO_at _ _ _)
    refine ⟨f1, N', f2, f3, ?_⟩
    generalize hσk : σ' k2 = oa at f4 ⊢
    cases f4 with
    | none => exact .noneN _
    | rows hh hodd hlen hfit hsl =>
      have := hsl.sc hsc'.flat
      subst this
      exact .rowsN hh hodd hlen hfit hsl
  · rw [gO_off _ (by simpa using e)] at h2
    exact e4.obj k2 o2 (by rw [gO_off _ (by simpa using e)]; exact h2)⟩
section
variable {call : CallT} {P : Program} {E : Env} {O : Objs} {d : Option Tmp} {ty : TypeId} {ps : String} {af : Array Edge} {g : Option (Nat × Bool)} {nx : Nat}
theorem OC.callM {f : FuncId} {args : Array Operand} {tys : Array TypeId} {ts0 ts : List T} {ks : List Nat} {r : T} {L L' : LO} {os : List Obj} {O' : Objs} (hb : hasBody P f = true) (ha : VEvs E args.toList ts0) (hkn : ks.Nodup) (hkl : L.length = ks.length) (hol : os.length = ks.length) (hL' : L'.length = ks.length) (hos : ∀ n k : Nat, ks[n]? = some k → ∃ (o : Obj) (x : Nat × List (List T)), os[n]? = some o ∧ L[n]? = some x ∧ gO O k = some o ∧ isR o x) (hcl0 : ∀ x ∈ L, ∀ r ∈ x.2, ∀ t ∈ r, Clean t) (hcl : ∀ x ∈ L', ∀ r ∈ x.2, ∀ t ∈ r, Clean t) (hts : renL (fun n => ks.getD n 0) ts = ts0) (htl : tokLtL ks.length ts = true) (hr0 : PRes r) (hO' : putK O ks L' os = O') (hp : LoanM call f L ts r L') :
    OC call P E O nx ⟨d, .call ⟨.value (.func f), args, tys⟩, ty, ps, af, g⟩ r O' nx ks := ⟨Nat.le_refl _, fun q p h0 σ hf own Ea h hs hu hF => by
  subst hts
  subst hO'
  classical
  obtain ⟨vs, h1, h2⟩ := ha σ hf nx Ea hs.env
  have key : ∀ n : Nat, ∃ w : List Nat × List Nat, ∀ k : Nat, ks[n]? = some k → ∃ (o : Obj) (x : Nat × List (List T)), os[n]? = some o ∧ L[n]? = some x ∧ k < nx ∧ w.2.Nodup ∧ (∀ a ∈ w.2, own a = some k) ∧ ObjR σ hf nx h (.rowsN x.1 x.2 w.1) (σ k) w.2 ∧ ∀ {σ' : Nat → Option Nat} {hf' h' : AH} {nx' : Nat} {y : Nat × List (List T)}, ObjR σ' hf' nx' h' (.rowsN y.1 y.2 w.1) (σ k) w.2 → ObjR σ' hf' nx' h' (putR o y) (σ k) w.2 := fun n => by
    cases hk : ks[n]? with
    | none => exact ⟨([], []), fun k e => by cases e⟩
    | some k =>
      obtain ⟨o, x, e1, e2, e3, e4⟩ := hos n k hk
      obtain ⟨hkx, N, n1, n2, n3⟩ := hs.obj k o e3
      obtain ⟨asg, g1, g2⟩ := e4.toN n3
      refine ⟨(asg, N), fun k' e => ?_⟩
      obtain rfl := Option.some.inj e
      exact ⟨o, x, e1, e2, hkx, n1, n2, g1, g2⟩
  obtain ⟨W, has⟩ := Classical.skolem.1 key
  have hgk : ∀ n k : Nat, ks[n]? = some k → ks.getD n 0 = k := fun n k e => by rw [List.getD_eq_getElem?_getD, e]; rfl
  have hl : VL (fun n => σ (ks.getD n 0)) hf L.length ts vs := by
    refine ⟨by have := h2.1; rw [renL_map, List.length_map] at this; exact this, fun i hi => ?_⟩
    have h6 := h2.2 i (by rw [renL_map, List.length_map]; exact hi)
    refine V.ren (σ' := fun n => σ (ks.getD n 0)) (nx' := L.length) (fun _ _ => rfl) h6 ?_ ?_
    · rw [renL_map]
      simp [List.getD_eq_getElem?_getD, hi]
    · rw [tokLtL_all, List.all_eq_true] at htl
      rw [hkl]
      refine htl _ ?_
      rw [List.getD_eq_getElem?_getD, List.getElem?_eq_getElem hi]
      exact List.getElem_mem hi
  have h6 := hp (fun n => (W n).1) h q hf (fun n => σ (ks.getD n 0)) (fun b => (own b).bind fun k => (ix ks k).bind fun n => if b ∈ (W n).2 then some n else none) vs hF (fun b o hb => ⟨(hs.fro b o hb).1, by simp only [(hs.fro b o hb).2, Option.bind_none]⟩) (fun b n hb => by
    obtain ⟨k, e1, e2⟩ := Option.bind_eq_some_iff.1 hb
    obtain ⟨m, e3, e4⟩ := Option.bind_eq_some_iff.1 e2
    split at e4
    · obtain rfl := Option.some.inj e4
      exact ⟨(hs.mine b k e1).2.2.1, by rw [hkl]; exact (List.getElem?_eq_some_iff.1 (ix_some e3)).1⟩
    · cases e4) (fun n x hx => by
    have hnl : n < ks.length := by rw [← hkl]; exact (List.getElem?_eq_some_iff.1 hx).1
    have hk := List.getElem?_eq_getElem hnl
    obtain ⟨o, x', e1, e2, e3, e4, e5, e6, e7⟩ := has n _ hk
    obtain rfl : x = x' := by rw [hx] at e2; exact Option.some.inj e2
    refine ⟨(W n).2, e4, fun a ha => by simp only [e5 a ha, Option.bind_some, ix_at hkn hk, if_pos ha], ?_⟩
    show ObjR _ hf _ h _ (σ (ks.getD n 0)) _
    rw [hgk n _ hk]
    exact e6.moveN (hcl0 x (List.mem_of_getElem? hx)) (fun _ _ => rfl)) hl
  unfold CallS at h6
  obtain ⟨v, h', k1, k2, k3, ⟨hf2, k4⟩, k5⟩ := h6
  have hfree : ∀ b, h b ≠ none → (∀ k n, own b = some k → ix ks k = some n → b ∉ (W n).2) → h' b = h b := fun b hb hn => k3 b hb (by
    cases ho : own b with
    | none => rfl
    | some k =>
      simp only [Option.bind_some]
      cases hx : ix ks k with
      | none => rfl
      | some n => simp only [Option.bind_some]; rw [if_neg (hn k n ho hx)])
  refine ⟨v, h', σ, own, by simp only [aexec, X.calls hb h1, k1], k2, fun _ _ => rfl, ⟨hs.env, fun k' o hk' => ?_, fun b o hb => ?_, fun b k' hb => ?_, hs.base, fun t ht => ?_⟩, .fz (hr0.R k4 _), fun b hb hnk => hfree b hb (fun k n e e2 => absurd e (hnk k (List.mem_of_getElem? (ix_some e2)))), fun b k' e => .inl e⟩
  · rw [gO_putK k' hkn hL' hol] at hk'
    cases hx : ix ks k' with
    | none =>
      rw [hx] at hk'
      obtain ⟨m1, N2, m2, m3, m4⟩ := hs.obj k' o hk'
      exact ⟨m1, N2, m2, m3, m4.mono (fun _ _ e => e) (Nat.le_refl _) (fun _ _ => rfl) (fun b hb => hfree b (hs.mine b k' (m3 b hb)).2.2.1 (fun k n e e2 => by rw [m3 b hb] at e; obtain rfl := Option.some.inj e; rw [hx] at e2; cases e2))⟩
    | some n =>
      rw [hx] at hk'
      have hk := ix_some hx
      obtain ⟨o1, x, e1, e2, e3, e4, e5, e6, e7⟩ := has n k' hk
      have hnl := (List.getElem?_eq_some_iff.1 hk).1
      have e8 := List.getElem?_eq_getElem (show n < L'.length by rw [hL']; exact hnl)
      simp only [e8, e1] at hk'
      obtain rfl := Option.some.inj hk'
      obtain ⟨N', n1, n2, n3⟩ := k5 n _ e8
      simp only [hgk n _ hk] at n3
      have hNN : N' = (W n).2 := by
        rcases e6.nameN with ⟨q1, q3, q2⟩ | ⟨a, q1, q2⟩
        · rcases n3.nameN with ⟨_, rfl, _⟩ | ⟨a', q4, _⟩
          · exact q3.symm
          · rw [q1] at q4; cases q4
        · rcases n3.nameN with ⟨q3, _, _⟩ | ⟨a', q3, rfl⟩
          · rw [q1] at q3; cases q3
          · rw [q1] at q3; rw [q2, Option.some.inj q3]
      rw [hNN] at n3
      exact ⟨e3, (W n).2, e4, e5, e7 (n3.moveN (hcl _ (List.mem_of_getElem? e8)) (fun _ _ => rfl))⟩
  · obtain ⟨m1, m2⟩ := hs.fro b o hb
    refine ⟨?_, m2⟩
    rw [hfree b (by rw [m1]; simp) (fun k n e _ => by rw [m2] at e; cases e)]
    exact m1
  · obtain ⟨m1, m2, m3, m4⟩ := hs.mine b k' hb
    refine ⟨m1, m2, ?_, m4⟩
    by_cases hbm : ∃ n, ix ks k' = some n ∧ b ∈ (W n).2
    · obtain ⟨n, hx, hbm⟩ := hbm
      have hk := ix_some hx
      have hnl := (List.getElem?_eq_some_iff.1 hk).1
      have e8 := List.getElem?_eq_getElem (show n < L'.length by rw [hL']; exact hnl)
      obtain ⟨o1, x, e1, e2, e3, e4, e5, e6, e7⟩ := has n k' hk
      obtain ⟨N', n1, n2, n3⟩ := k5 n _ e8
      simp only [hgk n _ hk] at n3
      have hNN : N' = (W n).2 := by
        rcases e6.nameN with ⟨q1, q3, q2⟩ | ⟨a, q1, q2⟩
        · rcases n3.nameN with ⟨_, rfl, _⟩ | ⟨a', q4, _⟩
          · exact q3.symm
          · rw [q1] at q4; cases q4
        · rcases n3.nameN with ⟨q3, _, _⟩ | ⟨a', q3, rfl⟩
          · rw [q1] at q3; cases q3
          · rw [q1] at q3; rw [q2, Option.some.inj q3]
      exact n3.namesN b (by rw [hNN]; exact hbm)
    · rw [hfree b m3 (fun k n e e2 hm => hbm ⟨n, by rw [hb] at e; rw [Option.some.inj e]; exact e2, hm⟩)]
      exact m3
  · rcases k2 t ht with e | e
    · exact hs.dom t e
    · exact .inr (hu t e)⟩
theorem OC.callL {f : FuncId} {args : Array Operand} {tys : Array TypeId} {ts0 ts : List T} (ks : List Nat) {r : T} {L : LO} (L' : LO) (os : List Obj) (hb : hasBody P f = true) (ha : VEvs E args.toList ts0) (hkn : ks.Nodup) (hL' : L'.length = ks.length) (hos : hosL O ks os L) (hcl0 : ∀ x ∈ L, ∀ r ∈ x.2, ∀ t ∈ r, Clean t) (hcl : ∀ x ∈ L', ∀ r ∈ x.2, ∀ t ∈ r, Clean t) (hts : renL (fun n => ks.getD n 0) ts = ts0) (htl : tokLtL ks.length ts = true) (hr0 : PRes r) (hp : LoanM call f L ts r L') :
    OC call P E O nx ⟨d, .call ⟨.value (.func f), args, tys⟩, ty, ps, af, g⟩ r (putK O ks L' os) nx ks := OC.callM hb ha hkn hos.len.1 hos.len.2 hL' hos.at hcl0 hcl hts htl hr0 rfl hp
end
section
variable {α : Type}
def mkL (f : Nat → α → α) (w : α → Nat) : Nat → List α → List α
  | _, [] => []
  | k, x :: r => f k x :: mkL f w (k + w x) r
def mkE (w : α → Nat) : Nat → List α → Nat
  | k, [] => k
  | k, x :: r => mkE w (k + w x) r
variable {f : Nat → α → α} {w : α → Nat}
theorem mkL_len : ∀ (k : Nat) (l : List α), (mkL f w k l).length = l.length
  | k, [] => rfl
  | k, x :: r => by simp only [mkL, List.length_cons, mkL_len (k + w x) r]
theorem mkE_app : ∀ (k : Nat) (l m : List α), mkE w k (l ++ m) = mkE w (mkE w k l) m
  | k, [], m => rfl
  | k, x :: r, m => by simp only [List.cons_append, mkE, mkE_app (k + w x) r m]
theorem mkL_app : ∀ (k : Nat) (l m : List α), mkL f w k (l ++ m) = mkL f w k l ++ mkL f w (mkE w k l) m
  | k, [], m => rfl
  | k, x :: r, m => by simp only [List.cons_append, mkL, mkE, mkL_app (k + w x) r m]
theorem mkE_ge : ∀ (k : Nat) (l : List α), k ≤ mkE w k l
  | k, [] => Nat.le_refl _
  | k, x :: r => Nat.le_trans (Nat.le_add_right _ _) (mkE_ge (k + w x) r)
theorem mkE_next {l : List α} {i k : Nat} {x : α} (h : l[i]? = some x) : mkE w k (l.take (i + 1)) = mkE w k (l.take i) + w x := by
  rw [List.take_add_one, h, Option.toList_some, mkE_app]
  rfl
theorem mkE_take (k : Nat) (l : List α) (i : Nat) : mkE w k (l.take i) ≤ mkE w k l := by
  have h : mkE w k (l.take i ++ l.drop i) = mkE w (mkE w k (l.take i)) (l.drop i) := mkE_app _ _ _
  rw [List.take_append_drop] at h
  rw [h]
  exact mkE_ge _ _
def mkT (f : Nat → α → α) (w : α → Nat) (k : Nat) (l : List α) (i : Nat) : List α := mkL f w k (l.take i) ++ l.drop i
theorem mkT_len (k : Nat) (l : List α) (i : Nat) : (mkT f w k l i).length = l.length := by
  unfold mkT
  rw [List.length_append, mkL_len, List.length_take, List.length_drop]; omega
theorem mkT_at {k : Nat} {l : List α} {i : Nat} {x : α} (hi : i < l.length) (h : (mkT f w k l i)[i]? = some x) : l[i]? = some x := by
  unfold mkT at h
  rw [List.getElem?_append_right (by rw [mkL_len, List.length_take]; omega), mkL_len, List.length_take, Nat.min_eq_left (by omega), Nat.sub_self, List.getElem?_drop, Nat.add_zero] at h
  exact h
theorem mkT_set {k : Nat} {l : List α} {i : Nat} {x y : α} (h : l[i]? = some x) (hy : y = f (mkE w k (l.take i)) x) : (mkT f w k l i).set i y = mkT f w k l (i + 1) := by
  have hi := (List.getElem?_eq_some_iff.1 h).1
  subst hy
  unfold mkT
  rw [List.set_append_right _ _ (by rw [mkL_len, List.length_take]; omega), mkL_len, List.length_take, Nat.min_eq_left (by omega), Nat.sub_self, List.drop_eq_getElem_cons hi, List.set_cons_zero, List.take_add_one, h, Option.toList_some, mkL_app]
  simp [mkL]
theorem mkT_done {k : Nat} {l : List α} {i : Nat} (h : ¬ i < l.length) : mkT f w k l i = mkL f w k l := by
  unfold mkT
  rw [List.take_of_length_le (by omega), List.drop_of_length_le (by omega), List.append_nil]
theorem mkL_at : ∀ {k : Nat} {l : List α} {i : Nat} {x : α}, l[i]? = some x → (mkL f w k l)[i]? = some (f (mkE w k (l.take i)) x)
  | k, [], i, x, h => by simp at h
  | k, y :: r, 0, x, h => by
    obtain rfl : y = x := by simpa using h
    rfl
  | k, y :: r, i + 1, x, h => by
    have := mkL_at (k := k + w y) (l := r) (i := i) (by simpa using h)
    simpa [mkL, mkE] using this
theorem mkL_held {k : Nat} {l : List α} {i : Nat} {x : α} (hh : l = mkL f w k l) (h : l[i]? = some x) : x = f (mkE w k (l.take i)) x := by
  have h1 := mkL_at (f := f) (w := w) (k := k) h
  rw [← hh, h] at h1
  exact Option.some.inj h1
theorem mkL_self (hw : ∀ k x, w (f k x) = w x) (hf : ∀ k x, f k (f k x) = f k x) : ∀ (k : Nat) (l : List α), mkL f w k l = mkL f w k (mkL f w k l)
  | k, [] => rfl
  | k, x :: r => by simp only [mkL, hw, hf, ← mkL_self hw hf (k + w x) r]
theorem mkE_self (hw : ∀ k x, w (f k x) = w x) : ∀ (k k2 : Nat) (l : List α), mkE w k (mkL f w k2 l) = mkE w k l
  | k, k2, [] => rfl
  | k, k2, x :: r => by simp only [mkL, mkE, hw, mkE_self hw (k + w x) (k2 + w x) r]
theorem mkE_len (hw : ∀ x, 1 ≤ w x) : ∀ (k : Nat) (l : List α), k + l.length ≤ mkE w k l
  | k, [] => Nat.le_refl _
  | k, x :: r => by
    have h1 := mkE_len hw (k + w x) r
    have h2 := hw x
    simp only [mkE, List.length_cons]
    omega
theorem mkE_le {z : α → Nat} {c : Nat} (hw : ∀ x, w x ≤ c * (1 + z x)) : ∀ (k : Nat) (l : List α), mkE w k l ≤ k + c * zL z l
  | k, [] => Nat.le_add_right _ _
  | k, x :: r => by
    have h1 := mkE_le hw (k + w x) r
    have h2 := hw x
    have e : zL z (x :: r) = (1 + z x) + zL z r := by simp only [zL, sumZ, List.length_cons]; omega
    rw [e, Nat.mul_add]
    simp only [mkE]
    omega
end
end Go.Proofs.Ytfpnmphheminbaa.AE
namespace Go.Proofs.Ytfpnmphheminbaa.AE
open Go Go.RowKit
set_option linter.unusedVariables false
set_option linter.unusedSimpArgs false
section
variable {call : CallT} {P : Program} {E : Env} {O : Objs} {nx : Nat} {S : AX → Env → Objs → Nat → Prop} {u v : Code} {c : Tmp}
theorem ct (h : gE E c = .bool true) (hx : VRun call P u E O nx S) : VRun call P (.cond (.tmp c) u v) E O nx S := VRun.cond (VEv.tmp h) (fun _ => hx) (fun e => absurd e (by decide))
theorem cf (h : gE E c = .bool false) (hx : VRun call P v E O nx S) : VRun call P (.cond (.tmp c) u v) E O nx S := VRun.cond (VEv.tmp h) (fun e => absurd e (by decide)) (fun _ => hx)
theorem ck {b : Bool} (hb : b = true) (h : gE E c = .bool b) (hx : VRun call P u E O nx S) : VRun call P (.cond (.tmp c) u v) E O nx S := ct (hb ▸ h) hx
theorem cg {b : Bool} (hb : b = false) (h : gE E c = .bool b) (hx : VRun call P v E O nx S) : VRun call P (.cond (.tmp c) u v) E O nx S := cf (hb ▸ h) hx
theorem vn : VEvs E [] [] := .nil
theorem ln : LendL O [] [] := LendL.nil
theorem lps : ∀ {ts : List T}, ts.all isPl = true → LendL O ts ts
  | [], _ => LendL.nil
  | t :: r, h => by
    simp only [List.all_cons, Bool.and_eq_true] at h
    exact LendL.cons (Lend.pl h.1) (lps h.2)
def nodB : List Nat → Bool
  | [] => true
  | a :: r => !(r.contains a) && nodB r
theorem nd : ∀ {l : List Nat}, nodB l = true → l.Nodup
  | [], _ => List.nodup_nil
  | a :: r, h => by
    simp only [nodB, Bool.and_eq_true] at h
    exact List.nodup_cons.2 ⟨by simpa using h.1, nd h.2⟩
end
section
variable {call : CallT} {P : Program} {E : Env} {O : Objs} {d : Option Tmp} {ty tt xt : TypeId} {ps : String} {af : Array Edge} {g : Option (Nat × Bool)} {x y : Operand} {kk : IntKind} {a b : Int} {m n : Nat}
theorem xls (hx : VEv E x (.int kk a)) (hy : VEv E y (.int kk b)) : OF call P E ⟨d, .binOp .lss tt x y xt, ty, ps, af, g⟩ (.bool (decide (a < b))) := B.lss hx hy rfl
theorem xle (hx : VEv E x (.int kk a)) (hy : VEv E y (.int kk b)) : OF call P E ⟨d, .binOp .leq tt x y xt, ty, ps, af, g⟩ (.bool (decide (a ≤ b))) := B.leq hx hy rfl
theorem xgt (hx : VEv E x (.int kk a)) (hy : VEv E y (.int kk b)) : OF call P E ⟨d, .binOp .gtr tt x y xt, ty, ps, af, g⟩ (.bool (decide (b < a))) := B.gtr hx hy rfl
theorem xge (hx : VEv E x (.int kk a)) (hy : VEv E y (.int kk b)) : OF call P E ⟨d, .binOp .geq tt x y xt, ty, ps, af, g⟩ (.bool (decide (b ≤ a))) := B.geq hx hy rfl
theorem xeq (hx : VEv E x (.int kk a)) (hy : VEv E y (.int kk b)) : OF call P E ⟨d, .binOp .eql tt x y xt, ty, ps, af, g⟩ (.bool (decide (a = b))) := B.eql hx hy rfl
theorem xne (hx : VEv E x (.int kk a)) (hy : VEv E y (.int kk b)) : OF call P E ⟨d, .binOp .neq tt x y xt, ty, ps, af, g⟩ (.bool (!decide (a = b))) := B.neq hx hy rfl
theorem xls' (hx : VEv E x (tN m)) (hy : VEv E y (tN n)) : OF call P E ⟨d, .binOp .lss tt x y xt, ty, ps, af, g⟩ (.bool (decide (m < n))) := B.lss hx hy (decN (by omega))
theorem xeq' (hx : VEv E x (tN m)) (hy : VEv E y (tN n)) : OF call P E ⟨d, .binOp .eql tt x y xt, ty, ps, af, g⟩ (.bool (decide (m = n))) := B.eql hx hy (decN (by omega))
theorem xne' (hx : VEv E x (tN m)) (hy : VEv E y (tN n)) : OF call P E ⟨d, .binOp .neq tt x y xt, ty, ps, af, g⟩ (.bool (!decide (m = n))) := B.neq hx hy (congrArg (!·) (decN (by omega)))
theorem xnot {b1 : Bool} (hx : VEv E x (.bool b1)) : OF call P E ⟨d, .unOp .not tt x, ty, ps, af, g⟩ (.bool (!b1)) := B.not hx rfl
theorem xinc (hx : VEv E x (tN m)) (hy : VEv E y (.int .i64 1)) (h : m + 1 < 9223372036854775808) : OF call P E ⟨d, .binOp .add tt x y xt, ty, ps, af, g⟩ (tN (m + 1)) := B.add hx hy (by rw [wrap64 (by omega)]; omega)
theorem xix {s : ByteArray} (hx : VEv E x (.str s)) (hy : VEv E y (tN m)) (hi : m < s.size) (hu : P.underlying tt = some .string) : OF call P E ⟨d, .index tt x y, ty, ps, af, g⟩ (.int .u8 (bAt s m)) := B.index hx hy rfl hi hu (bAt_eq hi)
end
section
variable {call : CallT} {P : Program} {ops : Array Oper} {l : List Oper} {E : Env} {O : Objs} {nx : Nat} {K : Env → Objs → Nat → Prop} {d1 a : Nat} {d2 : Option Tmp} {ty1 ty2 tt tt2 : TypeId} {ps1 ps2 : String} {af1 af2 : Array Edge} {j k o off : Nat} {us : List T}
theorem gE_here (E : Env) (n : Nat) (t : T) : gE ((n, t) :: E) n = t := by simp [gE]
theorem lf (t : T) (h : gE E a = .op k o) (fa : ∀ k o, afieldAddr P tt (.pointer (some ⟨k, o, none⟩)) j = some (.pointer (some ⟨k, o + off, none⟩))) (hk : gO O k = some (.cells us)) (ht : us[o + off]? = some t) (hst : isStruct P tt2 = some false) (hK : VRunO call P ops l (pE ((d1, .op k (o + off)) :: E) d2 t) O nx K) :
    VRunO call P ops (⟨some d1, .fieldAddr tt (.tmp a) j, ty1, ps1, af1, none⟩ :: ⟨d2, .load tt2 (.tmp d1), ty2, ps2, af2, none⟩ :: l) E O nx K := fO (OF.fieldAddrO (VEv.tmp h) fa) (lO (OL.loadO1 (VEv.tmp (gE_here _ _ _)) hk ht hst) hK)
theorem lr (t : T) (h : gE E a = .rp us) (hn : off ≤ us.length) (fa : ∀ k o, afieldAddr P tt (.pointer (some ⟨k, o, none⟩)) j = some (.pointer (some ⟨k, o + off, none⟩))) (ht : (us.drop off)[0]? = some t) (hst : isStruct P tt2 = some false) (hK : VRunO call P ops l (pE ((d1, .rp (us.drop off)) :: E) d2 t) O nx K) :
    VRunO call P ops (⟨some d1, .fieldAddr tt (.tmp a) j, ty1, ps1, af1, none⟩ :: ⟨d2, .load tt2 (.tmp d1), ty2, ps2, af2, none⟩ :: l) E O nx K := fO (B.fieldAddrR (VEv.tmp h) hn fa rfl) (lO (OL.loadR1 (VEv.tmp (gE_here _ _ _)) ht hst) hK)
variable {i q : Nat} {w b : Bool} {t0 : T}
theorem glf (t : T) (hb : b = w) (hd : (ops[i]?).bind (·.dst) = some q) (hq : gE E q = .bool b) (hne : (q == d1) = false) (h : gE E a = .op k o) (fa : ∀ k o, afieldAddr P tt (.pointer (some ⟨k, o, none⟩)) j = some (.pointer (some ⟨k, o + off, none⟩))) (hk : gO O k = some (.cells us)) (ht : us[o + off]? = some t) (hst : isStruct P tt2 = some false) (hK : VRunO call P ops l (pE ((d1, .op k (o + off)) :: E) d2 t) O nx K) :
    VRunO call P ops (⟨some d1, .fieldAddr tt (.tmp a) j, ty1, ps1, af1, some (i, w)⟩ :: ⟨d2, .load tt2 (.tmp d1), ty2, ps2, af2, some (i, w)⟩ :: l) E O nx K := gF hb hd hq (OF.fieldAddrO (VEv.tmp h) fa) (gL hb hd ((gE_off E hne _).trans hq) (OL.loadO1 (VEv.tmp (gE_here _ _ _)) hk ht hst) hK)
theorem glr (t : T) (hb : b = w) (hd : (ops[i]?).bind (·.dst) = some q) (hq : gE E q = .bool b) (hne : (q == d1) = false) (h : gE E a = .rp us) (hn : off ≤ us.length) (fa : ∀ k o, afieldAddr P tt (.pointer (some ⟨k, o, none⟩)) j = some (.pointer (some ⟨k, o + off, none⟩))) (ht : (us.drop off)[0]? = some t) (hst : isStruct P tt2 = some false) (hK : VRunO call P ops l (pE ((d1, .rp (us.drop off)) :: E) d2 t) O nx K) :
    VRunO call P ops (⟨some d1, .fieldAddr tt (.tmp a) j, ty1, ps1, af1, some (i, w)⟩ :: ⟨d2, .load tt2 (.tmp d1), ty2, ps2, af2, some (i, w)⟩ :: l) E O nx K := gF hb hd hq (B.fieldAddrR (VEv.tmp h) hn fa rfl) (gL hb hd ((gE_off E hne _).trans hq) (OL.loadR1 (VEv.tmp (gE_here _ _ _)) ht hst) hK)
def offC (i : Nat) (w : Bool) (q : Nat) : List Oper → Bool
  | [] => true
  | o :: r => (match o.guard with | some (a, b) => Nat.beq a i && (b == w) | none => false) && (match o.dst with | some d => !(Nat.beq d q) | none => true) && offC i w q r
def offE (E : Env) : List Oper → Env
  | [] => E
  | o :: r => offE (pE E o.dst (.tup [])) r
theorem offL (hd : (ops[i]?).bind (·.dst) = some q) (hv : ∀ (dd : Option Tmp) (op : Op) (ty : TypeId) (ps : String) (af : Array Edge) (E : Env), gE E q = t0 → VWant ops E ⟨dd, op, ty, ps, af, some (i, w)⟩ false) {l2 : List Oper} (l1 : List Oper) : ∀ (E : Env), offC i w q l1 = true → gE E q = t0 → VRunO call P ops l2 (offE E l1) O nx K → VRunO call P ops (l1 ++ l2) E O nx K := by
  induction l1 with
  | nil => exact fun E _ _ hK => hK
  | cons o r ih =>
    intro E hc hq hK
    obtain ⟨dd, op, ty, ps, af, g⟩ := o
    simp only [offC, Bool.and_eq_true] at hc
    obtain ⟨⟨h1, h2⟩, h3⟩ := hc
    cases g with
    | none => cases h1
    | some g =>
      obtain ⟨a, b⟩ := g
      simp only [Bool.and_eq_true] at h1
      have e1 : a = i := Nat.eq_of_beq_eq_true h1.1
      have e2 : b = w := by simpa using h1.2
      subst e1
      subst e2
      refine VRunO.off (hv _ _ _ _ _ _ hq) (ih _ h3 ?_ hK)
      cases dd with
      | none => exact hq
      | some d =>
        refine (gE_off E (d := d) (t := q) ?_ _).trans hq
        rw [beq_eq_false_iff_ne]
        rintro rfl
        simp at h2
theorem offs (m i : Nat) (w : Bool) (q : Nat) (hb : b = !w) (hd : (ops[i]?).bind (·.dst) = some q) (hq : gE E q = .bool b) (hc : offC i w q (l.take m) = true) (hK : VRunO call P ops (l.drop m) (offE E (l.take m)) O nx K) : VRunO call P ops l E O nx K := by
  rw [← List.take_append_drop m l]
  exact offL hd (fun _ _ _ _ _ _ h => VWant.not hd h hb) _ _ hc hq hK
theorem offu (m i : Nat) (w : Bool) (q : Nat) (hd : (ops[i]?).bind (·.dst) = some q) (hq : gE E q = .tup []) (hc : offC i w q (l.take m) = true) (hK : VRunO call P ops (l.drop m) (offE E (l.take m)) O nx K) : VRunO call P ops l E O nx K := by
  rw [← List.take_append_drop m l]
  exact offL hd (fun _ _ _ _ _ _ h => VWant.undef hd h) _ _ hc hq hK
end
end Go.Proofs.Ytfpnmphheminbaa.AE
namespace Go.Proofs.Ytfpnmphheminbaa.AE
open Go Go.RowKit
set_option linter.unusedVariables false
set_option linter.unusedSimpArgs false
structure D.Step where
  Kind : Int
  Word : ByteArray
  A : Int
  B : Int
def kStep : AK D.Step := AK.iso (AK.pair (AK.int .i64) (AK.pair AK.string (AK.pair (AK.int .i64) (AK.int .i64)))) (fun x => (x.Kind, x.Word, x.A, x.B))
def GStep (x : D.Step) : Prop := ((Lit.int .i64 x.Kind).wf = true) ∧ (x.Word.size ≤ maxLen) ∧ ((Lit.int .i64 x.A).wf = true) ∧ ((Lit.int .i64 x.B).wf = true)
structure D.Clue where
  Sense : Int
  Play : _root_.List D.Step
def kClue : AK D.Clue := AK.iso (AK.pair (AK.int .i64) (AK.slice kStep)) (fun x => (x.Sense, x.Play))
def GClue (x : D.Clue) : Prop := ((Lit.int .i64 x.Sense).wf = true) ∧ ((x.Play.length ≤ maxLen ∧ ∀ y ∈ x.Play, GStep y))
structure D.Correction where
  Issue : Int
  Slot : Int
  Clue : D.Clue
  Tick : Int
def kCorrection : AK D.Correction := AK.iso (AK.pair (AK.int .i64) (AK.pair (AK.int .i64) (AK.pair kClue (AK.int .i64)))) (fun x => (x.Issue, x.Slot, x.Clue, x.Tick))
def GCorrection (x : D.Correction) : Prop := ((Lit.int .i64 x.Issue).wf = true) ∧ ((Lit.int .i64 x.Slot).wf = true) ∧ (GClue x.Clue) ∧ ((Lit.int .i64 x.Tick).wf = true)
theorem ok109 : AOpens Try.prog 109 kStep GStep := aopens_mono (aopens_struct (P := Try.prog) (t := 109) (fun x : D.Step => (x.Kind, x.Word, x.A, x.B)) (fun x => ⟨x.1, x.2.1, x.2.2.1, x.2.2.2⟩) (fun _ => rfl) Try.underlying109 (by kernel_rfl) (afields_cons rfl (by kernel_rfl) (aopens_int (k := .i64) Try.underlying3) (afields_cons rfl (by kernel_rfl) (aopens_string Try.underlying9) (afields_cons rfl (by kernel_rfl) (aopens_int (k := .i64) Try.underlying3) (afields_one rfl (by kernel_rfl) (aopens_int (k := .i64) Try.underlying3)))))) (fun _ h => h)
theorem ok53 : AOpens Try.prog 53 kClue GClue := aopens_mono (aopens_struct (P := Try.prog) (t := 53) (fun x : D.Clue => (x.Sense, x.Play)) (fun x => ⟨x.1, x.2⟩) (fun _ => rfl) Try.underlying53 (by kernel_rfl) (afields_cons rfl (by kernel_rfl) (aopens_int (k := .i64) Try.underlying3) (afields_one rfl (by kernel_rfl) (aopens_slice Try.underlying51 (by kernel_rfl) (of_decide_eq_true (by kernel_rfl)) ok109)))) (fun _ h => h)
theorem ok55 : AOpens Try.prog 55 kCorrection GCorrection := aopens_mono (aopens_struct (P := Try.prog) (t := 55) (fun x : D.Correction => (x.Issue, x.Slot, x.Clue, x.Tick)) (fun x => ⟨x.1, x.2.1, x.2.2.1, x.2.2.2⟩) (fun _ => rfl) Try.underlying55 (by kernel_rfl) (afields_cons rfl (by kernel_rfl) (aopens_int (k := .i64) Try.underlying3) (afields_cons rfl (by kernel_rfl) (aopens_int (k := .i64) Try.underlying3) (afields_cons rfl (by kernel_rfl) ok53 (afields_one rfl (by kernel_rfl) (aopens_int (k := .i64) Try.underlying3)))))) (fun _ h => h)
theorem sz2 : Try.prog.cellsOf 2 = 1 := by kernel_rfl
theorem st3 : isStruct Try.prog 3 = some false := by kernel_rfl
theorem sz3 : Try.prog.cellsOf 3 = 1 := by kernel_rfl
theorem if3 : (Try.prog.info? 3).isSome = true := by kernel_rfl
theorem sz5 : Try.prog.cellsOf 5 = 1 := by kernel_rfl
theorem zo5 : zeroOf Try.prog 5 = some (.int .u8 0) := by kernel_rfl
theorem st9 : isStruct Try.prog 9 = some false := by kernel_rfl
theorem sz9 : Try.prog.cellsOf 9 = 1 := by kernel_rfl
theorem if9 : (Try.prog.info? 9).isSome = true := by kernel_rfl
theorem st51 : isStruct Try.prog 51 = some false := by kernel_rfl
theorem sz51 : Try.prog.cellsOf 51 = 1 := by kernel_rfl
theorem if51 : (Try.prog.info? 51).isSome = true := by kernel_rfl
theorem st53 : isStruct Try.prog 53 = some true := by kernel_rfl
theorem sz53 : Try.prog.cellsOf 53 = 2 := by kernel_rfl
theorem if53 : (Try.prog.info? 53).isSome = true := by kernel_rfl
theorem st55 : isStruct Try.prog 55 = some true := by kernel_rfl
theorem sz55 : Try.prog.cellsOf 55 = 5 := by kernel_rfl
theorem if55 : (Try.prog.info? 55).isSome = true := by kernel_rfl
theorem st62 : isStruct Try.prog 62 = some false := by kernel_rfl
theorem sz62 : Try.prog.cellsOf 62 = 1 := by kernel_rfl
theorem if62 : (Try.prog.info? 62).isSome = true := by kernel_rfl
theorem st64 : isStruct Try.prog 64 = some true := by kernel_rfl
theorem sz64 : Try.prog.cellsOf 64 = 2 := by kernel_rfl
theorem if64 : (Try.prog.info? 64).isSome = true := by kernel_rfl
theorem zo64 : zeroOf Try.prog 64 = some (.agg #[.int .i64 0, .slice none 0 0]) := by kernel_rfl
theorem zc64 : closedV (.agg #[.int .i64 0, .slice none 0 0]) = true := by kernel_rfl
theorem st66 : isStruct Try.prog 66 = some true := by kernel_rfl
theorem sz66 : Try.prog.cellsOf 66 = 5 := by kernel_rfl
theorem if66 : (Try.prog.info? 66).isSome = true := by kernel_rfl
theorem zo66 : zeroOf Try.prog 66 = some (.agg #[.int .i64 0, .int .i64 0, .int .i64 0, .slice none 0 0, .int .i64 0]) := by kernel_rfl
theorem zc66 : closedV (.agg #[.int .i64 0, .int .i64 0, .int .i64 0, .slice none 0 0, .int .i64 0]) = true := by kernel_rfl
theorem st106 : isStruct Try.prog 106 = some true := by kernel_rfl
theorem sz106 : Try.prog.cellsOf 106 = 4 := by kernel_rfl
theorem if106 : (Try.prog.info? 106).isSome = true := by kernel_rfl
theorem zo106 : zeroOf Try.prog 106 = some (.agg #[.int .i64 0, .string ByteArray.empty, .int .i64 0, .int .i64 0]) := by kernel_rfl
theorem zc106 : closedV (.agg #[.int .i64 0, .string ByteArray.empty, .int .i64 0, .int .i64 0]) = true := by kernel_rfl
theorem st109 : isStruct Try.prog 109 = some true := by kernel_rfl
theorem sz109 : Try.prog.cellsOf 109 = 4 := by kernel_rfl
theorem if109 : (Try.prog.info? 109).isSome = true := by kernel_rfl
theorem fa53_0 (k o : Nat) : afieldAddr Try.prog 53 (.pointer (some ⟨k, o, none⟩)) 0 = some (.pointer (some ⟨k, o + 0, none⟩)) := by simp [afieldAddr, Try.underlying53, if3, sz3]
theorem fa53_1 (k o : Nat) : afieldAddr Try.prog 53 (.pointer (some ⟨k, o, none⟩)) 1 = some (.pointer (some ⟨k, o + 1, none⟩)) := by simp [afieldAddr, Try.underlying53, if51, sz51]
theorem fa55_0 (k o : Nat) : afieldAddr Try.prog 55 (.pointer (some ⟨k, o, none⟩)) 0 = some (.pointer (some ⟨k, o + 0, none⟩)) := by simp [afieldAddr, Try.underlying55, if3, sz3]
theorem fa55_1 (k o : Nat) : afieldAddr Try.prog 55 (.pointer (some ⟨k, o, none⟩)) 1 = some (.pointer (some ⟨k, o + 1, none⟩)) := by simp [afieldAddr, Try.underlying55, if3, sz3]
theorem fa55_2 (k o : Nat) : afieldAddr Try.prog 55 (.pointer (some ⟨k, o, none⟩)) 2 = some (.pointer (some ⟨k, o + 2, none⟩)) := by simp [afieldAddr, Try.underlying55, if53, sz53]
theorem fa55_3 (k o : Nat) : afieldAddr Try.prog 55 (.pointer (some ⟨k, o, none⟩)) 3 = some (.pointer (some ⟨k, o + 4, none⟩)) := by simp [afieldAddr, Try.underlying55, if3, sz3]
theorem fa64_0 (k o : Nat) : afieldAddr Try.prog 64 (.pointer (some ⟨k, o, none⟩)) 0 = some (.pointer (some ⟨k, o + 0, none⟩)) := by simp [afieldAddr, Try.underlying64, if3, sz3]
theorem fa64_1 (k o : Nat) : afieldAddr Try.prog 64 (.pointer (some ⟨k, o, none⟩)) 1 = some (.pointer (some ⟨k, o + 1, none⟩)) := by simp [afieldAddr, Try.underlying64, if62, sz62]
theorem fa66_0 (k o : Nat) : afieldAddr Try.prog 66 (.pointer (some ⟨k, o, none⟩)) 0 = some (.pointer (some ⟨k, o + 0, none⟩)) := by simp [afieldAddr, Try.underlying66, if3, sz3]
theorem fa66_1 (k o : Nat) : afieldAddr Try.prog 66 (.pointer (some ⟨k, o, none⟩)) 1 = some (.pointer (some ⟨k, o + 1, none⟩)) := by simp [afieldAddr, Try.underlying66, if3, sz3]
theorem fa66_2 (k o : Nat) : afieldAddr Try.prog 66 (.pointer (some ⟨k, o, none⟩)) 2 = some (.pointer (some ⟨k, o + 2, none⟩)) := by simp [afieldAddr, Try.underlying66, if64, sz64]
theorem fa66_3 (k o : Nat) : afieldAddr Try.prog 66 (.pointer (some ⟨k, o, none⟩)) 3 = some (.pointer (some ⟨k, o + 4, none⟩)) := by simp [afieldAddr, Try.underlying66, if3, sz3]
theorem fa106_0 (k o : Nat) : afieldAddr Try.prog 106 (.pointer (some ⟨k, o, none⟩)) 0 = some (.pointer (some ⟨k, o + 0, none⟩)) := by simp [afieldAddr, Try.underlying106, if3, sz3]
theorem fa106_1 (k o : Nat) : afieldAddr Try.prog 106 (.pointer (some ⟨k, o, none⟩)) 1 = some (.pointer (some ⟨k, o + 1, none⟩)) := by simp [afieldAddr, Try.underlying106, if9, sz9]
theorem fa106_2 (k o : Nat) : afieldAddr Try.prog 106 (.pointer (some ⟨k, o, none⟩)) 2 = some (.pointer (some ⟨k, o + 2, none⟩)) := by simp [afieldAddr, Try.underlying106, if3, sz3]
theorem fa106_3 (k o : Nat) : afieldAddr Try.prog 106 (.pointer (some ⟨k, o, none⟩)) 3 = some (.pointer (some ⟨k, o + 3, none⟩)) := by simp [afieldAddr, Try.underlying106, if3, sz3]
theorem fa109_0 (k o : Nat) : afieldAddr Try.prog 109 (.pointer (some ⟨k, o, none⟩)) 0 = some (.pointer (some ⟨k, o + 0, none⟩)) := by simp [afieldAddr, Try.underlying109, if3, sz3]
theorem fa109_1 (k o : Nat) : afieldAddr Try.prog 109 (.pointer (some ⟨k, o, none⟩)) 1 = some (.pointer (some ⟨k, o + 1, none⟩)) := by simp [afieldAddr, Try.underlying109, if9, sz9]
theorem fa109_2 (k o : Nat) : afieldAddr Try.prog 109 (.pointer (some ⟨k, o, none⟩)) 2 = some (.pointer (some ⟨k, o + 2, none⟩)) := by simp [afieldAddr, Try.underlying109, if3, sz3]
theorem fa109_3 (k o : Nat) : afieldAddr Try.prog 109 (.pointer (some ⟨k, o, none⟩)) 3 = some (.pointer (some ⟨k, o + 3, none⟩)) := by simp [afieldAddr, Try.underlying109, if3, sz3]
theorem follows : Try.prog.follows .mixedOrders = true := by kernel_rfl
theorem plainProg : Plain Try.prog := by
  unfold Plain
  kernel_rfl
end Go.Proofs.Ytfpnmphheminbaa.AE
namespace Go.Proofs.Ytfpnmphheminbaa.AE
open Go Go.RowKit
set_option linter.unusedVariables false
set_option linter.unusedSimpArgs false
noncomputable instance : DecidableEq D.Step := Classical.typeDecidableEq _
def eStep (m : Bool) (x : D.Step) : List T := [.int .i64 x.Kind, .str x.Word, .int .i64 x.A, .int .i64 x.B]
theorem okeStep : EncOk eStep 4 := ⟨fun _ _ => rfl, fun x => ball_cons (.int _ _) (ball_cons (.str _) (ball_cons (.int _ _) (ball_cons (.int _ _) (ball_nil)))), fun m x => by simp only [eStep, fzL, AE.fz], fun m x => ball_cons rfl (ball_cons rfl (ball_cons rfl (ball_cons rfl (ball_nil)))), fun x => ball_cons rfl (ball_cons rfl (ball_cons rfl (ball_cons rfl (ball_nil))))⟩
def zStep (x : D.Step) : Nat := ByteArray.size x.Word
theorem flStep : FlatE eStep := fun _ _ => rfl
theorem rkStep : RK kStep eStep := rkIso (rkPair rkInt (rkPair rkStr (rkPair rkInt rkInt))) (fun _ => rfl)
noncomputable instance : DecidableEq D.Clue := Classical.typeDecidableEq _
def eClue (m : Bool) (x : D.Clue) : List T := [.int .i64 x.Sense, .sl m 4 (x.Play.map (eStep m))]
theorem okeClue : EncOk eClue 2 := ⟨fun _ _ => rfl, fun x => ball_cons (.int _ _) (ball_cons (.sl _ _ (okeStep.cleanMap _)) (ball_nil)), fun m x => by simp only [eClue, fzL, AE.fz, okeStep.fzMap], fun m x => ball_cons rfl (ball_cons rfl (ball_nil)), fun x => ball_cons rfl (ball_cons rfl (ball_nil))⟩
def zClue (x : D.Clue) : Nat := (zL zStep) x.Play
theorem rkClue : RK kClue eClue := rkIso (rkPair rkInt (rkSl rkStep okeStep rfl)) (fun _ => rfl)
noncomputable instance : DecidableEq D.Correction := Classical.typeDecidableEq _
def eCorrection (m : Bool) (x : D.Correction) : List T := [.int .i64 x.Issue, .int .i64 x.Slot, .int .i64 x.Clue.Sense, .sl m 4 (x.Clue.Play.map (eStep m)), .int .i64 x.Tick]
theorem okeCorrection : EncOk eCorrection 5 := ⟨fun _ _ => rfl, fun x => ball_cons (.int _ _) (ball_cons (.int _ _) (ball_cons (.int _ _) (ball_cons (.sl _ _ (okeStep.cleanMap _)) (ball_cons (.int _ _) (ball_nil))))), fun m x => by simp only [eCorrection, fzL, AE.fz, okeStep.fzMap], fun m x => ball_cons rfl (ball_cons rfl (ball_cons rfl (ball_cons rfl (ball_cons rfl (ball_nil))))), fun x => ball_cons rfl (ball_cons rfl (ball_cons rfl (ball_cons rfl (ball_cons rfl (ball_nil)))))⟩
def zCorrection (x : D.Correction) : Nat := zClue x.Clue
theorem rkCorrection : RK kCorrection eCorrection := rkIso (rkPair rkInt (rkPair rkInt (rkPair rkClue rkInt))) (fun _ => rfl)
theorem U3 : Try.prog.underlying 3 = some (.int .i64) := Try.underlying3
theorem U4 : Try.prog.underlying 4 = some .bool := Try.underlying4
theorem U5 : Try.prog.underlying 5 = some (.int .u8) := Try.underlying5
theorem U9 : Try.prog.underlying 9 = some .string := Try.underlying9
theorem U50 : Try.prog.underlying 50 = some (.slice 55) := Try.underlying50
theorem U51 : Try.prog.underlying 51 = some (.slice 109) := Try.underlying51
theorem U58 : Try.prog.underlying 58 = some (.slice 66) := Try.underlying58
theorem U62 : Try.prog.underlying 62 = some (.slice 106) := Try.underlying62
theorem U98 : Try.prog.underlying 98 = some (.slice 5) := Try.underlying98
end Go.Proofs.Ytfpnmphheminbaa.AE
namespace Go.Proofs.Ytfpnmphheminbaa.AE
open Go Go.RowKit
set_option linter.unusedVariables false
set_option linter.unusedSimpArgs false
set_option maxRecDepth 20000
set_option maxHeartbeats 2000000
theorem W_laws_szStep (n : Nat) (a : D.Step) (left : Int) (h0 : 0 ≤ left) (h1 : left ≤ (mx : Int)) (hg : GStep a) : Pure (acall Try.prog (n + 1)) 89 [(T.agg (eStep false a)), (tI left)] (tI (szR (zStep a) left)) := by
  refine Pure.intro (rs := [ResultVar.tmp 4]) Try.func89 rfl rfl rfl (E0 := [(0, (T.agg (eStep false a))), (1, (tI left))]) rfl ?_
  obtain ⟨hlim, hmx, hmax⟩ := lims
  obtain ⟨hg0, hg1, hg2, hg3⟩ := hg
  refine sr (kO (B.box (ts := (eStep false a)) (tv (T.agg (eStep false a)) rfl) nofun rfl) (fO (OF.assign (VEv.int .i64 0)) (nt (sr (mO (tI left) rfl (lf (tS a.Word) rfl fa109_1 rfl rfl st9 (lO (B.lenS (tv (tS a.Word) rfl) U9) (fO (B.sub (n := (left - ((a.Word.size : Nat) : Int))) (tv (tI left) rfl) (tv (tN a.Word.size) rfl) (by (rw [wrap64 (by omega)]; done))) (aO (tI (left - ((a.Word.size : Nat) : Int))) rfl (nt (sq ?_)))))))))))
  refine sr (mO (tI (left - ((a.Word.size : Nat) : Int))) rfl (fO (xls (tv (tI (left - ((a.Word.size : Nat) : Int))) rfl) (VEv.int .i64 0)) (nt ?_)))
  refine cd ((left - ((a.Word.size : Nat) : Int)) < 0) rfl (fun fhc0 => ?_) fun fhc0 => ?_
  · refine sr ?_
    refine fO (OF.assign (VEv.int .i64 (-1))) (nt (rt (tr (vi (n' := (-1)) rfl ?_))))
    exact szR_neg (by simp only [zStep]; omega)
  refine sk (tn (sr (mO (tI (left - ((a.Word.size : Nat) : Int))) rfl (aO (tI (left - ((a.Word.size : Nat) : Int))) rfl (nt (rt (vi (n' := (left - ((a.Word.size : Nat) : Int))) rfl ?_)))))))
  rw [← szR_nn (z := zStep a) (l := left) (by simp only [zStep]; omega)]
  all_goals rfl
theorem W_laws_szStepS (n : Nat) (a : List D.Step) (left : Int) (h0 : 0 ≤ left) (h1 : left ≤ (mx : Int)) (hg : a.length ≤ maxLen ∧ ∀ x ∈ a, GStep x) : Pure (acall Try.prog (n + 2)) 79 [(rd 4 eStep a), (tI left)] (tI (szR (zL zStep a) left)) := by
  refine Pure.intro (rs := [ResultVar.tmp 4]) Try.func79 rfl rfl rfl (E0 := [(0, (rd 4 eStep a)), (1, (tI left))]) rfl ?_
  obtain ⟨hlim, hmx, hmax⟩ := lims
  obtain ⟨hg1, hg2⟩ := hg
  refine sr (fO (OF.assign (VEv.int .i64 0)) (nt (sr (mO (tI left) rfl (mO (rd 4 eStep a) rfl (lO (B.lenR (m := a.length) (tv (rd 4 eStep a) rfl) U51 (List.length_map ..)) (fO (B.sub (n := (left - ((a.length : Nat) : Int))) (tv (tI left) rfl) (tv (tN a.length) rfl) (by (rw [wrap64 (by omega)]; done))) (aO (tI (left - ((a.length : Nat) : Int))) rfl (nt (sq (sr ?_)))))))))))
  refine mO (tI (left - ((a.length : Nat) : Int))) rfl (fO (xls (tv (tI (left - ((a.length : Nat) : Int))) rfl) (VEv.int .i64 0)) (nt ?_))
  refine cd ((left - ((a.length : Nat) : Int)) < 0) rfl (fun fhc0 => ?_) fun fhc0 => ?_
  · refine sr ?_
    refine fO (OF.assign (VEv.int .i64 (-1))) (nt (rt (tr (vi (n' := (-1)) rfl ?_))))
    exact SzI.early fhc0
  refine sk (tn (sq (sr (fO (OF.assign (VEv.int .i64 0)) (nt (VRun.block ?_))))))
  refine VRun.loop (A := Nat × Int) (fun s_ => [(0, (rd 4 eStep a)), (1, (tI s_.2)), (5, (tN s_.1))]) (fun s_ => mkO []) 0 (fun s_ => SzI zStep a left s_.1 s_.2) (fun s_ => a.length - s_.1) ((0, left - (a.length : Int)) : Nat × Int) ?_ (Wk.mk (fun k => k) ?_ ?_ ?_) ?_
  · exact SzI.start h1 fhc0
  · exact (b2 (bc ⟨(congrArg (T.int .i64) (show (left - ((a.length : Nat) : Int)) = (left - (a.length : Int)) from (by rfl))), rfl⟩ (b2 bn)))
  · exact bn
  · exact nd rfl
  rintro ⟨i, r⟩ (hI' : SzI zStep a left i r)
  show VRun _ _ _ [(0, (rd 4 eStep a)), (1, (tI r)), (5, (tN i))] (mkO []) 0 _
  have hI2 := hI'.1
  have hI3 := hI'.2.1
  have hI4 := hI'.2.2.1
  refine sq (sr (mO (tN i) rfl (mO (rd 4 eStep a) rfl (lO (B.lenR (m := a.length) (tv (rd 4 eStep a) rfl) U51 (List.length_map ..)) (fO (xls' (tv (tN i) rfl) (tv (tN a.length) rfl)) (nt ?_))))))
  refine cd (i < a.length) rfl (fun fhc1 => ?_) fun fhc1 => ?_
  · refine sk ?_
    refine tn (sq (VRun.block (sr (mO (rd 4 eStep a) rfl (mO (tN i) rfl ?_)))))
    obtain ⟨x1, hx1⟩ : ∃ x, a[i]? = some x := ⟨_, List.getElem?_eq_getElem (by omega)⟩
    refine fO (OF.indexAddrR (row := (eStep false x1)) (i := i) (tv (rd 4 eStep a) rfl) (tv (tN i) rfl) rfl (map_at _ hx1) U51 sz109 if109) (lO (OL.loadRn (us := (eStep false x1)) (tv (T.rp (eStep false x1)) rfl) st109 sz109 (lb rfl) rfl) (mO (tI r) rfl (cO (cS (vc (tv (T.agg (eStep false x1)) rfl) (vc (tv (tI r) rfl) vn)) (LendL.cons (lg okeStep) (lp rfl ln)) (W_laws_szStep (n + 0) x1 r (by assumption) (by assumption) (by exact hg2 _ (List.mem_of_getElem? hx1))) rfl rfl) (aO (tI (szR (zStep x1) r)) rfl (nt (sr (mO (tI (szR (zStep x1) r)) rfl (fO (xls (tv (tI (szR (zStep x1) r)) rfl) (VEv.int .i64 0)) (nt ?_)))))))))
    refine cd (szR (zStep x1) r < 0) rfl (fun fhc2 => ?_) fun fhc2 => ?_
    · refine sr ?_
      refine fO (OF.assign (VEv.int .i64 (-1))) (nt (rt (vinB.r (tr (tr (vinB.r (tr (vi (n' := (-1)) rfl ?_))))))))
      exact hI'.bad hx1 fhc2
    refine sk (vinB.n (tn (VRun.region (mO (tN i) rfl (fO (xinc (tv (tN i) rfl) (VEv.int .i64 1) (by omega)) (aO (tN (i + 1)) rfl (VRunO.nil (tn ?_))))))))
    refine ⟨((i + 1, szR (zStep x1) r) : Nat × Int), ?_, ?_, Wk.mk (fun k => k) ?_ ?_ ?_⟩
    · exact hI'.next hx1 fhc2
    · omega
    · exact (b2 (b2 (b2 bn)))
    · exact bn
    · exact nd rfl
  refine VRun.exit (vthn.e (vthn.e (vinB.e (tn (sr (mO (tI r) rfl (aO (tI r) rfl (nt (rt (vi (n' := r) rfl ?_))))))))))
  exact hI'.done fhc1
theorem W_laws_szClue (n : Nat) (a : D.Clue) (left : Int) (h0 : 0 ≤ left) (h1 : left ≤ (mx : Int)) (hg : GClue a) : Pure (acall Try.prog (n + 3)) 57 [(T.agg (eClue false a)), (tI left)] (tI (szR (zClue a) left)) := by
  refine Pure.intro (rs := [ResultVar.tmp 4]) Try.func57 rfl rfl rfl (E0 := [(0, (T.agg (eClue false a))), (1, (tI left))]) rfl ?_
  obtain ⟨hlim, hmx, hmax⟩ := lims
  obtain ⟨hg0, hg1⟩ := hg
  refine sr (kO (B.box (ts := (eClue false a)) (tv (T.agg (eClue false a)) rfl) nofun rfl) (fO (OF.assign (VEv.int .i64 0)) (nt (sr (lf (rd 4 eStep a.Play) rfl fa53_1 rfl rfl st51 (mO (tI left) rfl (cO (cS (vc (tv (rd 4 eStep a.Play) rfl) (vc (tv (tI left) rfl) vn)) (lps rfl) (W_laws_szStepS (n + 0) a.Play left (by assumption) (by assumption) (by assumption)) rfl rfl) (aO (tI (szR (zL zStep a.Play) left)) rfl (nt (sq (sr ?_)))))))))))
  refine mO (tI (szR (zL zStep a.Play) left)) rfl (fO (xls (tv (tI (szR (zL zStep a.Play) left)) rfl) (VEv.int .i64 0)) (nt ?_))
  refine cd (szR (zL zStep a.Play) left < 0) rfl (fun fhc0 => ?_) fun fhc0 => ?_
  · refine sr ?_
    refine fO (OF.assign (VEv.int .i64 (-1))) (nt (rt (tr (vi (n' := (-1)) rfl ?_))))
    exact szR_neg (by have hlt := szR_lt fhc0; simp only [zClue]; omega)
  have hq0 := szR_pos fhc0
  refine sk (tn (sr (mO (tI (szR (zL zStep a.Play) left)) rfl (aO (tI (szR (zL zStep a.Play) left)) rfl (nt (rt (vi (n' := szR (zL zStep a.Play) left) rfl ?_)))))))
  rw [← szR_nn (z := zClue a) (l := left) (by simp only [zClue]; omega)]
  all_goals (simp only [zClue]; omega)
theorem W_laws_szCorrection (n : Nat) (a : D.Correction) (left : Int) (h0 : 0 ≤ left) (h1 : left ≤ (mx : Int)) (hg : GCorrection a) : Pure (acall Try.prog (n + 4)) 30 [(T.agg (eCorrection false a)), (tI left)] (tI (szR (zCorrection a) left)) := by
  refine Pure.intro (rs := [ResultVar.tmp 4]) Try.func30 rfl rfl rfl (E0 := [(0, (T.agg (eCorrection false a))), (1, (tI left))]) rfl ?_
  obtain ⟨hlim, hmx, hmax⟩ := lims
  obtain ⟨hg0, hg1, hg2, hg3⟩ := hg
  refine sr (kO (B.box (ts := (eCorrection false a)) (tv (T.agg (eCorrection false a)) rfl) nofun rfl) (fO (OF.assign (VEv.int .i64 0)) (nt (sr (fO (OF.fieldAddrO (tv (T.op 0 0) rfl) fa55_2) (lO (OL.loadOn (us := (eClue false a.Clue)) (tv (T.op 0 2) rfl) rfl st53 sz53 (lb rfl) rfl) (mO (tI left) rfl (cO (cS (vc (tv (T.agg (eClue false a.Clue)) rfl) (vc (tv (tI left) rfl) vn)) (LendL.cons (lg okeClue) (lp rfl ln)) (W_laws_szClue (n + 0) a.Clue left (by first | assumption | omega) (by first | assumption | omega) (by first | assumption | omega)) rfl rfl) (aO (tI (szR (zClue a.Clue) left)) rfl (nt (sq ?_)))))))))))
  refine sr (mO (tI (szR (zClue a.Clue) left)) rfl (fO (xls (tv (tI (szR (zClue a.Clue) left)) rfl) (VEv.int .i64 0)) (nt ?_)))
  refine cd (szR (zClue a.Clue) left < 0) rfl (fun fhc0 => ?_) fun fhc0 => ?_
  · refine sr ?_
    refine fO (OF.assign (VEv.int .i64 (-1))) (nt (rt (tr (vi (n' := (-1)) rfl ?_))))
    exact szR_neg (by have hlt := szR_lt fhc0; simp only [zCorrection]; omega)
  have hq0 := szR_pos fhc0
  refine sk (tn (sr (mO (tI (szR (zClue a.Clue) left)) rfl (aO (tI (szR (zClue a.Clue) left)) rfl (nt (rt (vi (n' := szR (zClue a.Clue) left) rfl ?_)))))))
  rw [← szR_nn (z := zCorrection a) (l := left) (by simp only [zCorrection]; omega)]
  all_goals first | rfl | (simp only [zCorrection]; done) | (simp only [zCorrection]; omega)
theorem W_laws_szCorrectionS (n : Nat) (a : List D.Correction) (left : Int) (h0 : 0 ≤ left) (h1 : left ≤ (mx : Int)) (hg : a.length ≤ maxLen ∧ ∀ x ∈ a, GCorrection x) : Pure (acall Try.prog (n + 5)) 29 [(rd 5 eCorrection a), (tI left)] (tI (szR (zL zCorrection a) left)) := by
  refine Pure.intro (rs := [ResultVar.tmp 4]) Try.func29 rfl rfl rfl (E0 := [(0, (rd 5 eCorrection a)), (1, (tI left))]) rfl ?_
  obtain ⟨hlim, hmx, hmax⟩ := lims
  obtain ⟨hg1, hg2⟩ := hg
  refine sr (fO (OF.assign (VEv.int .i64 0)) (nt (sr (mO (tI left) rfl (mO (rd 5 eCorrection a) rfl (lO (B.lenR (m := a.length) (tv (rd 5 eCorrection a) rfl) U50 (List.length_map ..)) (fO (B.sub (n := (left - ((a.length : Nat) : Int))) (tv (tI left) rfl) (tv (tN a.length) rfl) (by first | exact hg2 _ (List.mem_of_getElem? hx1) | rfl | (rw [wrap64 (by omega)]; omega) | (rw [wrap64 (by omega)]; done))) (aO (tI (left - ((a.length : Nat) : Int))) rfl (nt (sq (sr ?_)))))))))))
  refine mO (tI (left - ((a.length : Nat) : Int))) rfl (fO (xls (tv (tI (left - ((a.length : Nat) : Int))) rfl) (VEv.int .i64 0)) (nt ?_))
  refine cd ((left - ((a.length : Nat) : Int)) < 0) rfl (fun fhc0 => ?_) fun fhc0 => ?_
  · refine sr ?_
    refine fO (OF.assign (VEv.int .i64 (-1))) (nt (rt (tr (vi (n' := (-1)) rfl ?_))))
    exact SzI.early fhc0
  refine sk (tn (sq (sr (fO (OF.assign (VEv.int .i64 0)) (nt (VRun.block ?_))))))
  refine VRun.loop (A := Nat × Int) (fun s_ => [(0, (rd 5 eCorrection a)), (1, (tI s_.2)), (5, (tN s_.1))]) (fun s_ => mkO []) 0 (fun s_ => SzI zCorrection a left s_.1 s_.2) (fun s_ => a.length - s_.1) ((0, left - (a.length : Int)) : Nat × Int) ?_ (Wk.mk (fun k => k) ?_ ?_ ?_) ?_
  · exact SzI.start h1 fhc0
  · exact (b2 (bc ⟨(congrArg (T.int .i64) (show (left - ((a.length : Nat) : Int)) = (left - (a.length : Int)) from (by first | rfl | omega | (simp; done) | (push_cast; omega)))), rfl⟩ (b2 bn)))
  · exact bn
  · exact nd rfl
  rintro ⟨i, r⟩ (hI' : SzI zCorrection a left i r)
  show VRun _ _ _ [(0, (rd 5 eCorrection a)), (1, (tI r)), (5, (tN i))] (mkO []) 0 _
  have hI2 := hI'.1
  have hI3 := hI'.2.1
  have hI4 := hI'.2.2.1
  refine sq (sr (mO (tN i) rfl (mO (rd 5 eCorrection a) rfl (lO (B.lenR (m := a.length) (tv (rd 5 eCorrection a) rfl) U50 (List.length_map ..)) (fO (xls' (tv (tN i) rfl) (tv (tN a.length) rfl)) (nt ?_))))))
  refine cd (i < a.length) rfl (fun fhc1 => ?_) fun fhc1 => ?_
  · refine sk ?_
    refine tn (sq (VRun.block (sr (mO (rd 5 eCorrection a) rfl (mO (tN i) rfl ?_)))))
    obtain ⟨x1, hx1⟩ : ∃ x, a[i]? = some x := ⟨_, List.getElem?_eq_getElem (by first | exact hg2 _ (List.mem_of_getElem? hx1) | omega)⟩
    refine fO (OF.indexAddrR (row := (eCorrection false x1)) (i := i) (tv (rd 5 eCorrection a) rfl) (tv (tN i) rfl) rfl (map_at _ hx1) U50 sz55 if55) (lO (OL.loadRn (us := (eCorrection false x1)) (tv (T.rp (eCorrection false x1)) rfl) st55 sz55 (lb rfl) rfl) (mO (tI r) rfl (cO (cS (vc (tv (T.agg (eCorrection false x1)) rfl) (vc (tv (tI r) rfl) vn)) (LendL.cons (lg okeCorrection) (lp rfl ln)) (W_laws_szCorrection (n + 0) x1 r (by first | exact hg2 _ (List.mem_of_getElem? hx1) | assumption | omega) (by first | exact hg2 _ (List.mem_of_getElem? hx1) | assumption | omega) (by first | exact hg2 _ (List.mem_of_getElem? hx1) | assumption | omega)) rfl rfl) (aO (tI (szR (zCorrection x1) r)) rfl (nt (sr (mO (tI (szR (zCorrection x1) r)) rfl (fO (xls (tv (tI (szR (zCorrection x1) r)) rfl) (VEv.int .i64 0)) (nt ?_)))))))))
    refine cd (szR (zCorrection x1) r < 0) rfl (fun fhc2 => ?_) fun fhc2 => ?_
    · refine sr ?_
      refine fO (OF.assign (VEv.int .i64 (-1))) (nt (rt (vinB.r (tr (tr (vinB.r (tr (vi (n' := (-1)) rfl ?_))))))))
      exact hI'.bad hx1 fhc2
    refine sk (vinB.n (tn (VRun.region (mO (tN i) rfl (fO (xinc (tv (tN i) rfl) (VEv.int .i64 1) (by first | exact hg2 _ (List.mem_of_getElem? hx1) | omega)) (aO (tN (i + 1)) rfl (VRunO.nil (tn ?_))))))))
    refine ⟨((i + 1, szR (zCorrection x1) r) : Nat × Int), ?_, ?_, Wk.mk (fun k => k) ?_ ?_ ?_⟩
    · exact hI'.next hx1 fhc2
    · first | omega | (simp only []; omega) | (show _ < _; omega) | (simp; omega)
    · exact (b2 (b2 (b2 bn)))
    · exact bn
    · exact nd rfl
  refine VRun.exit (vthn.e (vthn.e (vinB.e (tn (sr (mO (tI r) rfl (aO (tI r) rfl (nt (rt (vi (n' := r) rfl ?_))))))))))
  exact hI'.done fhc1
end Go.Proofs.Ytfpnmphheminbaa.AE
namespace Go.Proofs.Ytfpnmphheminbaa.AE
open Go Go.RowKit
set_option linter.unusedVariables false
set_option linter.unusedSimpArgs false
set_option maxRecDepth 20000
set_option maxHeartbeats 2000000
theorem W_laws_toStep (n : Nat) (a : D.Step)  : Pure (acall Try.prog (n + 1)) 91 [(T.agg (eStep false a))] (T.agg (eStep true a)) := by
  refine Pure.intro (rs := [ResultVar.cell 2 106]) Try.func91 rfl rfl rfl (E0 := [(0, (T.agg (eStep false a)))]) rfl ?_
  obtain ⟨hlim, hmx, hmax⟩ := lims
  refine sr (kO (B.box (ts := (eStep false a)) (tv (T.agg (eStep false a)) rfl) nofun rfl) (kO (B.alloc (t := (T.agg [(tN 0), (tS ByteArray.empty), (tN 0), (tN 0)])) (ts := [(tN 0), (tS ByteArray.empty), (tN 0), (tN 0)]) zo106 zc106 nofun (fun _ => .agg _ _ rfl (RLof (RL.cons (.int _ _) (RL.cons (.str _) (RL.cons (.int _ _) (RL.cons (.int _ _) (RL.nil _))))))) rfl) (nt (sr (kO (B.alloc (t := (T.agg [(tN 0), (tS ByteArray.empty), (tN 0), (tN 0)])) (ts := [(tN 0), (tS ByteArray.empty), (tN 0), (tN 0)]) zo106 zc106 nofun (fun _ => .agg _ _ rfl (RLof (RL.cons (.int _ _) (RL.cons (.str _) (RL.cons (.int _ _) (RL.cons (.int _ _) (RL.nil _))))))) rfl) (nt (sr (lf (tI a.Kind) rfl fa109_0 rfl rfl st3 (fO (OF.fieldAddrO (tv (T.op 2 0) rfl) fa106_0) (cO (B.storeO (us := [(tI a.Kind)]) (ws := [(tI a.Kind), (tS ByteArray.empty), (tN 0), (tN 0)]) (tv (T.op 2 0) rfl) (tv (tI a.Kind) rfl) nofun rfl rfl (lb rfl) if3 sz3 (bc rfl bn) rfl) (nt ?_)))))))))))
  refine sr (lf (tS a.Word) rfl fa109_1 rfl rfl st9 (fO (OF.fieldAddrO (tv (T.op 2 0) rfl) fa106_1) (cO (B.storeO (us := [(tS a.Word)]) (ws := [(tI a.Kind), (tS a.Word), (tN 0), (tN 0)]) (tv (T.op 2 1) rfl) (tv (tS a.Word) rfl) nofun rfl rfl (lb rfl) if9 sz9 (bc rfl bn) rfl) (nt (sr (lf (tI a.A) rfl fa109_2 rfl rfl st3 (fO (OF.fieldAddrO (tv (T.op 2 0) rfl) fa106_2) (cO (B.storeO (us := [(tI a.A)]) (ws := [(tI a.Kind), (tS a.Word), (tI a.A), (tN 0)]) (tv (T.op 2 2) rfl) (tv (tI a.A) rfl) nofun rfl rfl (lb rfl) if3 sz3 (bc rfl bn) rfl) (nt (sr (lf (tI a.B) rfl fa109_3 rfl rfl st3 ?_)))))))))))
  refine fO (OF.fieldAddrO (tv (T.op 2 0) rfl) fa106_3) (cO (B.storeO (us := [(tI a.B)]) (ws := [(tI a.Kind), (tS a.Word), (tI a.A), (tI a.B)]) (tv (T.op 2 3) rfl) (tv (tI a.B) rfl) nofun rfl rfl (lb rfl) if3 sz3 (bc rfl bn) rfl) (nt (sr (lO (OL.loadOn (us := (eStep false a)) (tv (T.op 2 0) rfl) rfl st106 sz106 (lb rfl) rfl) (cO (B.storeO (us := (eStep false a)) (ws := (eStep false a)) (tv (T.op 1 0) rfl) (tv (T.agg (eStep false a)) rfl) nofun rfl rfl (lb rfl) if106 sz106 (bc rfl (bc rfl (bc rfl (bc rfl bn)))) rfl) (nt (rt ?_)))))))
  refine vfin.eq (r' := (T.agg (eStep false a))) ?_ (vfin.r (VRes.celln (ws := (eStep false a)) rfl rfl st106 sz106 (lb rfl) rfl VRes.nil) (Give.agg (GiveL.cons (Give.int _ _) (GiveL.cons (Give.str _) (GiveL.cons (Give.int _ _) (GiveL.cons (Give.int _ _) GiveL.nil (by decide)) (by decide)) (by decide)) (by decide))))
  show (T.agg (eStep false a)) = (T.agg (eStep true a))
  rfl
theorem W_laws_toStepS (n : Nat) (a : List D.Step) (ha : a.length ≤ mx) : Pure (acall Try.prog (n + 2)) 82 [(rd 4 eStep a)] (T.sl true 4 (a.map (eStep true))) := by
  refine Pure.intro (rs := [ResultVar.tmp 2]) Try.func82 rfl rfl rfl (E0 := [(0, (rd 4 eStep a))]) rfl ?_
  obtain ⟨hlim, hmx, hmax⟩ := lims
  refine sr (fO (OF.assign VEv.nils) (nt (sr (mO (rd 4 eStep a) rfl (lO (B.lenR (m := a.length) (tv (rd 4 eStep a) rfl) U51 (List.length_map ..)) (kO (B.makeZ (n := a.length) (m := ((List.replicate a.length (D.Step.mk 0 ByteArray.empty 0 0)).map (eStep true)).length) (rows := ((List.replicate a.length (D.Step.mk 0 ByteArray.empty 0 0)).map (eStep true))) (zr := (eStep true (D.Step.mk 0 ByteArray.empty 0 0))) (tv (tN a.length) rfl) (tv (tN a.length) rfl) rfl U62 zo106 zc106 rfl (by rw [sz106]; decide) (by omega) (of_decide_eq_true (by kernel_rfl)) (Z0.int (Z0.str (Z0.int (Z0.int Z0.nil)))) sz106 (List.map_replicate ..).symm (by rw [List.length_map, List.length_replicate])) (aO (T.os 4 0 0 (((List.replicate a.length (D.Step.mk 0 ByteArray.empty 0 0)).map (eStep true)).length)) rfl (nt (sq (sr (fO (OF.assign (VEv.int .i64 0)) ?_)))))))))))
  refine nt (VRun.block ?_)
  have he1 : (List.replicate a.length (D.Step.mk 0 ByteArray.empty 0 0)) = (a.take 0 ++ List.replicate (a.length - 0) (D.Step.mk 0 ByteArray.empty 0 0)) := by rfl
  refine VRun.loop (A := Nat) (fun s_ => [(0, (rd 4 eStep a)), (2, T.nils), (3, (T.os 4 0 0 (((a.take s_ ++ List.replicate (a.length - s_) (D.Step.mk 0 ByteArray.empty 0 0)).map (eStep true)).length))), (4, (tN s_))]) (fun s_ => mkO [(0, (Obj.rows 4 ((a.take s_ ++ List.replicate (a.length - s_) (D.Step.mk 0 ByteArray.empty 0 0)).map (eStep true))))]) 1 (fun s_ => s_ ≤ a.length) (fun s_ => a.length - s_) (0 : Nat) ?_ (Wk.mk (fun k => k) ?_ ?_ ?_) ?_
  · (simp; done)
  · exact (b2 (b2 (bc ⟨(congrArg (fun l_ => T.os 4 0 0 (List.map (eStep true) l_).length) he1), rfl⟩ (b2 bn))))
  · exact (bc ⟨(congrArg (fun l_ => some (Obj.rows 4 (List.map (eStep true) l_))) he1), (lb rfl), rfl⟩ bn)
  · exact nd rfl
  rintro i (hI' : i ≤ a.length)
  show VRun _ _ _ [(0, (rd 4 eStep a)), (2, T.nils), (3, (T.os 4 0 0 (((a.take i ++ List.replicate (a.length - i) (D.Step.mk 0 ByteArray.empty 0 0)).map (eStep true)).length))), (4, (tN i))] (mkO [(0, (Obj.rows 4 ((a.take i ++ List.replicate (a.length - i) (D.Step.mk 0 ByteArray.empty 0 0)).map (eStep true))))]) 1 _
  have hfl := fill_at (w := (D.Step.mk 0 ByteArray.empty 0 0)) hI'
  refine sq (sr (mO (tN i) rfl (mO (rd 4 eStep a) rfl (lO (B.lenR (m := a.length) (tv (rd 4 eStep a) rfl) U51 (List.length_map ..)) (fO (xls' (tv (tN i) rfl) (tv (tN a.length) rfl)) (nt ?_))))))
  refine cd (i < a.length) rfl (fun fhc0 => ?_) fun fhc0 => ?_
  · refine sk ?_
    refine tn (sq (VRun.block (VRun.region (mO (T.os 4 0 0 (((a.take i ++ List.replicate (a.length - i) (D.Step.mk 0 ByteArray.empty 0 0)).map (eStep true)).length)) rfl (mO (tN i) rfl (mO (rd 4 eStep a) rfl (mO (tN i) rfl ?_)))))))
    obtain ⟨x1, hx1⟩ : ∃ x, a[i]? = some x := ⟨_, List.getElem?_eq_getElem (by omega)⟩
    refine fO (OF.indexAddrR (row := (eStep false x1)) (i := i) (tv (rd 4 eStep a) rfl) (tv (tN i) rfl) rfl (map_at _ hx1) U51 sz109 if109) (lO (OL.loadRn (us := (eStep false x1)) (tv (T.rp (eStep false x1)) rfl) st109 sz109 (lb rfl) rfl) (cO (cS (vc (tv (T.agg (eStep false x1)) rfl) vn) (LendL.cons (lg okeStep) ln) (W_laws_toStep (n + 0) x1 ) rfl rfl) ?_))
    obtain ⟨x2, hx2⟩ : ∃ x, (a.take i ++ List.replicate (a.length - i) (D.Step.mk 0 ByteArray.empty 0 0))[i]? = some x := ⟨_, List.getElem?_eq_getElem (by omega)⟩
    refine fO (B.indexAddrO (i := i) (tv (T.os 4 0 0 (((a.take i ++ List.replicate (a.length - i) (D.Step.mk 0 ByteArray.empty 0 0)).map (eStep true)).length)) rfl) (tv (tN i) rfl) rfl (by (simp only [List.length_map]; omega)) U62 sz106 if106) (cO (B.storeP (us := (eStep true x1)) (rows' := (((a.take i ++ List.replicate (a.length - i) (D.Step.mk 0 ByteArray.empty 0 0)).set i x1).map (eStep true))) (row := (eStep true x2)) (tv (T.orp 4 0 i 0) rfl) (tv (T.agg (eStep true x1)) rfl) nofun rfl (map_at _ hx2) rfl (lb rfl) if106 sz106 (bc rfl (bc rfl (bc rfl (bc rfl bn)))) (by intro r hr t ht; obtain ⟨x, _, rfl⟩ := List.mem_map.1 hr; rw [flStep] at ht; exact isPl_flat (okeStep.pl _ t ht)) (set_mapE rfl)) (VRunO.nil (vinB.n (tn (VRun.region (mO (tN i) rfl (fO (xinc (tv (tN i) rfl) (VEv.int .i64 1) (by omega)) (aO (tN (i + 1)) rfl (VRunO.nil (tn ?_))))))))))
    have he2 : ((a.take i ++ List.replicate (a.length - i) (D.Step.mk 0 ByteArray.empty 0 0)).set i x1) = (a.take (i + 1) ++ List.replicate (a.length - (i + 1)) (D.Step.mk 0 ByteArray.empty 0 0)) := by exact fill_next hx1
    refine ⟨(i + 1 : Nat), ?_, ?_, Wk.mk (fun k => k) ?_ ?_ ?_⟩
    · trivial
    · omega
    · exact (b2 (b2 (bc ⟨(congrArg (fun n_ => T.os 4 0 0 n_) (show ((a.take i ++ List.replicate (a.length - i) (D.Step.mk 0 ByteArray.empty 0 0)).map (eStep true)).length = ((a.take (i + 1) ++ List.replicate (a.length - (i + 1)) (D.Step.mk 0 ByteArray.empty 0 0)).map (eStep true)).length from (by (simp only [List.length_map, List.length_set, List.length_append, List.length_take, List.length_replicate, List.length_cons, List.length_nil]; omega)))), rfl⟩ (b2 bn))))
    · exact (bc ⟨(congrArg (fun l_ => some (Obj.rows 4 (List.map (eStep true) l_))) he2), (lb rfl), rfl⟩ bn)
    · exact nd rfl
  refine VRun.exit (vthn.e (vthn.e (vinB.e (tn (sr (mO (T.os 4 0 0 (((a.take i ++ List.replicate (a.length - i) (D.Step.mk 0 ByteArray.empty 0 0)).map (eStep true)).length)) rfl (aO (T.os 4 0 0 (((a.take i ++ List.replicate (a.length - i) (D.Step.mk 0 ByteArray.empty 0 0)).map (eStep true)).length)) rfl (nt (rt ?_)))))))))
  refine vfin.eq (r' := (T.sl true 4 ((a.take i ++ List.replicate (a.length - i) (D.Step.mk 0 ByteArray.empty 0 0)).map (eStep true)))) ?_ (vfin.r (VRes.tmp (t := (T.os 4 0 0 (((a.take i ++ List.replicate (a.length - i) (D.Step.mk 0 ByteArray.empty 0 0)).map (eStep true)).length))) rfl VRes.nil) (Give.os rfl rfl (okeStep.cleanMap _)))
  show (T.sl true 4 ((a.take i ++ List.replicate (a.length - i) (D.Step.mk 0 ByteArray.empty 0 0)).map (eStep true))) = (T.sl true 4 (a.map (eStep true)))
  refine congrArg (fun l_ => T.sl true 4 (List.map (eStep true) l_)) ?_
  exact fill_done fhc0
theorem W_laws_toClue (n : Nat) (a : D.Clue) (ha : zClue a ≤ mx) : Pure (acall Try.prog (n + 3)) 60 [(T.agg (eClue false a))] (T.agg (eClue true a)) := by
  refine Pure.intro (rs := [ResultVar.cell 2 64]) Try.func60 rfl rfl rfl (E0 := [(0, (T.agg (eClue false a)))]) rfl ?_
  obtain ⟨hlim, hmx, hmax⟩ := lims
  simp only [zClue] at ha
  have hla_Play := zL_len (z := zStep) a.Play
  refine sr (kO (B.box (ts := (eClue false a)) (tv (T.agg (eClue false a)) rfl) nofun rfl) (kO (B.alloc (t := (T.agg [(tN 0), T.nils])) (ts := [(tN 0), T.nils]) zo64 zc64 nofun (fun _ => .agg _ _ rfl (RLof (RL.cons (.int _ _) (RL.cons (.nils) (RL.nil _))))) rfl) (nt (sr (kO (B.alloc (t := (T.agg [(tN 0), T.nils])) (ts := [(tN 0), T.nils]) zo64 zc64 nofun (fun _ => .agg _ _ rfl (RLof (RL.cons (.int _ _) (RL.cons (.nils) (RL.nil _))))) rfl) (nt (sr (lf (tI a.Sense) rfl fa53_0 rfl rfl st3 (fO (OF.fieldAddrO (tv (T.op 2 0) rfl) fa64_0) (cO (B.storeO (us := [(tI a.Sense)]) (ws := [(tI a.Sense), T.nils]) (tv (T.op 2 0) rfl) (tv (tI a.Sense) rfl) nofun rfl rfl (lb rfl) if3 sz3 (bc rfl bn) rfl) (nt ?_)))))))))))
  refine sr (lf (rd 4 eStep a.Play) rfl fa53_1 rfl rfl st51 (cO (OC.callF (us := [(rd 4 eStep a.Play)]) (r := (T.sl true 4 (a.Play.map (eStep true)))) (r' := (T.os 4 3 0 ((a.Play.map (eStep true)).length))) (objs := [(Obj.rows 4 (a.Play.map (eStep true)))]) rfl (vc (tv (rd 4 eStep a.Play) rfl) vn) (lps rfl) (W_laws_toStepS (n + 0) a.Play (by omega)) rfl) (fO (OF.fieldAddrO (tv (T.op 2 0) rfl) fa64_1) (cO (B.storeO (us := [(T.os 4 3 0 ((a.Play.map (eStep true)).length))]) (ws := [(tI a.Sense), (T.os 4 3 0 ((a.Play.map (eStep true)).length))]) (tv (T.op 2 1) rfl) (tv (T.os 4 3 0 ((a.Play.map (eStep true)).length)) rfl) nofun rfl rfl (lb rfl) if62 sz62 (bc rfl bn) rfl) (nt (sr (lO (OL.loadOn (us := [(tI a.Sense), (T.os 4 3 0 ((a.Play.map (eStep true)).length))]) (tv (T.op 2 0) rfl) rfl st64 sz64 (lb rfl) rfl) (cO (B.storeO (us := [(tI a.Sense), (T.os 4 3 0 ((a.Play.map (eStep true)).length))]) (ws := [(tI a.Sense), (T.os 4 3 0 ((a.Play.map (eStep true)).length))]) (tv (T.op 1 0) rfl) (tv (T.agg [(tI a.Sense), (T.os 4 3 0 ((a.Play.map (eStep true)).length))]) rfl) nofun rfl rfl (lb rfl) if64 sz64 (bc rfl (bc rfl bn)) rfl) (nt (rt ?_))))))))))
  refine vfin.eq (r' := (T.agg [(tI a.Sense), (T.sl true 4 (a.Play.map (eStep true)))])) ?_ (vfin.r (VRes.celln (ws := [(tI a.Sense), (T.os 4 3 0 ((a.Play.map (eStep true)).length))]) rfl rfl st64 sz64 (lb rfl) rfl VRes.nil) (Give.agg (GiveL.cons (Give.int _ _) (GiveL.cons (Give.os rfl rfl (okeStep.cleanMap _)) GiveL.nil (by decide)) (by decide))))
  show (T.agg [(tI a.Sense), (T.sl true 4 (a.Play.map (eStep true)))]) = (T.agg (eClue true a))
  rfl
theorem W_laws_toCorrection (n : Nat) (a : D.Correction) (ha : zCorrection a ≤ mx) : Pure (acall Try.prog (n + 4)) 33 [(T.agg (eCorrection false a))] (T.agg (eCorrection true a)) := by
  refine Pure.intro (rs := [ResultVar.cell 2 66]) Try.func33 rfl rfl rfl (E0 := [(0, (T.agg (eCorrection false a)))]) rfl ?_
  obtain ⟨hlim, hmx, hmax⟩ := lims
  simp only [zCorrection] at ha
  refine sr (kO (B.box (ts := (eCorrection false a)) (tv (T.agg (eCorrection false a)) rfl) nofun rfl) (kO (B.alloc (t := (T.agg [(tN 0), (tN 0), (tN 0), T.nils, (tN 0)])) (ts := [(tN 0), (tN 0), (tN 0), T.nils, (tN 0)]) zo66 zc66 nofun (fun _ => .agg _ _ rfl (RLof (RL.cons (.int _ _) (RL.cons (.int _ _) (RL.cons (.int _ _) (RL.cons (.nils) (RL.cons (.int _ _) (RL.nil _)))))))) rfl) (nt (sr (kO (B.alloc (t := (T.agg [(tN 0), (tN 0), (tN 0), T.nils, (tN 0)])) (ts := [(tN 0), (tN 0), (tN 0), T.nils, (tN 0)]) zo66 zc66 nofun (fun _ => .agg _ _ rfl (RLof (RL.cons (.int _ _) (RL.cons (.int _ _) (RL.cons (.int _ _) (RL.cons (.nils) (RL.cons (.int _ _) (RL.nil _)))))))) rfl) (nt (sr (lf (tI a.Issue) rfl fa55_0 rfl rfl st3 (fO (OF.fieldAddrO (tv (T.op 2 0) rfl) fa66_0) (cO (B.storeO (us := [(tI a.Issue)]) (ws := [(tI a.Issue), (tN 0), (tN 0), T.nils, (tN 0)]) (tv (T.op 2 0) rfl) (tv (tI a.Issue) rfl) nofun rfl rfl (lb rfl) if3 sz3 (bc rfl bn) rfl) (nt ?_)))))))))))
  refine sr (lf (tI a.Slot) rfl fa55_1 rfl rfl st3 (fO (OF.fieldAddrO (tv (T.op 2 0) rfl) fa66_1) (cO (B.storeO (us := [(tI a.Slot)]) (ws := [(tI a.Issue), (tI a.Slot), (tN 0), T.nils, (tN 0)]) (tv (T.op 2 1) rfl) (tv (tI a.Slot) rfl) nofun rfl rfl (lb rfl) if3 sz3 (bc rfl bn) rfl) (nt (sr (fO (OF.fieldAddrO (tv (T.op 0 0) rfl) fa55_2) (lO (OL.loadOn (us := (eClue false a.Clue)) (tv (T.op 0 2) rfl) rfl st53 sz53 (lb rfl) rfl) (cO (OC.callF (us := [(T.agg (eClue false a.Clue))]) (r := (T.agg (eClue true a.Clue))) (r' := (T.agg [(tI a.Clue.Sense), (T.os 4 3 0 ((a.Clue.Play.map (eStep true)).length))])) (objs := [(Obj.rows 4 (a.Clue.Play.map (eStep true)))]) rfl (vc (tv (T.agg (eClue false a.Clue)) rfl) vn) (LendL.cons (lg okeClue) ln) (W_laws_toClue (n + 0) a.Clue (by first | assumption | omega)) rfl) (fO (OF.fieldAddrO (tv (T.op 2 0) rfl) fa66_2) (cO (B.storeO (us := [(tI a.Clue.Sense), (T.os 4 3 0 ((a.Clue.Play.map (eStep true)).length))]) (ws := [(tI a.Issue), (tI a.Slot), (tI a.Clue.Sense), (T.os 4 3 0 ((a.Clue.Play.map (eStep true)).length)), (tN 0)]) (tv (T.op 2 2) rfl) (tv (T.agg [(tI a.Clue.Sense), (T.os 4 3 0 ((a.Clue.Play.map (eStep true)).length))]) rfl) nofun rfl rfl (lb rfl) if64 sz64 (bc rfl (bc rfl bn)) rfl) (nt ?_)))))))))))
  refine sr (lf (tI a.Tick) rfl fa55_3 rfl rfl st3 (fO (OF.fieldAddrO (tv (T.op 2 0) rfl) fa66_3) (cO (B.storeO (us := [(tI a.Tick)]) (ws := [(tI a.Issue), (tI a.Slot), (tI a.Clue.Sense), (T.os 4 3 0 ((a.Clue.Play.map (eStep true)).length)), (tI a.Tick)]) (tv (T.op 2 4) rfl) (tv (tI a.Tick) rfl) nofun rfl rfl (lb rfl) if3 sz3 (bc rfl bn) rfl) (nt (sr (lO (OL.loadOn (us := [(tI a.Issue), (tI a.Slot), (tI a.Clue.Sense), (T.os 4 3 0 ((a.Clue.Play.map (eStep true)).length)), (tI a.Tick)]) (tv (T.op 2 0) rfl) rfl st66 sz66 (lb rfl) rfl) (cO (B.storeO (us := [(tI a.Issue), (tI a.Slot), (tI a.Clue.Sense), (T.os 4 3 0 ((a.Clue.Play.map (eStep true)).length)), (tI a.Tick)]) (ws := [(tI a.Issue), (tI a.Slot), (tI a.Clue.Sense), (T.os 4 3 0 ((a.Clue.Play.map (eStep true)).length)), (tI a.Tick)]) (tv (T.op 1 0) rfl) (tv (T.agg [(tI a.Issue), (tI a.Slot), (tI a.Clue.Sense), (T.os 4 3 0 ((a.Clue.Play.map (eStep true)).length)), (tI a.Tick)]) rfl) nofun rfl rfl (lb rfl) if66 sz66 (bc rfl (bc rfl (bc rfl (bc rfl (bc rfl bn))))) rfl) (nt (rt ?_)))))))))
  refine vfin.eq (r' := (T.agg [(tI a.Issue), (tI a.Slot), (tI a.Clue.Sense), (T.sl true 4 (a.Clue.Play.map (eStep true))), (tI a.Tick)])) ?_ (vfin.r (VRes.celln (ws := [(tI a.Issue), (tI a.Slot), (tI a.Clue.Sense), (T.os 4 3 0 ((a.Clue.Play.map (eStep true)).length)), (tI a.Tick)]) rfl rfl st66 sz66 (lb rfl) rfl VRes.nil) (Give.agg (GiveL.cons (Give.int _ _) (GiveL.cons (Give.int _ _) (GiveL.cons (Give.int _ _) (GiveL.cons (Give.os rfl rfl (okeStep.cleanMap _)) (GiveL.cons (Give.int _ _) GiveL.nil (by decide)) (by decide)) (by decide)) (by decide)) (by decide))))
  show (T.agg [(tI a.Issue), (tI a.Slot), (tI a.Clue.Sense), (T.sl true 4 (a.Clue.Play.map (eStep true))), (tI a.Tick)]) = (T.agg (eCorrection true a))
  first | rfl | (exact decN (by omega)) | (symm; rw [decide_eq_false_iff_not]; omega) | (symm; rw [decide_eq_true_eq]; omega) | (simp_all; done)
theorem W_laws_toCorrectionS (n : Nat) (a : List D.Correction) (ha : zL zCorrection a ≤ mx) : Pure (acall Try.prog (n + 5)) 32 [(rd 5 eCorrection a)] (T.sl true 5 (a.map (eCorrection true))) := by
  refine Pure.intro (rs := [ResultVar.tmp 2]) Try.func32 rfl rfl rfl (E0 := [(0, (rd 5 eCorrection a))]) rfl ?_
  obtain ⟨hlim, hmx, hmax⟩ := lims
  have hla := zL_len (z := zCorrection) a
  refine sr (fO (OF.assign VEv.nils) (nt (sr (mO (rd 5 eCorrection a) rfl (lO (B.lenR (m := a.length) (tv (rd 5 eCorrection a) rfl) U50 (List.length_map ..)) (kO (B.makeZ (n := a.length) (m := ((List.replicate a.length (D.Correction.mk 0 0 (D.Clue.mk 0 []) 0)).map (eCorrection true)).length) (rows := ((List.replicate a.length (D.Correction.mk 0 0 (D.Clue.mk 0 []) 0)).map (eCorrection true))) (zr := (eCorrection true (D.Correction.mk 0 0 (D.Clue.mk 0 []) 0))) (tv (tN a.length) rfl) (tv (tN a.length) rfl) rfl U58 zo66 zc66 rfl (by rw [sz66]; decide) (by first | exact Nat.le_trans (zL_at hx1) ha | omega | (simp only [List.length_map]; omega) | (simp only [List.length_map, List.length_append, List.length_cons, List.length_nil, List.length_replicate, List.length_set, List.length_drop, List.length_take, lim] at *; omega)) (of_decide_eq_true (by kernel_rfl)) (Z0.int (Z0.int (Z0.int (Z0.sl (Z0.int Z0.nil))))) sz66 (List.map_replicate ..).symm (by rw [List.length_map, List.length_replicate])) (aO (T.os 5 0 0 (((List.replicate a.length (D.Correction.mk 0 0 (D.Clue.mk 0 []) 0)).map (eCorrection true)).length)) rfl (nt (sq (sr (fO (OF.assign (VEv.int .i64 0)) ?_)))))))))))
  refine nt (VRun.block ?_)
  have he1 : (List.replicate a.length (D.Correction.mk 0 0 (D.Clue.mk 0 []) 0)) = (a.take 0 ++ List.replicate (a.length - 0) (D.Correction.mk 0 0 (D.Clue.mk 0 []) 0)) := by first | rfl | (exact fill_next hx1) | (simp; done) | omega
  refine VRun.loop (A := Nat) (fun s_ => [(0, (rd 5 eCorrection a)), (2, T.nils), (3, (T.os 5 0 0 (((a.take s_ ++ List.replicate (a.length - s_) (D.Correction.mk 0 0 (D.Clue.mk 0 []) 0)).map (eCorrection true)).length))), (4, (tN s_))]) (fun s_ => mkO [(0, (Obj.rows 5 ((a.take s_ ++ List.replicate (a.length - s_) (D.Correction.mk 0 0 (D.Clue.mk 0 []) 0)).map (eCorrection true))))]) 1 (fun s_ => s_ ≤ a.length) (fun s_ => a.length - s_) (0 : Nat) ?_ (Wk.mk (fun k => k) ?_ ?_ ?_) ?_
  · first | trivial | (simp; done) | omega | (constructor <;> simp)
  · exact (b2 (b2 (bc ⟨(congrArg (fun l_ => T.os 5 0 0 (List.map (eCorrection true) l_).length) he1), rfl⟩ (b2 bn))))
  · exact (bc ⟨(congrArg (fun l_ => some (Obj.rows 5 (List.map (eCorrection true) l_))) he1), (lb rfl), rfl⟩ bn)
  · exact nd rfl
  rintro i (hI' : i ≤ a.length)
  show VRun _ _ _ [(0, (rd 5 eCorrection a)), (2, T.nils), (3, (T.os 5 0 0 (((a.take i ++ List.replicate (a.length - i) (D.Correction.mk 0 0 (D.Clue.mk 0 []) 0)).map (eCorrection true)).length))), (4, (tN i))] (mkO [(0, (Obj.rows 5 ((a.take i ++ List.replicate (a.length - i) (D.Correction.mk 0 0 (D.Clue.mk 0 []) 0)).map (eCorrection true))))]) 1 _
  have hfl := fill_at (w := (D.Correction.mk 0 0 (D.Clue.mk 0 []) 0)) hI'
  refine sq (sr (mO (tN i) rfl (mO (rd 5 eCorrection a) rfl (lO (B.lenR (m := a.length) (tv (rd 5 eCorrection a) rfl) U50 (List.length_map ..)) (fO (xls' (tv (tN i) rfl) (tv (tN a.length) rfl)) (nt ?_))))))
  refine cd (i < a.length) rfl (fun fhc0 => ?_) fun fhc0 => ?_
  · refine sk ?_
    refine tn (sq (VRun.block (VRun.region (mO (T.os 5 0 0 (((a.take i ++ List.replicate (a.length - i) (D.Correction.mk 0 0 (D.Clue.mk 0 []) 0)).map (eCorrection true)).length)) rfl (mO (tN i) rfl (mO (rd 5 eCorrection a) rfl (mO (tN i) rfl ?_)))))))
    obtain ⟨x1, hx1⟩ : ∃ x, a[i]? = some x := ⟨_, List.getElem?_eq_getElem (by first | exact Nat.le_trans (zL_at hx1) ha | omega)⟩
    refine fO (OF.indexAddrR (row := (eCorrection false x1)) (i := i) (tv (rd 5 eCorrection a) rfl) (tv (tN i) rfl) rfl (map_at _ hx1) U50 sz55 if55) (lO (OL.loadRn (us := (eCorrection false x1)) (tv (T.rp (eCorrection false x1)) rfl) st55 sz55 (lb rfl) rfl) (cO (OC.callF (us := [(T.agg (eCorrection false x1))]) (r := (T.agg (eCorrection true x1))) (r' := (T.agg [(tI x1.Issue), (tI x1.Slot), (tI x1.Clue.Sense), (T.os 4 1 0 ((x1.Clue.Play.map (eStep true)).length)), (tI x1.Tick)])) (objs := [(Obj.rows 4 (x1.Clue.Play.map (eStep true)))]) rfl (vc (tv (T.agg (eCorrection false x1)) rfl) vn) (LendL.cons (lg okeCorrection) ln) (W_laws_toCorrection (n + 0) x1 (by first | exact Nat.le_trans (zL_at hx1) ha | assumption | omega)) rfl) ?_))
    obtain ⟨x2, hx2⟩ : ∃ x, (a.take i ++ List.replicate (a.length - i) (D.Correction.mk 0 0 (D.Clue.mk 0 []) 0))[i]? = some x := ⟨_, List.getElem?_eq_getElem (by first | exact Nat.le_trans (zL_at hx1) ha | omega | (simp only [List.length_map]; omega) | (simp only [List.length_map, List.length_append, List.length_cons, List.length_nil, List.length_replicate, List.length_set, List.length_drop, List.length_take, lim] at *; omega))⟩
    refine fO (B.indexAddrO (i := i) (tv (T.os 5 0 0 (((a.take i ++ List.replicate (a.length - i) (D.Correction.mk 0 0 (D.Clue.mk 0 []) 0)).map (eCorrection true)).length)) rfl) (tv (tN i) rfl) rfl (by first | exact Nat.le_trans (zL_at hx1) ha | omega | (simp only [List.length_map]; omega) | (simp only [List.length_map, List.length_append, List.length_cons, List.length_nil, List.length_replicate, List.length_set, List.length_drop, List.length_take, lim] at *; omega)) U58 sz66 if66) (cO (B.storeB (us := [(tI x1.Issue), (tI x1.Slot), (tI x1.Clue.Sense), (T.os 4 1 0 ((x1.Clue.Play.map (eStep true)).length)), (tI x1.Tick)]) (ws := [(tI x1.Issue), (tI x1.Slot), (tI x1.Clue.Sense), (T.sl true 4 (x1.Clue.Play.map (eStep true))), (tI x1.Tick)]) (rows' := (((a.take i ++ List.replicate (a.length - i) (D.Correction.mk 0 0 (D.Clue.mk 0 []) 0)).set i x1).map (eCorrection true))) (row := (eCorrection true x2)) (tv (T.orp 5 0 i 0) rfl) (tv (T.agg [(tI x1.Issue), (tI x1.Slot), (tI x1.Clue.Sense), (T.os 4 1 0 ((x1.Clue.Play.map (eStep true)).length)), (tI x1.Tick)]) rfl) nofun rfl (map_at _ hx2) rfl (lb rfl) if66 sz66 (bc rfl (bc rfl (bc rfl (bc rfl (bc rfl bn))))) (Bury.pl rfl (Bury.pl rfl (Bury.pl rfl (Bury.os rfl rfl (Bury.pl rfl Bury.nil) (by decide))))) rfl (by decide) (set_mapE rfl)) (VRunO.nil (vinB.n (tn (VRun.region (mO (tN i) rfl (fO (xinc (tv (tN i) rfl) (VEv.int .i64 1) (by first | exact Nat.le_trans (zL_at hx1) ha | omega)) (aO (tN (i + 1)) rfl (VRunO.nil (tn ?_))))))))))
    have he2 : ((a.take i ++ List.replicate (a.length - i) (D.Correction.mk 0 0 (D.Clue.mk 0 []) 0)).set i x1) = (a.take (i + 1) ++ List.replicate (a.length - (i + 1)) (D.Correction.mk 0 0 (D.Clue.mk 0 []) 0)) := by first | rfl | (exact fill_next hx1) | (simp; done) | omega
    refine ⟨(i + 1 : Nat), ?_, ?_, Wk.mk (fun k => k) ?_ ?_ ?_⟩
    · first | trivial | omega | (simp; done) | exact ⟨by omega, hI'.2⟩
    · first | omega | (simp only []; omega) | (show _ < _; omega) | (simp; omega)
    · exact (b2 (b2 (bc ⟨(congrArg (fun n_ => T.os 5 0 0 n_) (show ((a.take i ++ List.replicate (a.length - i) (D.Correction.mk 0 0 (D.Clue.mk 0 []) 0)).map (eCorrection true)).length = ((a.take (i + 1) ++ List.replicate (a.length - (i + 1)) (D.Correction.mk 0 0 (D.Clue.mk 0 []) 0)).map (eCorrection true)).length from (by first | rfl | (simp only [List.length_map]; omega) | (simp only [List.length_map, List.length_set, List.length_append, List.length_take, List.length_replicate, List.length_cons, List.length_nil]; omega)))), rfl⟩ (b2 bn))))
    · exact (bc ⟨(congrArg (fun l_ => some (Obj.rows 5 (List.map (eCorrection true) l_))) he2), (lb rfl), rfl⟩ bn)
    · exact nd rfl
  refine VRun.exit (vthn.e (vthn.e (vinB.e (tn (sr (mO (T.os 5 0 0 (((a.take i ++ List.replicate (a.length - i) (D.Correction.mk 0 0 (D.Clue.mk 0 []) 0)).map (eCorrection true)).length)) rfl (aO (T.os 5 0 0 (((a.take i ++ List.replicate (a.length - i) (D.Correction.mk 0 0 (D.Clue.mk 0 []) 0)).map (eCorrection true)).length)) rfl (nt (rt ?_)))))))))
  refine vfin.eq (r' := (T.sl true 5 ((a.take i ++ List.replicate (a.length - i) (D.Correction.mk 0 0 (D.Clue.mk 0 []) 0)).map (eCorrection true)))) ?_ (vfin.r (VRes.tmp (t := (T.os 5 0 0 (((a.take i ++ List.replicate (a.length - i) (D.Correction.mk 0 0 (D.Clue.mk 0 []) 0)).map (eCorrection true)).length))) rfl VRes.nil) (Give.os rfl rfl (okeCorrection.cleanMap _)))
  show (T.sl true 5 ((a.take i ++ List.replicate (a.length - i) (D.Correction.mk 0 0 (D.Clue.mk 0 []) 0)).map (eCorrection true))) = (T.sl true 5 (a.map (eCorrection true)))
  refine congrArg (fun l_ => T.sl true 5 (List.map (eCorrection true) l_)) ?_
  exact fill_done fhc0
end Go.Proofs.Ytfpnmphheminbaa.AE
namespace Go.Proofs.Ytfpnmphheminbaa.AE
open Go Go.RowKit
set_option linter.unusedVariables false
set_option linter.unusedSimpArgs false
set_option maxRecDepth 20000
set_option maxHeartbeats 2000000
theorem W_laws_eqStep (n : Nat) (a : D.Step) (b : D.Step)  : Pure (acall Try.prog (n + 1)) 94 [(T.agg (eStep false a)), (T.agg (eStep false b))] (tB (decide (a = b))) := by
  refine Pure.intro (rs := [ResultVar.tmp 4]) Try.func94 rfl rfl rfl (E0 := [(0, (T.agg (eStep false a))), (1, (T.agg (eStep false b)))]) rfl ?_
  obtain ⟨hlim, hmx, hmax⟩ := lims
  refine sr (kO (B.box (ts := (eStep false a)) (tv (T.agg (eStep false a)) rfl) nofun rfl) (kO (B.box (ts := (eStep false b)) (tv (T.agg (eStep false b)) rfl) nofun rfl) (fO (OF.assign (VEv.bool false)) (nt (sq (sr (lf (tI a.Kind) rfl fa106_0 rfl rfl st3 (lf (tI b.Kind) rfl fa106_0 rfl rfl st3 (fO (xne (tv (tI a.Kind) rfl) (tv (tI b.Kind) rfl)) (nt ?_))))))))))
  refine cn (a.Kind = b.Kind) rfl (fun fhc0 => ?_) fun fhc0 => ?_
  · refine sr ?_
    refine fO (OF.assign (VEv.bool false)) (nt (rt (tr (vb (b' := false) rfl ?_))))
    obtain ⟨a0, a1, a2, a3⟩ := a
    obtain ⟨b0, b1, b2, b3⟩ := b
    simp_all
  refine sk (tn (sq (sr (lf (tS a.Word) rfl fa106_1 rfl rfl st9 (lf (tS b.Word) rfl fa106_1 rfl rfl st9 (fO (B.sneq (c := (!(decide (a.Word = b.Word)))) (tv (tS a.Word) rfl) (tv (tS b.Word) rfl) rfl) (nt ?_)))))))
  refine cn (a.Word = b.Word) rfl (fun fhc1 => ?_) fun fhc1 => ?_
  · refine sr ?_
    refine fO (OF.assign (VEv.bool false)) (nt (rt (tr (vb (b' := false) rfl ?_))))
    obtain ⟨a0, a1, a2, a3⟩ := a
    obtain ⟨b0, b1, b2, b3⟩ := b
    simp_all
  refine sk (tn (sq (sr (lf (tI a.A) rfl fa106_2 rfl rfl st3 (lf (tI b.A) rfl fa106_2 rfl rfl st3 (fO (xne (tv (tI a.A) rfl) (tv (tI b.A) rfl)) (nt ?_)))))))
  refine cn (a.A = b.A) rfl (fun fhc2 => ?_) fun fhc2 => ?_
  · refine sr ?_
    refine fO (OF.assign (VEv.bool false)) (nt (rt (tr (vb (b' := false) rfl ?_))))
    obtain ⟨a0, a1, a2, a3⟩ := a
    obtain ⟨b0, b1, b2, b3⟩ := b
    simp_all
  refine sk (tn (sq (sr (lf (tI a.B) rfl fa106_3 rfl rfl st3 (lf (tI b.B) rfl fa106_3 rfl rfl st3 (fO (xne (tv (tI a.B) rfl) (tv (tI b.B) rfl)) (nt ?_)))))))
  refine cn (a.B = b.B) rfl (fun fhc3 => ?_) fun fhc3 => ?_
  · refine sr ?_
    refine fO (OF.assign (VEv.bool false)) (nt (rt (tr (vb (b' := false) rfl ?_))))
    obtain ⟨a0, a1, a2, a3⟩ := a
    obtain ⟨b0, b1, b2, b3⟩ := b
    simp_all
  refine sk (tn (sr (fO (OF.assign (VEv.bool true)) (nt (rt (vb (b' := true) rfl ?_))))))
  obtain ⟨a0, a1, a2, a3⟩ := a
  obtain ⟨b0, b1, b2, b3⟩ := b
  simp_all
theorem W_laws_eqStepS (n : Nat) (a : List D.Step) (b : List D.Step) (hla : a.length ≤ mx) (hlb : b.length ≤ mx) : Pure (acall Try.prog (n + 2)) 85 [(rd 4 eStep a), (rd 4 eStep b)] (tB (decide (a = b))) := by
  refine Pure.intro (rs := [ResultVar.tmp 4]) Try.func85 rfl rfl rfl (E0 := [(0, (rd 4 eStep a)), (1, (rd 4 eStep b))]) rfl ?_
  obtain ⟨hlim, hmx, hmax⟩ := lims
  refine sr (fO (OF.assign (VEv.bool false)) (nt (sq (sr (mO (rd 4 eStep a) rfl (lO (B.lenR (m := a.length) (tv (rd 4 eStep a) rfl) U62 (List.length_map ..)) (mO (rd 4 eStep b) rfl (lO (B.lenR (m := b.length) (tv (rd 4 eStep b) rfl) U62 (List.length_map ..)) (fO (xne' (tv (tN a.length) rfl) (tv (tN b.length) rfl)) (nt ?_))))))))))
  refine cn (a.length = b.length) rfl (fun fhc0 => ?_) fun fhc0 => ?_
  · refine sr ?_
    refine fO (OF.assign (VEv.bool false)) (nt (rt (tr (vb (b' := false) rfl ?_))))
    symm; rw [decide_eq_false_iff_not]; rintro rfl; exact fhc0 rfl
  refine sk (tn (sq (sr (fO (OF.assign (VEv.int .i64 0)) (nt (VRun.block ?_))))))
  refine VRun.loop (A := Nat) (fun s_ => [(0, (rd 4 eStep a)), (1, (rd 4 eStep b)), (5, (tN s_))]) (fun s_ => mkO []) 0 (fun s_ => s_ ≤ a.length ∧ ∀ j, j < s_ → a[j]? = b[j]?) (fun s_ => a.length - s_) (0 : Nat) ?_ (Wk.mk (fun k => k) ?_ ?_ ?_) ?_
  · (simp; done)
  · exact (b2 (b2 (b2 bn)))
  · exact bn
  · exact nd rfl
  rintro i (hI' : i ≤ a.length ∧ ∀ j, j < i → a[j]? = b[j]?)
  show VRun _ _ _ [(0, (rd 4 eStep a)), (1, (rd 4 eStep b)), (5, (tN i))] (mkO []) 0 _
  refine sq (sr (mO (tN i) rfl (mO (rd 4 eStep a) rfl (lO (B.lenR (m := a.length) (tv (rd 4 eStep a) rfl) U62 (List.length_map ..)) (fO (xls' (tv (tN i) rfl) (tv (tN a.length) rfl)) (nt ?_))))))
  refine cd (i < a.length) rfl (fun fhc1 => ?_) fun fhc1 => ?_
  · refine sk ?_
    refine tn (sq (VRun.block (sq (VRun.draw (B := [[], [], [1, 0], [0, 1, 2], [], [], [5, 4], [4, 5, 6], [6, 5, 4, 7, 2, 1, 0, 3], [3, 0, 1, 2, 7, 4, 5, 6, 8]]) (by kernel_rfl) (by kernel_rfl) (mD (rd 4 eStep a) rfl rfl (mD (tN i) rfl rfl ?_))))))
    obtain ⟨x1, hx1⟩ : ∃ x, a[i]? = some x := ⟨_, List.getElem?_eq_getElem (by omega)⟩
    refine fD (OF.indexAddrR (row := (eStep false x1)) (i := i) (tv (rd 4 eStep a) rfl) (tv (tN i) rfl) rfl (map_at _ hx1) U62 sz106 if106) rfl rfl (lD (OL.loadRn (us := (eStep false x1)) (tv (T.rp (eStep false x1)) rfl) st106 sz106 (lb rfl) rfl) rfl rfl (mD (rd 4 eStep b) rfl rfl (mD (tN i) rfl rfl ?_)))
    obtain ⟨x2, hx2⟩ : ∃ x, b[i]? = some x := ⟨_, List.getElem?_eq_getElem (by omega)⟩
    refine fD (OF.indexAddrR (row := (eStep false x2)) (i := i) (tv (rd 4 eStep b) rfl) (tv (tN i) rfl) rfl (map_at _ hx2) U62 sz106 if106) rfl rfl (lD (OL.loadRn (us := (eStep false x2)) (tv (T.rp (eStep false x2)) rfl) st106 sz106 (lb rfl) rfl) rfl rfl (VRunD.quiet (bi := [6, 5, 4, 7, 2, 1, 0, 3]) rfl VWant.always rfl rfl rfl bn (cS (vc (tv (T.agg (eStep false x1)) rfl) (vc (tv (T.agg (eStep false x2)) rfl) vn)) (LendL.cons (lg okeStep) (LendL.cons (lg okeStep) ln)) (W_laws_eqStep (n + 0) x1 x2 ) rfl rfl) (fD (xnot (tv (tB (decide (x1 = x2))) rfl)) rfl rfl (VRunD.nil (tn ?_)))))
    refine cn (x1 = x2) rfl (fun fhc2 => ?_) fun fhc2 => ?_
    · refine sr ?_
      refine fO (OF.assign (VEv.bool false)) (nt (rt (vinB.r (tr (tr (vinB.r (tr (vb (b' := false) rfl ?_))))))))
      symm; rw [decide_eq_false_iff_not]; exact agree_not hx1 hx2 fhc2
    refine sk (vinB.n (tn (VRun.region (mO (tN i) rfl (fO (xinc (tv (tN i) rfl) (VEv.int .i64 1) (by omega)) (aO (tN (i + 1)) rfl (VRunO.nil (tn ?_))))))))
    refine ⟨(i + 1 : Nat), ?_, ?_, Wk.mk (fun k => k) ?_ ?_ ?_⟩
    · exact agree_next hI' hx1 hx2 fhc2
    · omega
    · exact (b2 (b2 (b2 bn)))
    · exact bn
    · exact nd rfl
  refine VRun.exit (vthn.e (vthn.e (vinB.e (tn (sr (fO (OF.assign (VEv.bool true)) (nt (rt (vb (b' := true) rfl ?_)))))))))
  symm; rw [decide_eq_true_eq]; exact agree_all hI' fhc0 fhc1
theorem W_laws_eqClue (n : Nat) (a : D.Clue) (b : D.Clue) (ha : zClue a ≤ mx) (hb : zClue b ≤ mx) : Pure (acall Try.prog (n + 3)) 63 [(T.agg (eClue false a)), (T.agg (eClue false b))] (tB (decide (a = b))) := by
  refine Pure.intro (rs := [ResultVar.tmp 4]) Try.func63 rfl rfl rfl (E0 := [(0, (T.agg (eClue false a))), (1, (T.agg (eClue false b)))]) rfl ?_
  obtain ⟨hlim, hmx, hmax⟩ := lims
  simp only [zClue] at ha hb
  have hla_Play := zL_len (z := zStep) a.Play
  have hlb_Play := zL_len (z := zStep) b.Play
  refine sr (kO (B.box (ts := (eClue false a)) (tv (T.agg (eClue false a)) rfl) nofun rfl) (kO (B.box (ts := (eClue false b)) (tv (T.agg (eClue false b)) rfl) nofun rfl) (fO (OF.assign (VEv.bool false)) (nt (sq (sr (lf (tI a.Sense) rfl fa64_0 rfl rfl st3 (lf (tI b.Sense) rfl fa64_0 rfl rfl st3 (fO (xne (tv (tI a.Sense) rfl) (tv (tI b.Sense) rfl)) (nt ?_))))))))))
  refine cn (a.Sense = b.Sense) rfl (fun fhc0 => ?_) fun fhc0 => ?_
  · refine sr ?_
    refine fO (OF.assign (VEv.bool false)) (nt (rt (tr (vb (b' := false) rfl ?_))))
    obtain ⟨a0, a1⟩ := a
    obtain ⟨b0, b1⟩ := b
    simp_all
  refine sk (tn (sq (sr (lf (rd 4 eStep a.Play) rfl fa64_1 rfl rfl st62 (lf (rd 4 eStep b.Play) rfl fa64_1 rfl rfl st62 (cO (cS (vc (tv (rd 4 eStep a.Play) rfl) (vc (tv (rd 4 eStep b.Play) rfl) vn)) (lps rfl) (W_laws_eqStepS (n + 0) a.Play b.Play (by omega) (by omega)) rfl rfl) (fO (xnot (tv (tB (decide (a.Play = b.Play))) rfl)) (nt ?_))))))))
  refine cn (a.Play = b.Play) rfl (fun fhc1 => ?_) fun fhc1 => ?_
  · refine sr ?_
    refine fO (OF.assign (VEv.bool false)) (nt (rt (tr (vb (b' := false) rfl ?_))))
    obtain ⟨a0, a1⟩ := a
    obtain ⟨b0, b1⟩ := b
    simp_all
  refine sk (tn (sr (fO (OF.assign (VEv.bool true)) (nt (rt (vb (b' := true) rfl ?_))))))
  obtain ⟨a0, a1⟩ := a
  obtain ⟨b0, b1⟩ := b
  simp_all
theorem W_laws_eqCorrection (n : Nat) (a : D.Correction) (b : D.Correction) (ha : zCorrection a ≤ mx) (hb : zCorrection b ≤ mx) : Pure (acall Try.prog (n + 4)) 36 [(T.agg (eCorrection false a)), (T.agg (eCorrection false b))] (tB (decide (a = b))) := by
  refine Pure.intro (rs := [ResultVar.tmp 4]) Try.func36 rfl rfl rfl (E0 := [(0, (T.agg (eCorrection false a))), (1, (T.agg (eCorrection false b)))]) rfl ?_
  obtain ⟨hlim, hmx, hmax⟩ := lims
  simp only [zCorrection] at ha hb
  refine sr (kO (B.box (ts := (eCorrection false a)) (tv (T.agg (eCorrection false a)) rfl) nofun rfl) (kO (B.box (ts := (eCorrection false b)) (tv (T.agg (eCorrection false b)) rfl) nofun rfl) (fO (OF.assign (VEv.bool false)) (nt (sq (sr (lf (tI a.Issue) rfl fa66_0 rfl rfl st3 (lf (tI b.Issue) rfl fa66_0 rfl rfl st3 (fO (xne (tv (tI a.Issue) rfl) (tv (tI b.Issue) rfl)) (nt ?_))))))))))
  refine cn (a.Issue = b.Issue) rfl (fun fhc0 => ?_) fun fhc0 => ?_
  · refine sr ?_
    refine fO (OF.assign (VEv.bool false)) (nt (rt (tr (vb (b' := false) rfl ?_))))
    obtain ⟨a0, a1, a2, a3⟩ := a
    obtain ⟨b0, b1, b2, b3⟩ := b
    simp_all
  refine sk (tn (sq (sr (lf (tI a.Slot) rfl fa66_1 rfl rfl st3 (lf (tI b.Slot) rfl fa66_1 rfl rfl st3 (fO (xne (tv (tI a.Slot) rfl) (tv (tI b.Slot) rfl)) (nt ?_)))))))
  refine cn (a.Slot = b.Slot) rfl (fun fhc1 => ?_) fun fhc1 => ?_
  · refine sr ?_
    refine fO (OF.assign (VEv.bool false)) (nt (rt (tr (vb (b' := false) rfl ?_))))
    obtain ⟨a0, a1, a2, a3⟩ := a
    obtain ⟨b0, b1, b2, b3⟩ := b
    simp_all
  refine sk (tn (sq (sr (fO (OF.fieldAddrO (tv (T.op 0 0) rfl) fa66_2) (lO (OL.loadOn (us := (eClue false a.Clue)) (tv (T.op 0 2) rfl) rfl st64 sz64 (lb rfl) rfl) (fO (OF.fieldAddrO (tv (T.op 1 0) rfl) fa66_2) (lO (OL.loadOn (us := (eClue false b.Clue)) (tv (T.op 1 2) rfl) rfl st64 sz64 (lb rfl) rfl) (cO (cS (vc (tv (T.agg (eClue false a.Clue)) rfl) (vc (tv (T.agg (eClue false b.Clue)) rfl) vn)) (LendL.cons (lg okeClue) (LendL.cons (lg okeClue) ln)) (W_laws_eqClue (n + 0) a.Clue b.Clue (by first | assumption | omega) (by first | assumption | omega)) rfl rfl) (fO (xnot (tv (tB (decide (a.Clue = b.Clue))) rfl)) (nt ?_))))))))))
  refine cn (a.Clue = b.Clue) rfl (fun fhc2 => ?_) fun fhc2 => ?_
  · refine sr ?_
    refine fO (OF.assign (VEv.bool false)) (nt (rt (tr (vb (b' := false) rfl ?_))))
    obtain ⟨a0, a1, a2, a3⟩ := a
    obtain ⟨b0, b1, b2, b3⟩ := b
    simp_all
  refine sk (tn (sq (sr (lf (tI a.Tick) rfl fa66_3 rfl rfl st3 (lf (tI b.Tick) rfl fa66_3 rfl rfl st3 (fO (xne (tv (tI a.Tick) rfl) (tv (tI b.Tick) rfl)) (nt ?_)))))))
  refine cn (a.Tick = b.Tick) rfl (fun fhc3 => ?_) fun fhc3 => ?_
  · refine sr ?_
    refine fO (OF.assign (VEv.bool false)) (nt (rt (tr (vb (b' := false) rfl ?_))))
    obtain ⟨a0, a1, a2, a3⟩ := a
    obtain ⟨b0, b1, b2, b3⟩ := b
    simp_all
  refine sk (tn (sr (fO (OF.assign (VEv.bool true)) (nt (rt (vb (b' := true) rfl ?_))))))
  obtain ⟨a0, a1, a2, a3⟩ := a
  obtain ⟨b0, b1, b2, b3⟩ := b
  simp_all
theorem W_laws_eqCorrectionS (n : Nat) (a : List D.Correction) (b : List D.Correction) (ha : zL zCorrection a ≤ mx + 1) (hb : zL zCorrection b ≤ mx + 1) : Pure (acall Try.prog (n + 5)) 35 [(rd 5 eCorrection a), (rd 5 eCorrection b)] (tB (decide (a = b))) := by
  refine Pure.intro (rs := [ResultVar.tmp 4]) Try.func35 rfl rfl rfl (E0 := [(0, (rd 5 eCorrection a)), (1, (rd 5 eCorrection b))]) rfl ?_
  obtain ⟨hlim, hmx, hmax⟩ := lims
  have hla := zL_len (z := zCorrection) a
  have hlb := zL_len (z := zCorrection) b
  refine sr (fO (OF.assign (VEv.bool false)) (nt (sq (sr (mO (rd 5 eCorrection a) rfl (lO (B.lenR (m := a.length) (tv (rd 5 eCorrection a) rfl) U58 (List.length_map ..)) (mO (rd 5 eCorrection b) rfl (lO (B.lenR (m := b.length) (tv (rd 5 eCorrection b) rfl) U58 (List.length_map ..)) (fO (xne' (tv (tN a.length) rfl) (tv (tN b.length) rfl)) (nt ?_))))))))))
  refine cn (a.length = b.length) rfl (fun fhc0 => ?_) fun fhc0 => ?_
  · refine sr ?_
    refine fO (OF.assign (VEv.bool false)) (nt (rt (tr (vb (b' := false) rfl ?_))))
    symm; rw [decide_eq_false_iff_not]; rintro rfl; exact fhc0 rfl
  refine sk (tn (sq (sr (fO (OF.assign (VEv.int .i64 0)) (nt (VRun.block ?_))))))
  refine VRun.loop (A := Nat) (fun s_ => [(0, (rd 5 eCorrection a)), (1, (rd 5 eCorrection b)), (5, (tN s_))]) (fun s_ => mkO []) 0 (fun s_ => s_ ≤ a.length ∧ ∀ j, j < s_ → a[j]? = b[j]?) (fun s_ => a.length - s_) (0 : Nat) ?_ (Wk.mk (fun k => k) ?_ ?_ ?_) ?_
  · first | trivial | (simp; done) | omega | (constructor <;> simp)
  · exact (b2 (b2 (b2 bn)))
  · exact bn
  · exact nd rfl
  rintro i (hI' : i ≤ a.length ∧ ∀ j, j < i → a[j]? = b[j]?)
  show VRun _ _ _ [(0, (rd 5 eCorrection a)), (1, (rd 5 eCorrection b)), (5, (tN i))] (mkO []) 0 _
  refine sq (sr (mO (tN i) rfl (mO (rd 5 eCorrection a) rfl (lO (B.lenR (m := a.length) (tv (rd 5 eCorrection a) rfl) U58 (List.length_map ..)) (fO (xls' (tv (tN i) rfl) (tv (tN a.length) rfl)) (nt ?_))))))
  refine cd (i < a.length) rfl (fun fhc1 => ?_) fun fhc1 => ?_
  · refine sk ?_
    refine tn (sq (VRun.block (sq (VRun.draw (B := [[], [], [1, 0], [0, 1, 2], [], [], [5, 4], [4, 5, 6], [6, 5, 4, 7, 2, 1, 0, 3], [3, 0, 1, 2, 7, 4, 5, 6, 8]]) (by kernel_rfl) (by kernel_rfl) (mD (rd 5 eCorrection a) rfl rfl (mD (tN i) rfl rfl ?_))))))
    obtain ⟨x1, hx1⟩ : ∃ x, a[i]? = some x := ⟨_, List.getElem?_eq_getElem (by first | (have h9 := sumZ_at (z := zCorrection) hx1; have h8 := (List.getElem?_eq_some_iff.1 hx1).1; unfold zL at ha; omega) | (have h9 := sumZ_at (z := zCorrection) hx2; have h8 := (List.getElem?_eq_some_iff.1 hx2).1; unfold zL at hb; omega) | omega)⟩
    refine fD (OF.indexAddrR (row := (eCorrection false x1)) (i := i) (tv (rd 5 eCorrection a) rfl) (tv (tN i) rfl) rfl (map_at _ hx1) U58 sz66 if66) rfl rfl (lD (OL.loadRn (us := (eCorrection false x1)) (tv (T.rp (eCorrection false x1)) rfl) st66 sz66 (lb rfl) rfl) rfl rfl (mD (rd 5 eCorrection b) rfl rfl (mD (tN i) rfl rfl ?_)))
    obtain ⟨x2, hx2⟩ : ∃ x, b[i]? = some x := ⟨_, List.getElem?_eq_getElem (by first | (have h9 := sumZ_at (z := zCorrection) hx1; have h8 := (List.getElem?_eq_some_iff.1 hx1).1; unfold zL at ha; omega) | (have h9 := sumZ_at (z := zCorrection) hx2; have h8 := (List.getElem?_eq_some_iff.1 hx2).1; unfold zL at hb; omega) | omega)⟩
    refine fD (OF.indexAddrR (row := (eCorrection false x2)) (i := i) (tv (rd 5 eCorrection b) rfl) (tv (tN i) rfl) rfl (map_at _ hx2) U58 sz66 if66) rfl rfl (lD (OL.loadRn (us := (eCorrection false x2)) (tv (T.rp (eCorrection false x2)) rfl) st66 sz66 (lb rfl) rfl) rfl rfl (VRunD.quiet (bi := [6, 5, 4, 7, 2, 1, 0, 3]) rfl VWant.always rfl rfl rfl bn (cS (vc (tv (T.agg (eCorrection false x1)) rfl) (vc (tv (T.agg (eCorrection false x2)) rfl) vn)) (LendL.cons (lg okeCorrection) (LendL.cons (lg okeCorrection) ln)) (W_laws_eqCorrection (n + 0) x1 x2 (by first | (have h9 := sumZ_at (z := zCorrection) hx1; have h8 := (List.getElem?_eq_some_iff.1 hx1).1; unfold zL at ha; omega) | (have h9 := sumZ_at (z := zCorrection) hx2; have h8 := (List.getElem?_eq_some_iff.1 hx2).1; unfold zL at hb; omega) | assumption | omega) (by first | (have h9 := sumZ_at (z := zCorrection) hx1; have h8 := (List.getElem?_eq_some_iff.1 hx1).1; unfold zL at ha; omega) | (have h9 := sumZ_at (z := zCorrection) hx2; have h8 := (List.getElem?_eq_some_iff.1 hx2).1; unfold zL at hb; omega) | assumption | omega)) rfl rfl) (fD (xnot (tv (tB (decide (x1 = x2))) rfl)) rfl rfl (VRunD.nil (tn ?_)))))
    refine cn (x1 = x2) rfl (fun fhc2 => ?_) fun fhc2 => ?_
    · refine sr ?_
      refine fO (OF.assign (VEv.bool false)) (nt (rt (vinB.r (tr (tr (vinB.r (tr (vb (b' := false) rfl ?_))))))))
      symm; rw [decide_eq_false_iff_not]; exact agree_not hx1 hx2 fhc2
    refine sk (vinB.n (tn (VRun.region (mO (tN i) rfl (fO (xinc (tv (tN i) rfl) (VEv.int .i64 1) (by first | (have h9 := sumZ_at (z := zCorrection) hx1; have h8 := (List.getElem?_eq_some_iff.1 hx1).1; unfold zL at ha; omega) | (have h9 := sumZ_at (z := zCorrection) hx2; have h8 := (List.getElem?_eq_some_iff.1 hx2).1; unfold zL at hb; omega) | omega)) (aO (tN (i + 1)) rfl (VRunO.nil (tn ?_))))))))
    refine ⟨(i + 1 : Nat), ?_, ?_, Wk.mk (fun k => k) ?_ ?_ ?_⟩
    · exact agree_next hI' hx1 hx2 fhc2
    · first | omega | (simp only []; omega) | (show _ < _; omega) | (simp; omega)
    · exact (b2 (b2 (b2 bn)))
    · exact bn
    · exact nd rfl
  refine VRun.exit (vthn.e (vthn.e (vinB.e (tn (sr (fO (OF.assign (VEv.bool true)) (nt (rt (vb (b' := true) rfl ?_)))))))))
  symm; rw [decide_eq_true_eq]; exact agree_all hI' fhc0 fhc1
end Go.Proofs.Ytfpnmphheminbaa.AE
namespace Go.Proofs.Ytfpnmphheminbaa.AE
open Go Go.RowKit
set_option linter.unusedVariables false
set_option linter.unusedSimpArgs false
set_option maxRecDepth 20000
set_option maxHeartbeats 2000000
noncomputable section
theorem allNext {ok : Nat → Prop} {i n : Nat} (h : i ≤ n ∧ ∀ j, j < i → ok j) (hi : i < n) (hk : ok i) : i + 1 ≤ n ∧ ∀ j, j < i + 1 → ok j := by
  refine ⟨hi, fun j hj => ?_⟩
  rcases Nat.lt_or_ge j i with h1 | h1
  · exact h.2 j h1
  · obtain rfl : j = i := by omega
    exact hk
theorem allEnd {ok : Nat → Prop} {i n : Nat} (h : i ≤ n ∧ ∀ j, j < i → ok j) (hi : ¬ i < n) : ∀ j, j < n → ok j := fun j hj => h.2 j (by omega)
theorem same_at {α : Type} {l : List α} {i : Nat} {x y : α} (hx : l[i]? = some x) (hy : l[i]? = some y) : y = x := by
  rw [hx] at hy
  exact (Option.some.inj hy).symm
def isWord (s : ByteArray) : Prop := (1 ≤ s.size ∧ s.size ≤ 8) ∧ ∀ i, i < s.size → 97 ≤ bAt s i ∧ bAt s i ≤ 122
instance (s : ByteArray) : Decidable (isWord s) := Classical.propDecidable _
end
theorem W_spec_l1In (n : Nat) (a : Int) (b : Int) (c : Int)  : Pure (acall Try.prog (n + 1)) 69 [(tI a), (tI b), (tI c)] (tB (decide (b ≤ a ∧ a ≤ c))) := by
  refine Pure.intro (rs := [ResultVar.tmp 6]) Try.func69 rfl rfl rfl (E0 := [(0, (tI a)), (1, (tI b)), (2, (tI c))]) rfl ?_
  obtain ⟨hlim, hmx, hmax⟩ := lims
  refine sr (fO (OF.assign (VEv.bool false)) (nt (sr (mO (tI a) rfl (mO (tI b) rfl (fO (xge (tv (tI a) rfl) (tv (tI b) rfl)) (mO (tB (decide (b ≤ a))) rfl ?_)))))))
  refine gw (b ≤ a) (fun fhg10_1 => ?_) fun fhg10_1 => ?_
  · refine gF (dy fhg10_1) rfl rfl (OF.move (tv (tI a) rfl)) ?_
    refine gF (dy fhg10_1) rfl rfl (OF.move (tv (tI c) rfl)) (gF (dy fhg10_1) rfl rfl (xle (tv (tI a) rfl) (tv (tI c) rfl)) (fO (OF.pickT (VEv.tmpB rfl (dy fhg10_1)) (tv (tB (decide (a ≤ c))) rfl)) (aO (tB (decide (a ≤ c))) rfl (nt (rt (vb (b' := (decide (a ≤ c))) rfl ?_))))))
    exact decN (by omega)
  refine offs 3 3 true 10 (dz fhg10_1) rfl rfl rfl (fO (OF.pickF (VEv.tmpB rfl (dz fhg10_1)) (VEv.bool false)) (aO (tB false) rfl (nt (rt (vb (b' := false) rfl ?_)))))
  (symm; rw [decide_eq_false_iff_not]; omega)
theorem W_impl_InRange (n : Nat) (a : Int) (b : Int) (c : Int)  : Pure (acall Try.prog (n + 1)) 74 [(tI a), (tI b), (tI c)] (tB (decide (b ≤ a ∧ a ≤ c))) := by
  refine Pure.intro (rs := [ResultVar.tmp 6]) Try.func74 rfl rfl rfl (E0 := [(0, (tI a)), (1, (tI b)), (2, (tI c))]) rfl ?_
  obtain ⟨hlim, hmx, hmax⟩ := lims
  refine sr (fO (OF.assign (VEv.bool false)) (nt (sr (mO (tI b) rfl (mO (tI a) rfl (fO (xle (tv (tI b) rfl) (tv (tI a) rfl)) (mO (tB (decide (b ≤ a))) rfl ?_)))))))
  refine gw (b ≤ a) (fun fhg10_1 => ?_) fun fhg10_1 => ?_
  · refine gF (dy fhg10_1) rfl rfl (OF.move (tv (tI a) rfl)) ?_
    refine gF (dy fhg10_1) rfl rfl (OF.move (tv (tI c) rfl)) (gF (dy fhg10_1) rfl rfl (xle (tv (tI a) rfl) (tv (tI c) rfl)) (fO (OF.pickT (VEv.tmpB rfl (dy fhg10_1)) (tv (tB (decide (a ≤ c))) rfl)) (aO (tB (decide (a ≤ c))) rfl (nt (rt (vb (b' := (decide (a ≤ c))) rfl ?_))))))
    exact decN (by omega)
  refine offs 3 3 true 10 (dz fhg10_1) rfl rfl rfl (fO (OF.pickF (VEv.tmpB rfl (dz fhg10_1)) (VEv.bool false)) (aO (tB false) rfl (nt (rt (vb (b' := false) rfl ?_)))))
  (symm; rw [decide_eq_false_iff_not]; omega)
theorem W_impl_isLetter (n : Nat) (a : Int)  : Pure (acall Try.prog (n + 1)) 87 [(T.int .u8 a)] (tB (decide (97 ≤ a ∧ a ≤ 122))) := by
  refine Pure.intro (rs := [ResultVar.tmp 2]) Try.func87 rfl rfl rfl (E0 := [(0, (T.int .u8 a))]) rfl ?_
  obtain ⟨hlim, hmx, hmax⟩ := lims
  refine sr (fO (OF.assign (VEv.bool false)) (nt (sr (mO (T.int .u8 a) rfl (fO (xge (tv (T.int .u8 a) rfl) (VEv.int .u8 97)) (mO (tB (decide (97 ≤ a))) rfl ?_))))))
  refine gw (97 ≤ a) (fun fhg5_1 => ?_) fun fhg5_1 => ?_
  · refine gF (dy fhg5_1) rfl rfl (OF.move (tv (T.int .u8 a) rfl)) ?_
    refine gF (dy fhg5_1) rfl rfl (xle (tv (T.int .u8 a) rfl) (VEv.int .u8 122)) (fO (OF.pickT (VEv.tmpB rfl (dy fhg5_1)) (tv (tB (decide (a ≤ 122))) rfl)) (aO (tB (decide (a ≤ 122))) rfl (nt (rt (vb (b' := (decide (a ≤ 122))) rfl ?_)))))
    exact decN (by omega)
  refine offs 2 2 true 5 (dz fhg5_1) rfl rfl rfl (fO (OF.pickF (VEv.tmpB rfl (dz fhg5_1)) (VEv.bool false)) (aO (tB false) rfl (nt (rt (vb (b' := false) rfl ?_)))))
  (symm; rw [decide_eq_false_iff_not]; omega)
theorem W_impl_at (n : Nat) (a : Int) (b : Int)  : Pure (acall Try.prog (n + 1)) 98 [(tI a), (tI b)] (tB (decide (0 ≤ a ∧ a < b))) := by
  refine Pure.intro (rs := [ResultVar.tmp 4]) Try.func98 rfl rfl rfl (E0 := [(0, (tI a)), (1, (tI b))]) rfl ?_
  obtain ⟨hlim, hmx, hmax⟩ := lims
  refine sr (fO (OF.assign (VEv.bool false)) (nt (sr (mO (tI a) rfl (fO (xge (tv (tI a) rfl) (VEv.int .i64 0)) (mO (tB (decide (0 ≤ a))) rfl ?_))))))
  refine gw (0 ≤ a) (fun fhg7_1 => ?_) fun fhg7_1 => ?_
  · refine gF (dy fhg7_1) rfl rfl (OF.move (tv (tI a) rfl)) ?_
    refine gF (dy fhg7_1) rfl rfl (OF.move (tv (tI b) rfl)) (gF (dy fhg7_1) rfl rfl (xls (tv (tI a) rfl) (tv (tI b) rfl)) (fO (OF.pickT (VEv.tmpB rfl (dy fhg7_1)) (tv (tB (decide (a < b))) rfl)) (aO (tB (decide (a < b))) rfl (nt (rt (vb (b' := (decide (a < b))) rfl ?_))))))
    exact decN (by omega)
  refine offs 3 2 true 7 (dz fhg7_1) rfl rfl rfl (fO (OF.pickF (VEv.tmpB rfl (dz fhg7_1)) (VEv.bool false)) (aO (tB false) rfl (nt (rt (vb (b' := false) rfl ?_)))))
  (symm; rw [decide_eq_false_iff_not]; omega)
theorem W_spec_IsWord (n : Nat) (a : ByteArray) (ha : a.size ≤ maxLen) : Pure (acall Try.prog (n + 2)) 68 [(tS a)] (tB (decide (isWord a))) := by
  refine Pure.intro (rs := [ResultVar.tmp 2]) Try.func68 rfl rfl rfl (E0 := [(0, (tS a))]) rfl ?_
  obtain ⟨hlim, hmx, hmax⟩ := lims
  refine sr (fO (OF.assign (VEv.bool false)) (nt (sq (sr (mO (tS a) rfl (lO (B.lenS (tv (tS a) rfl) U9) (cO (cS (vc (tv (tN a.size) rfl) (vc (VEv.int .i64 1) (vc (VEv.int .i64 8) vn))) (lps rfl) (W_spec_l1In (n + 0) ((a.size : Nat) : Int) 1 8 ) rfl rfl) (fO (xnot (tv (tB (decide (1 ≤ ((a.size : Nat) : Int) ∧ ((a.size : Nat) : Int) ≤ 8))) rfl)) (nt ?_)))))))))
  refine cn (1 ≤ ((a.size : Nat) : Int) ∧ ((a.size : Nat) : Int) ≤ 8) rfl (fun fhc0 => ?_) fun fhc0 => ?_
  · refine sr ?_
    refine fO (OF.assign (VEv.bool false)) (nt (rt (tr (vb (b' := false) rfl ?_))))
    symm; rw [decide_eq_false_iff_not]; rintro ⟨h1, _⟩; omega
  refine sk (tn (sq (sr (fO (OF.assign (VEv.int .i64 0)) (nt (VRun.block ?_))))))
  refine VRun.loop (A := Nat) (fun s_ => [(0, (tS a)), (3, (tN s_))]) (fun s_ => mkO []) 0 (fun s_ => s_ ≤ a.size ∧ ∀ j, j < s_ → 97 ≤ bAt a j ∧ bAt a j ≤ 122) (fun s_ => a.size - s_) (0 : Nat) ?_ (Wk.mk (fun k => k) ?_ ?_ ?_) ?_
  · exact ⟨Nat.zero_le _, fun j hj => by omega⟩
  · exact (b2 (b2 bn))
  · exact bn
  · exact nd rfl
  rintro i (hI' : i ≤ a.size ∧ ∀ j, j < i → 97 ≤ bAt a j ∧ bAt a j ≤ 122)
  show VRun _ _ _ [(0, (tS a)), (3, (tN i))] (mkO []) 0 _
  refine sq (sr (mO (tN i) rfl (mO (tS a) rfl (lO (B.lenS (tv (tS a) rfl) U9) (fO (xls' (tv (tN i) rfl) (tv (tN a.size) rfl)) (nt ?_))))))
  refine cd (i < a.size) rfl (fun fhc1 => ?_) fun fhc1 => ?_
  · refine sk ?_
    refine tn (sq (VRun.block (sr (mO (tS a) rfl (mO (tN i) rfl ?_)))))
    have hb1 : i < a.size := (by omega)
    refine fO (xix (tv (tS a) rfl) (tv (tN i) rfl) hb1 U9) (fO (xls (tv (T.int .u8 (bAt a i)) rfl) (VEv.int .u8 97)) (mO (tB (decide (bAt a i < 97))) rfl ?_))
    refine gw (bAt a i < 97) (fun fhg18_2 => ?_) fun fhg18_2 => ?_
    · refine offs 4 4 false 18 (dy fhg18_2) rfl rfl rfl ?_
      refine fO (OF.pickT (VEv.tmpB rfl (dy fhg18_2)) (VEv.bool true)) (nt (ct rfl (sr (fO (OF.assign (VEv.bool false)) (nt (rt (vinB.r (tr (tr (vinB.r (tr ?_)))))))))))
      refine vb (b' := false) rfl ?_
      symm; rw [decide_eq_false_iff_not]; rintro ⟨_, h2⟩; have := h2 i fhc1; omega
    refine gF (dz fhg18_2) rfl rfl (OF.move (tv (tS a) rfl)) (gF (dz fhg18_2) rfl rfl (OF.move (tv (tN i) rfl)) ?_)
    have hb3 : i < a.size := (by omega)
    refine gF (dz fhg18_2) rfl rfl (xix (tv (tS a) rfl) (tv (tN i) rfl) hb3 U9) (gF (dz fhg18_2) rfl rfl (xgt (tv (T.int .u8 (bAt a i)) rfl) (VEv.int .u8 122)) (fO (OF.pickF (VEv.tmpB rfl (dz fhg18_2)) (tv (tB (decide (122 < bAt a i))) rfl)) (nt ?_)))
    refine cd (122 < bAt a i) rfl (fun fhc2 => ?_) fun fhc2 => ?_
    · refine sr ?_
      refine fO (OF.assign (VEv.bool false)) (nt (rt (vinB.r (tr (tr (vinB.r (tr (vb (b' := false) rfl ?_))))))))
      symm; rw [decide_eq_false_iff_not]; rintro ⟨_, h2⟩; have := h2 i fhc1; omega
    refine sk (vinB.n (tn (VRun.region (mO (tN i) rfl (fO (xinc (tv (tN i) rfl) (VEv.int .i64 1) (by omega)) (aO (tN (i + 1)) rfl (VRunO.nil (tn ?_))))))))
    refine ⟨(i + 1 : Nat), ?_, ?_, Wk.mk (fun k => k) ?_ ?_ ?_⟩
    · exact allNext (ok := fun j => 97 ≤ bAt a j ∧ bAt a j ≤ 122) hI' fhc1 (by omega)
    · omega
    · exact (b2 (b2 bn))
    · exact bn
    · exact nd rfl
  refine VRun.exit (vthn.e (vthn.e (vinB.e (tn (sr (fO (OF.assign (VEv.bool true)) (nt (rt (vb (b' := true) rfl ?_)))))))))
  symm; rw [decide_eq_true_eq]; exact ⟨by omega, allEnd hI' fhc1⟩
theorem W_impl_IsWord (n : Nat) (a : ByteArray) (ha : a.size ≤ maxLen) : Pure (acall Try.prog (n + 2)) 73 [(tS a)] (tB (decide (isWord a))) := by
  refine Pure.intro (rs := [ResultVar.tmp 2]) Try.func73 rfl rfl rfl (E0 := [(0, (tS a))]) rfl ?_
  obtain ⟨hlim, hmx, hmax⟩ := lims
  refine sr (fO (OF.assign (VEv.bool false)) (nt (sq (sr (mO (tS a) rfl (lO (B.lenS (tv (tS a) rfl) U9) (cO (cS (vc (tv (tN a.size) rfl) (vc (VEv.int .i64 1) (vc (VEv.int .i64 8) vn))) (lps rfl) (W_impl_InRange (n + 0) ((a.size : Nat) : Int) 1 8 ) rfl rfl) (fO (xnot (tv (tB (decide (1 ≤ ((a.size : Nat) : Int) ∧ ((a.size : Nat) : Int) ≤ 8))) rfl)) (nt ?_)))))))))
  refine cn (1 ≤ ((a.size : Nat) : Int) ∧ ((a.size : Nat) : Int) ≤ 8) rfl (fun fhc0 => ?_) fun fhc0 => ?_
  · refine sr ?_
    refine fO (OF.assign (VEv.bool false)) (nt (rt (tr (vb (b' := false) rfl ?_))))
    symm; rw [decide_eq_false_iff_not]; rintro ⟨h1, _⟩; omega
  refine sk (tn (sq (sr (mO (tS a) rfl (lO (B.lenS (tv (tS a) rfl) U9) (fO (OF.move (VEv.int .i64 0)) (nt (VRun.block ?_))))))))
  refine VRun.loop (A := Nat) (fun s_ => [(0, (tS a)), (9, (tN a.size)), (10, (tN s_))]) (fun s_ => mkO []) 0 (fun s_ => s_ ≤ a.size ∧ ∀ j, j < s_ → 97 ≤ bAt a j ∧ bAt a j ≤ 122) (fun s_ => a.size - s_) (0 : Nat) ?_ (Wk.mk (fun k => k) ?_ ?_ ?_) ?_
  · exact ⟨Nat.zero_le _, fun j hj => by omega⟩
  · exact (b2 (b2 (b2 bn)))
  · exact bn
  · exact nd rfl
  rintro i (hI' : i ≤ a.size ∧ ∀ j, j < i → 97 ≤ bAt a j ∧ bAt a j ≤ 122)
  show VRun _ _ _ [(0, (tS a)), (9, (tN a.size)), (10, (tN i))] (mkO []) 0 _
  refine sr (fO (xls' (tv (tN i) rfl) (tv (tN a.size) rfl)) (nt (sq ?_)))
  refine cd (i < a.size) rfl (fun fhc1 => ?_) fun fhc1 => ?_
  · refine sk ?_
    refine tn (sq (VRun.block (sr (mO (tN i) rfl (aO (tN i) rfl (nt (sr (mO (tS a) rfl (mO (tN i) rfl ?_)))))))))
    have hb1 : i < a.size := (by omega)
    refine fO (xix (tv (tS a) rfl) (tv (tN i) rfl) hb1 U9) (cO (cS (vc (tv (T.int .u8 (bAt a i)) rfl) vn) (lps rfl) (W_impl_isLetter (n + 0) (bAt a i) ) rfl rfl) (fO (xnot (tv (tB (decide (97 ≤ (bAt a i) ∧ (bAt a i) ≤ 122))) rfl)) (nt ?_)))
    refine cn (97 ≤ (bAt a i) ∧ (bAt a i) ≤ 122) rfl (fun fhc2 => ?_) fun fhc2 => ?_
    · refine sr ?_
      refine fO (OF.assign (VEv.bool false)) (nt (rt (vinB.r (tr (tr (vinB.r (tr (vb (b' := false) rfl ?_))))))))
      symm; rw [decide_eq_false_iff_not]; rintro ⟨_, h2⟩; have := h2 i fhc1; omega
    refine sk (vinB.n (tn (VRun.region (fO (xinc (tv (tN i) rfl) (VEv.int .i64 1) (by omega)) (mO (tN (i + 1)) rfl (VRunO.nil (tn ?_)))))))
    refine ⟨(i + 1 : Nat), ?_, ?_, Wk.mk (fun k => k) ?_ ?_ ?_⟩
    · exact allNext (ok := fun j => 97 ≤ bAt a j ∧ bAt a j ≤ 122) hI' fhc1 (by omega)
    · omega
    · exact (b2 (b2 (b2 bn)))
    · exact bn
    · exact nd rfl
  refine VRun.exit (vthn.e (vthn.e (vinB.e (tn (sr (fO (OF.assign (VEv.bool true)) (nt (rt (vb (b' := true) rfl ?_)))))))))
  symm; rw [decide_eq_true_eq]; exact ⟨by omega, allEnd hI' fhc1⟩
end Go.Proofs.Ytfpnmphheminbaa.AE
namespace Go.Proofs.Ytfpnmphheminbaa.AE
open Go Go.RowKit
set_option linter.unusedVariables false
set_option linter.unusedSimpArgs false
set_option maxRecDepth 20000
set_option maxHeartbeats 2000000
noncomputable section
def two (k : Int) : Prop := k = 4 ∨ k = 5
def stepOk (l : List D.Step) (j : Nat) : Prop := ∃ x, l[j]? = some x ∧ (1 ≤ x.Kind ∧ x.Kind ≤ 9) ∧ (x.Kind = 1 → isWord x.Word ∧ x.A = 0 ∧ x.B = 0) ∧
  (¬ x.Kind = 1 → x.Word = (⟨#[]⟩ : ByteArray) ∧ (0 ≤ x.A ∧ x.A < (j : Int)) ∧ (two x.Kind → 0 ≤ x.B ∧ x.B < (j : Int)) ∧ (¬ two x.Kind → x.B = 0) ∧ (¬ two x.Kind → ¬ x.Kind = 2 → ∃ y, l[x.A.toNat]? = some y ∧ y.Kind = 1))
instance (l : List D.Step) (j : Nat) : Decidable (stepOk l j) := Classical.propDecidable _
def isPlay (l : List D.Step) : Prop := (1 ≤ l.length ∧ l.length ≤ 9) ∧ ∀ j, j < l.length → stepOk l j
instance (l : List D.Step) : Decidable (isPlay l) := Classical.propDecidable _
def stepP (l : List D.Step) (j : Nat) (x : D.Step) : Prop := (1 ≤ x.Kind ∧ x.Kind ≤ 9) ∧ (x.Kind = 1 → isWord x.Word ∧ x.A = 0 ∧ x.B = 0) ∧
  (¬ x.Kind = 1 → x.Word = (⟨#[]⟩ : ByteArray) ∧ (0 ≤ x.A ∧ x.A < (j : Int)) ∧ (two x.Kind → 0 ≤ x.B ∧ x.B < (j : Int)) ∧ (¬ two x.Kind → x.B = 0) ∧ (¬ two x.Kind → ¬ x.Kind = 2 → ∃ y, l[x.A.toNat]? = some y ∧ y.Kind = 1))
theorem stepOk_iff {l : List D.Step} {j : Nat} {x : D.Step} (hx : l[j]? = some x) : stepOk l j ↔ stepP l j x := by
  constructor
  · rintro ⟨y, hy, h⟩
    obtain rfl := same_at hx hy
    exact h
  · intro h
    exact ⟨x, hx, h⟩
theorem exAt {l : List D.Step} {k : Nat} {y : D.Step} (hy : l[k]? = some y) : (∃ z, l[k]? = some z ∧ z.Kind = 1) ↔ y.Kind = 1 := by
  constructor
  · rintro ⟨z, hz, h⟩
    obtain rfl := same_at hy hz
    exact h
  · intro h
    exact ⟨y, hy, h⟩
theorem l15_a {l : List D.Step} {j : Nat} {x y : D.Step} (hx : l[j]? = some x) (hy : l[x.A.toNat]? = some y) (h1 : 1 ≤ x.Kind ∧ x.Kind ≤ 9) (h2 : ¬ x.Kind = 1) (h3 : x.Word = (⟨#[]⟩ : ByteArray)) (h4 : 0 ≤ x.A ∧ x.A < (j : Int)) (h5 : x.B = 0) (h6 : ¬ two x.Kind) (h7 : ¬ x.Kind = 2) : decide (y.Kind = 1) = decide (stepOk l j) := by
  refine decN ?_
  rw [stepOk_iff hx]
  simp only [stepP, exAt hy]
  exact ⟨fun h => ⟨h1, fun hk => absurd hk h2, fun _ => ⟨h3, h4, fun h => absurd h h6, fun _ => h5, fun _ _ => h⟩⟩, fun h => (h.2.2 h2).2.2.2.2 h6 h7⟩
theorem l15_b {l : List D.Step} {j : Nat} {x : D.Step} (hx : l[j]? = some x) (h1 : 1 ≤ x.Kind ∧ x.Kind ≤ 9) (h2 : x.Kind = 1) (h3 : isWord x.Word) (h4 : x.A = 0) : decide (x.B = 0) = decide (stepOk l j) := by
  refine decN ?_
  rw [stepOk_iff hx]
  simp only [stepP]
  exact ⟨fun h => ⟨h1, fun _ => ⟨h3, h4, h⟩, fun hk => absurd h2 hk⟩, fun h => (h.2.1 h2).2.2⟩
theorem not_isWord0 : ¬ isWord (⟨#[]⟩ : ByteArray) := fun h => absurd h.1.1 (by decide)
end
theorem W_impl_needsWord (n : Nat) (a : Int)  : Pure (acall Try.prog (n + 1)) 99 [(tI a)] (tB (decide (a = 3 ∨ 6 ≤ a))) := by
  refine Pure.intro (rs := [ResultVar.tmp 2]) Try.func99 rfl rfl rfl (E0 := [(0, (tI a))]) rfl ?_
  obtain ⟨hlim, hmx, hmax⟩ := lims
  refine sr (fO (OF.assign (VEv.bool false)) (nt (sr (mO (tI a) rfl (fO (xeq (tv (tI a) rfl) (VEv.int .i64 3)) (mO (tB (decide (a = 3))) rfl ?_))))))
  refine gw (a = 3) (fun fhg5_1 => ?_) fun fhg5_1 => ?_
  · refine offs 2 2 false 5 (dy fhg5_1) rfl rfl rfl ?_
    refine fO (OF.pickT (VEv.tmpB rfl (dy fhg5_1)) (VEv.bool true)) (aO (tB true) rfl (nt (rt (vb (b' := true) rfl ?_))))
    (symm; rw [decide_eq_true_eq]; omega)
  refine gF (dz fhg5_1) rfl rfl (OF.move (tv (tI a) rfl)) (gF (dz fhg5_1) rfl rfl (xge (tv (tI a) rfl) (VEv.int .i64 6)) (fO (OF.pickF (VEv.tmpB rfl (dz fhg5_1)) (tv (tB (decide (6 ≤ a))) rfl)) (aO (tB (decide (6 ≤ a))) rfl (nt (rt (vb (b' := (decide (6 ≤ a))) rfl ?_))))))
  exact decN (by omega)
theorem W_impl_isPair (n : Nat) (a : Int)  : Pure (acall Try.prog (n + 1)) 100 [(tI a)] (tB (decide (a = 4 ∨ a = 5))) := by
  refine Pure.intro (rs := [ResultVar.tmp 2]) Try.func100 rfl rfl rfl (E0 := [(0, (tI a))]) rfl ?_
  obtain ⟨hlim, hmx, hmax⟩ := lims
  refine sr (fO (OF.assign (VEv.bool false)) (nt (sr (mO (tI a) rfl (fO (xeq (tv (tI a) rfl) (VEv.int .i64 4)) (mO (tB (decide (a = 4))) rfl ?_))))))
  refine gw (a = 4) (fun fhg5_1 => ?_) fun fhg5_1 => ?_
  · refine offs 2 2 false 5 (dy fhg5_1) rfl rfl rfl ?_
    refine fO (OF.pickT (VEv.tmpB rfl (dy fhg5_1)) (VEv.bool true)) (aO (tB true) rfl (nt (rt (vb (b' := true) rfl ?_))))
    (symm; rw [decide_eq_true_eq]; omega)
  refine gF (dz fhg5_1) rfl rfl (OF.move (tv (tI a) rfl)) (gF (dz fhg5_1) rfl rfl (xeq (tv (tI a) rfl) (VEv.int .i64 5)) (fO (OF.pickF (VEv.tmpB rfl (dz fhg5_1)) (tv (tB (decide (a = 5))) rfl)) (aO (tB (decide (a = 5))) rfl (nt (rt (vb (b' := (decide (a = 5))) rfl ?_))))))
  exact decN (by omega)
theorem W_spec_l15Ok (n : Nat) (a : List D.Step) (i : Nat) (hz : zL zStep a ≤ mx) (hi : i < a.length) : Pure (acall Try.prog (n + 3)) 97 [(rd 4 eStep a), (tN i)] (tB (decide (stepOk a i))) := by
  refine Pure.intro (rs := [ResultVar.tmp 4]) Try.func97 rfl rfl rfl (E0 := [(0, (rd 4 eStep a)), (1, (tN i))]) rfl ?_
  obtain ⟨hlim, hmx, hmax⟩ := lims
  have ha := zL_len (z := zStep) a
  have hw : ∀ x ∈ a, x.Word.size ≤ maxLen := fun x hx => by have h1 := zL_mem (z := zStep) hx; simp only [zStep] at h1; omega
  refine sr (fO (OF.assign (VEv.bool false)) (nt (sr (mO (rd 4 eStep a) rfl (mO (tN i) rfl ?_)))))
  obtain ⟨x1, hx1⟩ : ∃ x, a[i]? = some x := ⟨_, List.getElem?_eq_getElem (by omega)⟩
  refine fO (OF.indexAddrR (row := (eStep false x1)) (i := i) (tv (rd 4 eStep a) rfl) (tv (tN i) rfl) rfl (map_at _ hx1) U62 sz106 if106) (lO (OL.loadRn (us := (eStep false x1)) (tv (T.rp (eStep false x1)) rfl) st106 sz106 (lb rfl) rfl) (kO (B.alloc (t := (T.agg [(tN 0), (tS ByteArray.empty), (tN 0), (tN 0)])) (ts := [(tN 0), (tS ByteArray.empty), (tN 0), (tN 0)]) zo106 zc106 nofun (fun _ => .agg _ _ rfl (RLof (RL.cons (.int _ _) (RL.cons (.str _) (RL.cons (.int _ _) (RL.cons (.int _ _) (RL.nil _))))))) rfl) (cO (B.storeO (us := (eStep false x1)) (ws := (eStep false x1)) (tv (T.op 0 0) rfl) (tv (T.agg (eStep false x1)) rfl) nofun rfl rfl (lb rfl) if106 sz106 (bc rfl (bc rfl (bc rfl (bc rfl bn)))) rfl) (nt (sq (sq (VRun.draw (B := [[], [0], [0, 1], [1, 0, 2], [2, 0, 1, 3], [3, 1, 0, 2, 4], [4, 2, 0, 1, 3, 5], [5, 3, 1, 0, 2, 4, 6], [3, 1, 0, 2, 4], [4, 2, 0, 1, 3, 8], [8, 3, 1, 0, 2, 4, 9], [9, 8, 10, 6, 4, 2, 0, 1, 3, 5, 7], [7, 5, 6, 10, 8, 9, 11, 3, 1, 0, 2, 4], [4, 2, 0, 1, 3, 11, 9, 8, 10, 6, 5, 7, 12], [12, 7, 5, 6, 10, 8, 9, 11, 3, 1, 0, 2, 4, 13], [13, 4, 2, 0, 1, 3, 11, 9, 8, 10, 6, 5, 7, 12, 14], [14, 12, 7, 5, 6, 10, 8, 9, 11, 3, 1, 0, 2, 4, 13, 15], [15, 13, 4, 2, 0, 1, 3, 11, 9, 8, 10, 6, 5, 7, 12, 14, 16], [16, 14, 12, 7, 5, 6, 10, 8, 9, 11, 3, 1, 0, 2, 4, 13, 15, 17], [17, 15, 13, 4, 2, 0, 1, 3, 11, 9, 8, 10, 6, 5, 7, 12, 14, 16, 18], [18, 16, 14, 12, 7, 5, 6, 10, 8, 9, 11, 3, 1, 0, 2, 4, 13, 15, 17, 19], [19, 18, 20, 16, 14, 12, 7, 5, 6, 10, 8, 9, 11, 3, 1, 0, 2, 4, 13, 15, 17], [17, 15, 14, 16, 20, 18, 19, 21, 12, 7, 5, 6, 10, 8, 9, 11, 3, 1, 0, 2, 4, 13]]) (by kernel_rfl) (by kernel_rfl) (fD (OF.fieldAddrO (tv (T.op 0 0) rfl) fa106_0) rfl rfl (lD (OL.loadO1 (t := (tI x1.Kind)) (tv (T.op 0 0) rfl) rfl rfl st3) rfl rfl (VRunD.quiet (bi := [0, 1]) rfl VWant.always rfl rfl rfl bn (cS (vc (tv (tI x1.Kind) rfl) (vc (VEv.int .i64 1) (vc (VEv.int .i64 9) vn))) (lps rfl) (W_spec_l1In (n + 1) x1.Kind 1 9 ) rfl rfl) (fD (xnot (tv (tB (decide (1 ≤ x1.Kind ∧ x1.Kind ≤ 9))) rfl)) rfl rfl ?_)))))))))))
  refine mD (tB (!(decide (1 ≤ x1.Kind ∧ x1.Kind ≤ 9)))) rfl rfl ?_
  refine gn (1 ≤ x1.Kind ∧ x1.Kind ≤ 9) (fun fhg15_1 => ?_) fun fhg15_1 => ?_
  · refine oD rfl rfl (ny fhg15_1) rfl ?_
    refine oD rfl rfl (ny fhg15_1) rfl (oD rfl rfl (ny fhg15_1) rfl (oD rfl rfl (ny fhg15_1) rfl (oD rfl rfl (ny fhg15_1) rfl (oD rfl rfl (ny fhg15_1) rfl (oD rfl rfl (ny fhg15_1) rfl (fD (OF.pickT (VEv.tmpB rfl (ny fhg15_1)) (VEv.bool true)) rfl rfl (mD (tB true) rfl rfl (VRunD.off rfl (VWant.not (b := true) rfl rfl rfl) (VRunD.off rfl (VWant.not (b := true) rfl rfl rfl) (VRunD.off rfl (VWant.not (b := true) rfl rfl rfl) (VRunD.off rfl (VWant.not (b := true) rfl rfl rfl) ?_)))))))))))
    refine uD rfl rfl rfl (uD rfl rfl rfl (uD rfl rfl rfl (VRunD.off rfl (VWant.not (b := true) rfl rfl rfl) (fD (OF.pickT (tv (tB true) rfl) (VEv.bool true)) rfl rfl (VRunD.nil (tn (ct rfl (sr (fO (OF.assign (VEv.bool false)) (nt (rt ?_)))))))))))
    refine tr (vb (b' := false) rfl ?_)
    (symm; rw [decide_eq_false_iff_not, stepOk_iff hx1]; rintro ⟨h1, h2, h3⟩; by_cases hk : x1.Kind = 1 <;> simp only [hk, two] at * <;> omega)
  refine VRunD.free rfl (VWant.on rfl rfl (nz fhg15_1)) rfl (OF.fieldAddrO (tv (T.op 0 0) rfl) fa106_0) (VRunD.look rfl (VWant.on rfl rfl (nz fhg15_1)) rfl (OL.loadO1 (t := (tI x1.Kind)) (tv (T.op 0 0) rfl) rfl rfl st3) (VRunD.free rfl (VWant.on rfl rfl (nz fhg15_1)) rfl (xeq (tv (tI x1.Kind) rfl) (VEv.int .i64 1)) (VRunD.free rfl (VWant.on rfl rfl (nz fhg15_1)) rfl (OF.fieldAddrO (tv (T.op 0 0) rfl) fa106_1) (VRunD.look rfl (VWant.on rfl rfl (nz fhg15_1)) rfl (OL.loadO1 (t := (tS x1.Word)) (tv (T.op 0 1) rfl) rfl rfl st9) (VRunD.quiet (bi := [8, 3, 1, 0, 2, 4, 9]) rfl (VWant.on rfl rfl (nz fhg15_1)) rfl rfl rfl bn (cS (vc (tv (tS x1.Word) rfl) vn) (lps rfl) (W_spec_IsWord (n + 0) x1.Word (by exact hw _ (List.mem_of_getElem? hx1))) rfl rfl) (VRunD.free rfl (VWant.on rfl rfl (nz fhg15_1)) rfl (B.bneq U4 (c := (!((decide (x1.Kind = 1)) == (decide (isWord x1.Word))))) (tv (tB (decide (x1.Kind = 1))) rfl) (tv (tB (decide (isWord x1.Word))) rfl) rfl) (fD (OF.pickF (VEv.tmpB rfl (nz fhg15_1)) (tv (tB (!((decide (x1.Kind = 1)) == (decide (isWord x1.Word))))) rfl)) rfl rfl (mD (tB (!((decide (x1.Kind = 1)) == (decide (isWord x1.Word))))) rfl rfl ?_))))))))
  refine bool_way (!((decide (x1.Kind = 1)) == (decide (isWord x1.Word)))) (fun hg24_2 => ?_) (fun hg24_2 => ?_)
  · have fhg24_2 : (!((decide (x1.Kind = 1)) == (decide (isWord x1.Word)))) = true := hg24_2
    refine oD rfl rfl hg24_2 rfl (oD rfl rfl hg24_2 rfl (oD rfl rfl hg24_2 rfl (oD rfl rfl hg24_2 rfl (uD rfl rfl rfl (uD rfl rfl rfl (uD rfl rfl rfl (oD rfl rfl hg24_2 rfl (fD (OF.pickT (VEv.tmpB rfl hg24_2) (VEv.bool true)) rfl rfl (VRunD.nil (tn (ct rfl ?_)))))))))))
    refine sr (fO (OF.assign (VEv.bool false)) (nt (rt (tr (vb (b' := false) rfl ?_)))))
    (symm; rw [decide_eq_false_iff_not, stepOk_iff hx1]; rintro ⟨h1, h2, h3⟩; by_cases hk : x1.Kind = 1 <;> simp only [hk, two] at * <;> (simp_all [not_isWord0]; done))
  have fhg24_2 : (!((decide (x1.Kind = 1)) == (decide (isWord x1.Word)))) = false := hg24_2
  refine VRunD.free rfl (VWant.on rfl rfl hg24_2) rfl (OF.fieldAddrO (tv (T.op 0 0) rfl) fa106_0) (VRunD.look rfl (VWant.on rfl rfl hg24_2) rfl (OL.loadO1 (t := (tI x1.Kind)) (tv (T.op 0 0) rfl) rfl rfl st3) (VRunD.free rfl (VWant.on rfl rfl hg24_2) rfl (xne (tv (tI x1.Kind) rfl) (VEv.int .i64 1)) (VRunD.free rfl (VWant.on rfl rfl hg24_2) rfl (OF.move (tv (tB (!(decide (x1.Kind = 1)))) rfl)) ?_)))
  refine gn (x1.Kind = 1) (fun fhg28_3 => ?_) fun fhg28_3 => ?_
  · refine VRunD.free rfl (VWant.on rfl rfl (ny fhg28_3)) rfl (OF.fieldAddrO (tv (T.op 0 0) rfl) fa106_1) ?_
    refine VRunD.look rfl (VWant.on rfl rfl (ny fhg28_3)) rfl (OL.loadO1 (t := (tS x1.Word)) (tv (T.op 0 1) rfl) rfl rfl st9) (VRunD.free rfl (VWant.on rfl rfl (ny fhg28_3)) rfl (B.sneq (c := (!(decide (x1.Word = (⟨#[]⟩ : ByteArray))))) (tv (tS x1.Word) rfl) (VEv.str (⟨#[]⟩ : ByteArray)) rfl) (VRunD.free rfl (VWant.on rfl rfl hg24_2) rfl (OF.pickT (VEv.tmpB rfl (ny fhg28_3)) (tv (tB (!(decide (x1.Word = (⟨#[]⟩ : ByteArray))))) rfl)) (fD (OF.pickF (VEv.tmpB rfl hg24_2) (tv (tB (!(decide (x1.Word = (⟨#[]⟩ : ByteArray))))) rfl)) rfl rfl (VRunD.nil (tn ?_)))))
    refine cn (x1.Word = (⟨#[]⟩ : ByteArray)) rfl (fun fhc0 => ?_) fun fhc0 => ?_
    · refine sr ?_
      refine fO (OF.assign (VEv.bool false)) (nt (rt (tr (vb (b' := false) rfl ?_))))
      (symm; rw [decide_eq_false_iff_not, stepOk_iff hx1]; rintro ⟨h1, h2, h3⟩; by_cases hk : x1.Kind = 1 <;> simp only [hk, two] at * <;> (simp_all [not_isWord0]; done))
    refine sk (tn (sr (lf (tI x1.Kind) rfl fa106_0 rfl rfl st3 (fO (xeq (tv (tI x1.Kind) rfl) (VEv.int .i64 4)) (mO (tB (decide (x1.Kind = 4))) rfl ?_)))))
    refine gw (x1.Kind = 4) (fun fhg37_4 => ?_) fun fhg37_4 => ?_
    · refine offs 3 3 false 37 (dy fhg37_4) rfl rfl rfl ?_
      refine fO (OF.pickT (VEv.tmpB rfl (dy fhg37_4)) (VEv.bool true)) (aO (tB true) rfl (nt (sq (sr (lf (tI x1.Kind) rfl fa106_0 rfl rfl st3 (fO (xeq (tv (tI x1.Kind) rfl) (VEv.int .i64 1)) (nt (cg (dz fhg28_3) rfl (sk (tn (sq ?_)))))))))))
      refine sr (lf (tI x1.A) rfl fa106_2 rfl rfl st3 (mO (tN i) rfl (fO (B.sub (n := (((i : Nat) : Int) - 1)) (tv (tN i) rfl) (VEv.int .i64 1) (by (rw [wrap64 (by omega)]; done))) (cO (cS (vc (tv (tI x1.A) rfl) (vc (VEv.int .i64 0) (vc (tv (tI (((i : Nat) : Int) - 1)) rfl) vn))) (lps rfl) (W_spec_l1In (n + 1) x1.A 0 (((i : Nat) : Int) - 1) ) rfl rfl) (fO (xnot (tv (tB (decide (0 ≤ x1.A ∧ x1.A ≤ (((i : Nat) : Int) - 1)))) rfl)) (mO (tB (!(decide (0 ≤ x1.A ∧ x1.A ≤ (((i : Nat) : Int) - 1))))) rfl ?_))))))
      refine gn (0 ≤ x1.A ∧ x1.A ≤ (((i : Nat) : Int) - 1)) (fun fhg59_5 => ?_) fun fhg59_5 => ?_
      · refine offs 2 6 false 59 (ny fhg59_5) rfl rfl rfl ?_
        refine offu 6 8 true 61 rfl rfl rfl (oO rfl rfl (ny fhg59_5) (fO (OF.pickT (VEv.tmpB rfl (ny fhg59_5)) (VEv.bool true)) (mO (tB true) rfl (offs 3 17 false 70 (b := true) rfl rfl rfl rfl (offu 3 20 true 73 rfl rfl rfl (VRunO.off (VWant.not (b := true) rfl rfl rfl) (fO (OF.pickT (tv (tB true) rfl) (VEv.bool true)) (nt (ct rfl (sr (fO (OF.assign (VEv.bool false)) ?_)))))))))))
        refine nt (rt (tr (vb (b' := false) rfl ?_)))
        (symm; rw [decide_eq_false_iff_not, stepOk_iff hx1]; rintro ⟨h1, h2, h3⟩; by_cases hk : x1.Kind = 1 <;> simp only [hk, two] at * <;> first | omega | (simp_all [not_isWord0]; omega))
      refine gF (nz fhg59_5) rfl rfl (OF.move (tv (tB true) rfl)) (gF (nz fhg59_5) rfl rfl (OF.move (tv (tB true) rfl)) (VRunO.free (VWant.on (b := true) rfl rfl rfl) (OF.fieldAddrO (tv (T.op 0 0) rfl) fa106_3) (VRunO.look (VWant.on (b := true) rfl rfl rfl) (OL.loadO1 (t := (tI x1.B)) (tv (T.op 0 3) rfl) rfl rfl st3) (VRunO.free (VWant.on (b := true) rfl rfl rfl) (OF.move (tv (tN i) rfl)) (VRunO.free (VWant.on (b := true) rfl rfl rfl) (B.sub (n := (((i : Nat) : Int) - 1)) (tv (tN i) rfl) (VEv.int .i64 1) (by (rw [wrap64 (by omega)]; done))) (VRunO.chain (VWant.on (b := true) rfl rfl rfl) (cS (vc (tv (tI x1.B) rfl) (vc (VEv.int .i64 0) (vc (tv (tI (((i : Nat) : Int) - 1)) rfl) vn))) (lps rfl) (W_spec_l1In (n + 1) x1.B 0 (((i : Nat) : Int) - 1) ) rfl rfl) (VRunO.free (VWant.on (b := true) rfl rfl rfl) (xnot (tv (tB (decide (0 ≤ x1.B ∧ x1.B ≤ (((i : Nat) : Int) - 1)))) rfl)) (gF (nz fhg59_5) rfl rfl (OF.pickT (tv (tB true) rfl) (tv (tB (!(decide (0 ≤ x1.B ∧ x1.B ≤ (((i : Nat) : Int) - 1))))) rfl)) (fO (OF.pickF (VEv.tmpB rfl (nz fhg59_5)) (tv (tB (!(decide (0 ≤ x1.B ∧ x1.B ≤ (((i : Nat) : Int) - 1))))) rfl)) (mO (tB (!(decide (0 ≤ x1.B ∧ x1.B ≤ (((i : Nat) : Int) - 1))))) rfl ?_))))))))))
      refine gn (0 ≤ x1.B ∧ x1.B ≤ (((i : Nat) : Int) - 1)) (fun fhg70_6 => ?_) fun fhg70_6 => ?_
      · refine offs 3 17 false 70 (ny fhg70_6) rfl rfl rfl ?_
        refine offu 3 20 true 73 rfl rfl rfl (oO rfl rfl (ny fhg70_6) (fO (OF.pickT (VEv.tmpB rfl (ny fhg70_6)) (VEv.bool true)) (nt (ct rfl (sr (fO (OF.assign (VEv.bool false)) (nt (rt (tr (vb (b' := false) rfl ?_))))))))))
        (symm; rw [decide_eq_false_iff_not, stepOk_iff hx1]; rintro ⟨h1, h2, h3⟩; by_cases hk : x1.Kind = 1 <;> simp only [hk, two] at * <;> first | omega | (simp_all [not_isWord0]; omega))
      refine gF (nz fhg70_6) rfl rfl (OF.move (tv (tB true) rfl)) (gF (nz fhg70_6) rfl rfl (B.not (c := false) (tv (tB true) rfl) rfl) (gF (nz fhg70_6) rfl rfl (OF.move (tv (tB false) rfl)) (offs 3 20 true 73 (b := false) rfl rfl rfl rfl (gF (nz fhg70_6) rfl rfl (OF.pickF (tv (tB false) rfl) (VEv.bool false)) (fO (OF.pickF (VEv.tmpB rfl (nz fhg70_6)) (tv (tB false) rfl)) (nt (cf rfl (sk (tn (sr (mO (tB true) rfl ?_)))))))))))
      refine mO (tB true) rfl (offs 3 1 false 80 (b := true) rfl rfl rfl rfl (fO (OF.pickT (tv (tB true) rfl) (VEv.bool true)) (mO (tB true) rfl (offs 7 6 false 85 (b := true) rfl rfl rfl rfl (fO (OF.pickT (tv (tB true) rfl) (VEv.bool true)) (aO (tB true) rfl (nt (rt (vb (b' := true) rfl ?_)))))))))
      (symm; rw [decide_eq_true_eq, stepOk_iff hx1]; refine ⟨by omega, fun hk => ?_, fun hk => ?_⟩ <;> first | (exfalso; omega) | (simp_all [two, not_isWord0]; omega))
    refine glf (tI x1.Kind) (dz fhg37_4) rfl rfl rfl rfl fa106_0 rfl rfl st3 (gF (dz fhg37_4) rfl rfl (xeq (tv (tI x1.Kind) rfl) (VEv.int .i64 5)) (fO (OF.pickF (VEv.tmpB rfl (dz fhg37_4)) (tv (tB (decide (x1.Kind = 5))) rfl)) (aO (tB (decide (x1.Kind = 5))) rfl (nt (sq (sr (lf (tI x1.Kind) rfl fa106_0 rfl rfl st3 (fO (xeq (tv (tI x1.Kind) rfl) (VEv.int .i64 1)) (nt (cg (dz fhg28_3) rfl (sk ?_)))))))))))
    refine tn (sq (sr (lf (tI x1.A) rfl fa106_2 rfl rfl st3 (mO (tN i) rfl (fO (B.sub (n := (((i : Nat) : Int) - 1)) (tv (tN i) rfl) (VEv.int .i64 1) (by (rw [wrap64 (by omega)]; done))) (cO (cS (vc (tv (tI x1.A) rfl) (vc (VEv.int .i64 0) (vc (tv (tI (((i : Nat) : Int) - 1)) rfl) vn))) (lps rfl) (W_spec_l1In (n + 1) x1.A 0 (((i : Nat) : Int) - 1) ) rfl rfl) (fO (xnot (tv (tB (decide (0 ≤ x1.A ∧ x1.A ≤ (((i : Nat) : Int) - 1)))) rfl)) (mO (tB (!(decide (0 ≤ x1.A ∧ x1.A ≤ (((i : Nat) : Int) - 1))))) rfl ?_))))))))
    refine gn (0 ≤ x1.A ∧ x1.A ≤ (((i : Nat) : Int) - 1)) (fun fhg59_7 => ?_) fun fhg59_7 => ?_
    · refine offs 2 6 false 59 (ny fhg59_7) rfl rfl rfl ?_
      refine offu 6 8 true 61 rfl rfl rfl (oO rfl rfl (ny fhg59_7) (fO (OF.pickT (VEv.tmpB rfl (ny fhg59_7)) (VEv.bool true)) (mO (tB true) rfl (offs 3 17 false 70 (b := true) rfl rfl rfl rfl (offu 3 20 true 73 rfl rfl rfl (VRunO.off (VWant.not (b := true) rfl rfl rfl) (fO (OF.pickT (tv (tB true) rfl) (VEv.bool true)) (nt (ct rfl (sr (fO (OF.assign (VEv.bool false)) ?_)))))))))))
      refine nt (rt (tr (vb (b' := false) rfl ?_)))
      (symm; rw [decide_eq_false_iff_not, stepOk_iff hx1]; rintro ⟨h1, h2, h3⟩; by_cases hk : x1.Kind = 1 <;> simp only [hk, two] at * <;> first | (simp_all [not_isWord0]; done) | (simp_all [not_isWord0]; omega))
    refine gF (nz fhg59_7) rfl rfl (OF.move (tv (tB (decide (x1.Kind = 5))) rfl)) (gF (nz fhg59_7) rfl rfl (OF.move (tv (tB (decide (x1.Kind = 5))) rfl)) ?_)
    refine gw (x1.Kind = 5) (fun fhg61_8 => ?_) fun fhg61_8 => ?_
    · refine glf (tI x1.B) (dy fhg61_8) rfl rfl rfl rfl fa106_3 rfl rfl st3 ?_
      refine gF (dy fhg61_8) rfl rfl (OF.move (tv (tN i) rfl)) (gF (dy fhg61_8) rfl rfl (B.sub (n := (((i : Nat) : Int) - 1)) (tv (tN i) rfl) (VEv.int .i64 1) (by (rw [wrap64 (by omega)]; done))) (VRunO.chain (VWant.on rfl rfl (dy fhg61_8)) (cS (vc (tv (tI x1.B) rfl) (vc (VEv.int .i64 0) (vc (tv (tI (((i : Nat) : Int) - 1)) rfl) vn))) (lps rfl) (W_spec_l1In (n + 1) x1.B 0 (((i : Nat) : Int) - 1) ) rfl rfl) (gF (dy fhg61_8) rfl rfl (xnot (tv (tB (decide (0 ≤ x1.B ∧ x1.B ≤ (((i : Nat) : Int) - 1)))) rfl)) (gF (nz fhg59_7) rfl rfl (OF.pickT (VEv.tmpB rfl (dy fhg61_8)) (tv (tB (!(decide (0 ≤ x1.B ∧ x1.B ≤ (((i : Nat) : Int) - 1))))) rfl)) (fO (OF.pickF (VEv.tmpB rfl (nz fhg59_7)) (tv (tB (!(decide (0 ≤ x1.B ∧ x1.B ≤ (((i : Nat) : Int) - 1))))) rfl)) (mO (tB (!(decide (0 ≤ x1.B ∧ x1.B ≤ (((i : Nat) : Int) - 1))))) rfl ?_))))))
      refine gn (0 ≤ x1.B ∧ x1.B ≤ (((i : Nat) : Int) - 1)) (fun fhg70_9 => ?_) fun fhg70_9 => ?_
      · refine offs 3 17 false 70 (ny fhg70_9) rfl rfl rfl ?_
        refine offu 3 20 true 73 rfl rfl rfl (oO rfl rfl (ny fhg70_9) (fO (OF.pickT (VEv.tmpB rfl (ny fhg70_9)) (VEv.bool true)) (nt (ct rfl (sr (fO (OF.assign (VEv.bool false)) (nt (rt (tr (vb (b' := false) rfl ?_))))))))))
        (symm; rw [decide_eq_false_iff_not, stepOk_iff hx1]; rintro ⟨h1, h2, h3⟩; by_cases hk : x1.Kind = 1 <;> simp only [hk, two] at * <;> first | omega | (simp_all [not_isWord0]; omega))
      refine gF (nz fhg70_9) rfl rfl (OF.move (tv (tB (decide (x1.Kind = 5))) rfl)) (gF (nz fhg70_9) rfl rfl (xnot (tv (tB (decide (x1.Kind = 5))) rfl)) (gF (nz fhg70_9) rfl rfl (OF.move (tv (tB (!(decide (x1.Kind = 5)))) rfl)) (offs 3 20 true 73 (nkT (dy fhg61_8)) rfl rfl rfl (gF (nz fhg70_9) rfl rfl (OF.pickF (VEv.tmpB rfl (nkT (dy fhg61_8))) (VEv.bool false)) (fO (OF.pickF (VEv.tmpB rfl (nz fhg70_9)) (tv (tB false) rfl)) (nt (cf rfl (sk (tn (sr (mO (tB (decide (x1.Kind = 5))) rfl ?_)))))))))))
      refine mO (tB (decide (x1.Kind = 5))) rfl (offs 3 1 false 80 (dy fhg61_8) rfl rfl rfl (fO (OF.pickT (VEv.tmpB rfl (dy fhg61_8)) (VEv.bool true)) (mO (tB true) rfl (offs 7 6 false 85 (b := true) rfl rfl rfl rfl (fO (OF.pickT (tv (tB true) rfl) (VEv.bool true)) (aO (tB true) rfl (nt (rt (vb (b' := true) rfl ?_)))))))))
      (symm; rw [decide_eq_true_eq, stepOk_iff hx1]; refine ⟨by omega, fun hk => ?_, fun hk => ?_⟩ <;> first | (exfalso; omega) | (simp_all [two, not_isWord0]; omega))
    refine offs 6 8 true 61 (dz fhg61_8) rfl rfl rfl (gF (nz fhg59_7) rfl rfl (OF.pickF (VEv.tmpB rfl (dz fhg61_8)) (VEv.bool false)) (fO (OF.pickF (VEv.tmpB rfl (nz fhg59_7)) (tv (tB false) rfl)) (mO (tB false) rfl (VRunO.free (VWant.on (b := false) rfl rfl rfl) (OF.move (tv (tB (decide (x1.Kind = 5))) rfl)) (VRunO.free (VWant.on (b := false) rfl rfl rfl) (xnot (tv (tB (decide (x1.Kind = 5))) rfl)) (VRunO.free (VWant.on (b := false) rfl rfl rfl) (OF.move (tv (tB (!(decide (x1.Kind = 5)))) rfl)) (glf (tI x1.B) (nkF (dz fhg61_8)) rfl rfl rfl rfl fa106_3 rfl rfl st3 (gF (nkF (dz fhg61_8)) rfl rfl (xne (tv (tI x1.B) rfl) (VEv.int .i64 0)) (VRunO.free (VWant.on (b := false) rfl rfl rfl) (OF.pickT (VEv.tmpB rfl (nkF (dz fhg61_8))) (tv (tB (!(decide (x1.B = 0)))) rfl)) (fO (OF.pickF (tv (tB false) rfl) (tv (tB (!(decide (x1.B = 0)))) rfl)) (nt ?_)))))))))))
    refine cn (x1.B = 0) rfl (fun fhc2 => ?_) fun fhc2 => ?_
    · refine sr ?_
      refine fO (OF.assign (VEv.bool false)) (nt (rt (tr (vb (b' := false) rfl ?_))))
      (symm; rw [decide_eq_false_iff_not, stepOk_iff hx1]; rintro ⟨h1, h2, h3⟩; by_cases hk : x1.Kind = 1 <;> simp only [hk, two] at * <;> (simp_all [not_isWord0]; done))
    refine sk (tn (sr (mO (tB (decide (x1.Kind = 5))) rfl (mO (tB (decide (x1.Kind = 5))) rfl (glf (tI x1.Kind) (dz fhg61_8) rfl rfl rfl rfl fa106_0 rfl rfl st3 (gF (dz fhg61_8) rfl rfl (xeq (tv (tI x1.Kind) rfl) (VEv.int .i64 2)) (fO (OF.pickF (VEv.tmpB rfl (dz fhg61_8)) (tv (tB (decide (x1.Kind = 2))) rfl)) (mO (tB (decide (x1.Kind = 2))) rfl ?_))))))))
    refine gw (x1.Kind = 2) (fun fhg85_10 => ?_) fun fhg85_10 => ?_
    · refine offs 7 6 false 85 (dy fhg85_10) rfl rfl rfl ?_
      refine fO (OF.pickT (VEv.tmpB rfl (dy fhg85_10)) (VEv.bool true)) (aO (tB true) rfl (nt (rt (vb (b' := true) rfl ?_))))
      (symm; rw [decide_eq_true_eq, stepOk_iff hx1]; refine ⟨by omega, fun hk => ?_, fun hk => ?_⟩ <;> first | (exfalso; omega) | (simp_all [two, not_isWord0]; omega))
    refine gF (dz fhg85_10) rfl rfl (OF.move (tv (rd 4 eStep a) rfl)) (glf (tI x1.A) (dz fhg85_10) rfl rfl rfl rfl fa106_2 rfl rfl st3 ?_)
    obtain ⟨x2, hx2⟩ : ∃ x, a[(Int.toNat x1.A)]? = some x := ⟨_, List.getElem?_eq_getElem (by omega)⟩
    refine gF (dz fhg85_10) rfl rfl (OF.indexAddrR (row := (eStep false x2)) (i := (Int.toNat x1.A)) (tv (rd 4 eStep a) rfl) (tv (tI x1.A) rfl) (by omega) (map_at _ hx2) U62 sz106 if106) (glr (tI x2.Kind) (dz fhg85_10) rfl rfl rfl rfl (lb rfl) fa106_0 rfl st3 (gF (dz fhg85_10) rfl rfl (xeq (tv (tI x2.Kind) rfl) (VEv.int .i64 1)) (fO (OF.pickF (VEv.tmpB rfl (dz fhg85_10)) (tv (tB (decide (x2.Kind = 1))) rfl)) (aO (tB (decide (x2.Kind = 1))) rfl (nt (rt (vb (b' := (decide (x2.Kind = 1))) rfl ?_)))))))
    (refine l15_a hx1 hx2 ?_ ?_ ?_ ?_ ?_ ?_ ?_ <;> first | assumption | omega | (simp only [two]; omega))
  refine oD rfl rfl (nz fhg28_3) rfl (oD rfl rfl (nz fhg28_3) rfl (oD rfl rfl (nz fhg28_3) rfl (VRunD.free rfl (VWant.on rfl rfl hg24_2) rfl (OF.pickF (VEv.tmpB rfl (nz fhg28_3)) (VEv.bool false)) (fD (OF.pickF (VEv.tmpB rfl hg24_2) (tv (tB false) rfl)) rfl rfl (VRunD.nil (tn (cf rfl (sk (tn (sr (lf (tI x1.Kind) rfl fa106_0 rfl rfl st3 ?_)))))))))))
  refine fO (xeq (tv (tI x1.Kind) rfl) (VEv.int .i64 4)) (mO (tB (decide (x1.Kind = 4))) rfl ?_)
  refine gw (x1.Kind = 4) (fun fhg37_11 => ?_) fun fhg37_11 => ?_
  · refine offs 3 3 false 37 (dy fhg37_11) rfl rfl rfl ?_
    refine fO (OF.pickT (VEv.tmpB rfl (dy fhg37_11)) (VEv.bool true)) (aO (tB true) rfl (nt (sq (sr (lf (tI x1.Kind) rfl fa106_0 rfl rfl st3 (fO (xeq (tv (tI x1.Kind) rfl) (VEv.int .i64 1)) (nt (ck (dy fhg28_3) rfl (sr (lf (tI x1.A) rfl fa106_2 rfl rfl st3 (fO (xeq (tv (tI x1.A) rfl) (VEv.int .i64 0)) ?_)))))))))))
    refine mO (tB (decide (x1.A = 0))) rfl ?_
    refine gw (x1.A = 0) (fun fhg48_12 => ?_) fun fhg48_12 => ?_
    · refine glf (tI x1.B) (dy fhg48_12) rfl rfl rfl rfl fa106_3 rfl rfl st3 ?_
      refine gF (dy fhg48_12) rfl rfl (xeq (tv (tI x1.B) rfl) (VEv.int .i64 0)) (fO (OF.pickT (VEv.tmpB rfl (dy fhg48_12)) (tv (tB (decide (x1.B = 0))) rfl)) (aO (tB (decide (x1.B = 0))) rfl (nt (rt (tr (vb (b' := (decide (x1.B = 0))) rfl ?_))))))
      (exfalso; omega)
    refine offs 3 3 true 48 (dz fhg48_12) rfl rfl rfl (fO (OF.pickF (VEv.tmpB rfl (dz fhg48_12)) (VEv.bool false)) (aO (tB false) rfl (nt (rt (tr (vb (b' := false) rfl ?_))))))
    (exfalso; omega)
  refine glf (tI x1.Kind) (dz fhg37_11) rfl rfl rfl rfl fa106_0 rfl rfl st3 (gF (dz fhg37_11) rfl rfl (xeq (tv (tI x1.Kind) rfl) (VEv.int .i64 5)) (fO (OF.pickF (VEv.tmpB rfl (dz fhg37_11)) (tv (tB (decide (x1.Kind = 5))) rfl)) (aO (tB (decide (x1.Kind = 5))) rfl (nt (sq (sr (lf (tI x1.Kind) rfl fa106_0 rfl rfl st3 (fO (xeq (tv (tI x1.Kind) rfl) (VEv.int .i64 1)) (nt (ck (dy fhg28_3) rfl (sr ?_)))))))))))
  refine lf (tI x1.A) rfl fa106_2 rfl rfl st3 (fO (xeq (tv (tI x1.A) rfl) (VEv.int .i64 0)) (mO (tB (decide (x1.A = 0))) rfl ?_))
  refine gw (x1.A = 0) (fun fhg48_13 => ?_) fun fhg48_13 => ?_
  · refine glf (tI x1.B) (dy fhg48_13) rfl rfl rfl rfl fa106_3 rfl rfl st3 ?_
    refine gF (dy fhg48_13) rfl rfl (xeq (tv (tI x1.B) rfl) (VEv.int .i64 0)) (fO (OF.pickT (VEv.tmpB rfl (dy fhg48_13)) (tv (tB (decide (x1.B = 0))) rfl)) (aO (tB (decide (x1.B = 0))) rfl (nt (rt (tr (vb (b' := (decide (x1.B = 0))) rfl ?_))))))
    (refine l15_b hx1 ?_ ?_ ?_ ?_ <;> first | assumption | (simp_all; done))
  refine offs 3 3 true 48 (dz fhg48_13) rfl rfl rfl (fO (OF.pickF (VEv.tmpB rfl (dz fhg48_13)) (VEv.bool false)) (aO (tB false) rfl (nt (rt (tr (vb (b' := false) rfl ?_))))))
  (symm; rw [decide_eq_false_iff_not, stepOk_iff hx1]; rintro ⟨h1, h2, h3⟩; by_cases hk : x1.Kind = 1 <;> simp only [hk, two] at * <;> (simp_all [not_isWord0]; done))
theorem W_spec_IsPlay (n : Nat) (a : List D.Step) (hz : zL zStep a ≤ mx) : Pure (acall Try.prog (n + 4)) 90 [(rd 4 eStep a)] (tB (decide (isPlay a))) := by
  refine Pure.intro (rs := [ResultVar.tmp 2]) Try.func90 rfl rfl rfl (E0 := [(0, (rd 4 eStep a))]) rfl ?_
  obtain ⟨hlim, hmx, hmax⟩ := lims
  have ha := zL_len (z := zStep) a
  refine sr (fO (OF.assign (VEv.bool false)) (nt (sq (sr (fO (OF.assign (VEv.int .i64 0)) (nt (VRun.block ?_)))))))
  refine VRun.loop (A := Nat) (fun s_ => [(0, (rd 4 eStep a)), (3, (tN s_))]) (fun s_ => mkO []) 0 (fun s_ => s_ ≤ a.length ∧ ∀ j, j < s_ → stepOk a j) (fun s_ => a.length - s_) (0 : Nat) ?_ (Wk.mk (fun k => k) ?_ ?_ ?_) ?_
  · exact ⟨Nat.zero_le _, fun j hj => by omega⟩
  · exact (b2 (b2 bn))
  · exact bn
  · exact nd rfl
  rintro i (hI' : i ≤ a.length ∧ ∀ j, j < i → stepOk a j)
  show VRun _ _ _ [(0, (rd 4 eStep a)), (3, (tN i))] (mkO []) 0 _
  have hI0 := hI'
  refine sq (sr (mO (tN i) rfl (mO (rd 4 eStep a) rfl (lO (B.lenR (m := a.length) (tv (rd 4 eStep a) rfl) U62 (List.length_map ..)) (fO (xls' (tv (tN i) rfl) (tv (tN a.length) rfl)) (mO (tB (decide (i < a.length))) rfl ?_))))))
  refine gw (i < a.length) (fun fhg8_1 => ?_) fun fhg8_1 => ?_
  · refine gF (dy fhg8_1) rfl rfl (OF.move (tv (rd 4 eStep a) rfl)) ?_
    refine gL (dy fhg8_1) rfl rfl (B.lenR (m := a.length) (tv (rd 4 eStep a) rfl) U62 (List.length_map ..)) (gF (dy fhg8_1) rfl rfl (B.leq (c := (decide (a.length ≤ 9))) (tv (tN a.length) rfl) (VEv.int .i64 9) (decN (by omega))) (fO (OF.pickT (VEv.tmpB rfl (dy fhg8_1)) (tv (tB (decide (a.length ≤ 9))) rfl)) (nt ?_)))
    refine cd (a.length ≤ 9) rfl (fun fhc0 => ?_) fun fhc0 => ?_
    · refine sk ?_
      refine tn (sq (VRun.block (sr (mO (rd 4 eStep a) rfl (mO (tN i) rfl (cO (cS (vc (tv (rd 4 eStep a) rfl) (vc (tv (tN i) rfl) vn)) (lps rfl) (W_spec_l15Ok (n + 0) a i (by assumption) (by assumption)) rfl rfl) (fO (xnot (tv (tB (decide (stepOk a i))) rfl)) (nt ?_))))))))
      refine cn (stepOk a i) rfl (fun fhc1 => ?_) fun fhc1 => ?_
      · refine sr ?_
        refine fO (OF.assign (VEv.bool false)) (nt (rt (vinB.r (tr (tr (vinB.r (tr (vb (b' := false) rfl ?_))))))))
        (symm; rw [decide_eq_false_iff_not]; rintro ⟨h1, h2⟩; exact absurd (h2 i (by omega)) (by assumption))
      refine sk (vinB.n (tn (VRun.region (mO (tN i) rfl (fO (xinc (tv (tN i) rfl) (VEv.int .i64 1) (by omega)) (aO (tN (i + 1)) rfl (VRunO.nil (tn ?_))))))))
      refine ⟨(i + 1 : Nat), ?_, ?_, Wk.mk (fun k => k) ?_ ?_ ?_⟩
      · exact allNext hI0 (by omega) (by assumption)
      · omega
      · exact (b2 (b2 bn))
      · exact bn
      · exact nd rfl
    refine VRun.exit (vthn.e (vthn.e (vinB.e (tn (sr (mO (rd 4 eStep a) rfl (lO (B.lenR (m := a.length) (tv (rd 4 eStep a) rfl) U62 (List.length_map ..)) (cO (cS (vc (tv (tN a.length) rfl) (vc (VEv.int .i64 1) (vc (VEv.int .i64 9) vn))) (lps rfl) (W_spec_l1In (n + 2) ((a.length : Nat) : Int) 1 9 ) rfl rfl) (aO (tB (decide (1 ≤ ((a.length : Nat) : Int) ∧ ((a.length : Nat) : Int) ≤ 9))) rfl (nt (rt ?_)))))))))))
    refine vb (b' := (decide (1 ≤ ((a.length : Nat) : Int) ∧ ((a.length : Nat) : Int) ≤ 9))) rfl ?_
    (refine decN ⟨fun h => ⟨by omega, allEnd hI' (by omega)⟩, fun h => by have := h.1; omega⟩)
  refine offs 3 4 true 8 (dz fhg8_1) rfl rfl rfl (fO (OF.pickF (VEv.tmpB rfl (dz fhg8_1)) (VEv.bool false)) (nt (cf rfl (VRun.exit (vthn.e (vthn.e (vinB.e (tn (sr (mO (rd 4 eStep a) rfl (lO (B.lenR (m := a.length) (tv (rd 4 eStep a) rfl) U62 (List.length_map ..)) ?_)))))))))))
  refine cO (cS (vc (tv (tN a.length) rfl) (vc (VEv.int .i64 1) (vc (VEv.int .i64 9) vn))) (lps rfl) (W_spec_l1In (n + 2) ((a.length : Nat) : Int) 1 9 ) rfl rfl) (aO (tB (decide (1 ≤ ((a.length : Nat) : Int) ∧ ((a.length : Nat) : Int) ≤ 9))) rfl (nt (rt (vb (b' := (decide (1 ≤ ((a.length : Nat) : Int) ∧ ((a.length : Nat) : Int) ≤ 9))) rfl ?_))))
  (refine decN ⟨fun h => ⟨by omega, allEnd hI' (by omega)⟩, fun h => by have := h.1; omega⟩)
theorem W_impl_IsPlay (n : Nat) (a : List D.Step) (hz : zL zStep a ≤ mx) : Pure (acall Try.prog (n + 3)) 93 [(rd 4 eStep a)] (tB (decide (isPlay a))) := by
  refine Pure.intro (rs := [ResultVar.tmp 2]) Try.func93 rfl rfl rfl (E0 := [(0, (rd 4 eStep a))]) rfl ?_
  obtain ⟨hlim, hmx, hmax⟩ := lims
  have ha := zL_len (z := zStep) a
  have hw : ∀ x ∈ a, x.Word.size ≤ maxLen := fun x hx => by have h1 := zL_mem (z := zStep) hx; simp only [zStep] at h1; omega
  refine sr (fO (OF.assign (VEv.bool false)) (nt (sq (sr (mO (rd 4 eStep a) rfl (lO (B.lenR (m := a.length) (tv (rd 4 eStep a) rfl) U62 (List.length_map ..)) (cO (cS (vc (tv (tN a.length) rfl) (vc (VEv.int .i64 1) (vc (VEv.int .i64 9) vn))) (lps rfl) (W_impl_InRange (n + 1) ((a.length : Nat) : Int) 1 9 ) rfl rfl) (fO (xnot (tv (tB (decide (1 ≤ ((a.length : Nat) : Int) ∧ ((a.length : Nat) : Int) ≤ 9))) rfl)) (nt ?_)))))))))
  refine cn (1 ≤ ((a.length : Nat) : Int) ∧ ((a.length : Nat) : Int) ≤ 9) rfl (fun fhc0 => ?_) fun fhc0 => ?_
  · refine sr ?_
    refine fO (OF.assign (VEv.bool false)) (nt (rt (tr (vb (b' := false) rfl ?_))))
    (symm; rw [decide_eq_false_iff_not]; rintro ⟨h1, h2⟩; (exfalso; omega))
  refine sk (tn (sq (sr (mO (rd 4 eStep a) rfl (lO (B.lenR (m := a.length) (tv (rd 4 eStep a) rfl) U62 (List.length_map ..)) (fO (OF.move (VEv.int .i64 0)) (nt (VRun.block ?_))))))))
  refine VRun.loop (A := Nat) (fun s_ => [(0, (rd 4 eStep a)), (9, (rd 4 eStep a)), (10, (tN a.length)), (11, (tN s_))]) (fun s_ => mkO []) 0 (fun s_ => s_ ≤ a.length ∧ ∀ j, j < s_ → stepOk a j) (fun s_ => a.length - s_) (0 : Nat) ?_ (Wk.mk (fun k => k) ?_ ?_ ?_) ?_
  · exact ⟨Nat.zero_le _, fun j hj => by omega⟩
  · exact (b2 (b2 (b2 (b2 bn))))
  · exact bn
  · exact nd rfl
  rintro i (hI' : i ≤ a.length ∧ ∀ j, j < i → stepOk a j)
  show VRun _ _ _ [(0, (rd 4 eStep a)), (9, (rd 4 eStep a)), (10, (tN a.length)), (11, (tN i))] (mkO []) 0 _
  have hI0 := hI'
  refine sr (fO (xls' (tv (tN i) rfl) (tv (tN a.length) rfl)) (nt (sq ?_)))
  refine cd (i < a.length) rfl (fun fhc1 => ?_) fun fhc1 => ?_
  · refine sk ?_
    refine tn (sq (VRun.block (sr (mO (tN i) rfl ?_))))
    obtain ⟨x1, hx1⟩ : ∃ x, a[i]? = some x := ⟨_, List.getElem?_eq_getElem (by omega)⟩
    refine fO (OF.indexAddrR (row := (eStep false x1)) (i := i) (tv (rd 4 eStep a) rfl) (tv (tN i) rfl) rfl (map_at _ hx1) U62 sz106 if106) (lO (OL.loadRn (us := (eStep false x1)) (tv (T.rp (eStep false x1)) rfl) st106 sz106 (lb rfl) rfl) (kO (B.alloc (t := (T.agg [(tN 0), (tS ByteArray.empty), (tN 0), (tN 0)])) (ts := [(tN 0), (tS ByteArray.empty), (tN 0), (tN 0)]) zo106 zc106 nofun (fun _ => .agg _ _ rfl (RLof (RL.cons (.int _ _) (RL.cons (.str _) (RL.cons (.int _ _) (RL.cons (.int _ _) (RL.nil _))))))) rfl) (aO (tN i) rfl (cO (B.storeO (us := (eStep false x1)) (ws := (eStep false x1)) (tv (T.op 0 0) rfl) (tv (T.agg (eStep false x1)) rfl) nofun rfl rfl (lb rfl) if106 sz106 (bc rfl (bc rfl (bc rfl (bc rfl bn)))) rfl) (nt (sq (sr (lf (tI x1.Kind) rfl fa106_0 rfl rfl st3 (cO (cS (vc (tv (tI x1.Kind) rfl) (vc (VEv.int .i64 1) (vc (VEv.int .i64 9) vn))) (lps rfl) (W_impl_InRange (n + 1) x1.Kind 1 9 ) rfl rfl) (fO (xnot (tv (tB (decide (1 ≤ x1.Kind ∧ x1.Kind ≤ 9))) rfl)) (nt ?_)))))))))))
    refine cn (1 ≤ x1.Kind ∧ x1.Kind ≤ 9) rfl (fun fhc2 => ?_) fun fhc2 => ?_
    · refine sr ?_
      refine fO (OF.assign (VEv.bool false)) (nt (rt (tr (vinB.r (tr (tr (vinB.r (tr (vb (b' := false) rfl ?_)))))))))
      (symm; rw [decide_eq_false_iff_not]; rintro ⟨h1, h2⟩; (have h3 := (stepOk_iff hx1).1 (h2 i fhc1); obtain ⟨h4, h5, h6⟩ := h3; simp only [two] at h6; omega))
    refine sk (tn (sq (sr (lf (tI x1.Kind) rfl fa106_0 rfl rfl st3 (fO (xeq (tv (tI x1.Kind) rfl) (VEv.int .i64 1)) (nt ?_))))))
    refine cd (x1.Kind = 1) rfl (fun fhc3 => ?_) fun fhc3 => ?_
    · refine sq ?_
      refine sr (lf (tS x1.Word) rfl fa106_1 rfl rfl st9 (cO (cS (vc (tv (tS x1.Word) rfl) vn) (lps rfl) (W_impl_IsWord (n + 0) x1.Word (by exact hw _ (List.mem_of_getElem? hx1))) rfl rfl) (fO (xnot (tv (tB (decide (isWord x1.Word))) rfl)) (mO (tB (!(decide (isWord x1.Word)))) rfl ?_))))
      refine gn (isWord x1.Word) (fun fhg27_1 => ?_) fun fhg27_1 => ?_
      · refine offs 3 4 false 27 (ny fhg27_1) rfl rfl rfl ?_
        refine fO (OF.pickT (VEv.tmpB rfl (ny fhg27_1)) (VEv.bool true)) (mO (tB true) rfl (offs 3 9 false 32 (b := true) rfl rfl rfl rfl (fO (OF.pickT (tv (tB true) rfl) (VEv.bool true)) (nt (ct rfl (sr (fO (OF.assign (VEv.bool false)) (nt (rt (tr (tr ?_)))))))))))
        refine vinB.r (tr (tr (vinB.r (tr (vb (b' := false) rfl ?_)))))
        (symm; rw [decide_eq_false_iff_not]; rintro ⟨h1, h2⟩; (have h3 := (stepOk_iff hx1).1 (h2 i fhc1); obtain ⟨h4, h5, h6⟩ := h3; simp only [two] at h6; (by_cases hk : x1.Kind = 1 <;> simp_all <;> omega)))
      refine glf (tI x1.A) (nz fhg27_1) rfl rfl rfl rfl fa106_2 rfl rfl st3 (gF (nz fhg27_1) rfl rfl (xne (tv (tI x1.A) rfl) (VEv.int .i64 0)) (fO (OF.pickF (VEv.tmpB rfl (nz fhg27_1)) (tv (tB (!(decide (x1.A = 0)))) rfl)) (mO (tB (!(decide (x1.A = 0)))) rfl ?_)))
      refine gn (x1.A = 0) (fun fhg32_2 => ?_) fun fhg32_2 => ?_
      · refine offs 3 9 false 32 (ny fhg32_2) rfl rfl rfl ?_
        refine fO (OF.pickT (VEv.tmpB rfl (ny fhg32_2)) (VEv.bool true)) (nt (ct rfl (sr (fO (OF.assign (VEv.bool false)) (nt (rt (tr (tr (vinB.r (tr (tr ?_)))))))))))
        refine vinB.r (tr (vb (b' := false) rfl ?_))
        (symm; rw [decide_eq_false_iff_not]; rintro ⟨h1, h2⟩; (have h3 := (stepOk_iff hx1).1 (h2 i fhc1); obtain ⟨h4, h5, h6⟩ := h3; simp only [two] at h6; omega))
      refine glf (tI x1.B) (nz fhg32_2) rfl rfl rfl rfl fa106_3 rfl rfl st3 (gF (nz fhg32_2) rfl rfl (xne (tv (tI x1.B) rfl) (VEv.int .i64 0)) (fO (OF.pickF (VEv.tmpB rfl (nz fhg32_2)) (tv (tB (!(decide (x1.B = 0)))) rfl)) (nt ?_)))
      refine cn (x1.B = 0) rfl (fun fhc4 => ?_) fun fhc4 => ?_
      · refine sr ?_
        refine fO (OF.assign (VEv.bool false)) (nt (rt (tr (tr (vinB.r (tr (tr (vinB.r (tr (vb (b' := false) rfl ?_))))))))))
        (symm; rw [decide_eq_false_iff_not]; rintro ⟨h1, h2⟩; (have h3 := (stepOk_iff hx1).1 (h2 i fhc1); obtain ⟨h4, h5, h6⟩ := h3; simp only [two] at h6; omega))
      refine sk (tn (VRun.exit (vthn.e (vinB.e (tn (VRun.region (fO (xinc (tv (tN i) rfl) (VEv.int .i64 1) (by omega)) (mO (tN (i + 1)) rfl (VRunO.nil (tn ?_))))))))))
      refine ⟨(i + 1 : Nat), ?_, ?_, Wk.mk (fun k => k) ?_ ?_ ?_⟩
      · refine allNext hI0 fhc1 ((stepOk_iff hx1).2 ?_)
        simp only [stepP, two]
        refine ⟨by omega, fun hk => ?_, fun hk => ?_⟩
        · (refine ⟨?_, ?_, ?_⟩ <;> assumption)
        · (exfalso; omega)
      · omega
      · exact (b2 (b2 (b2 (b2 bn))))
      · exact bn
      · exact nd rfl
    refine sk (tn (sq (sr (lf (tS x1.Word) rfl fa106_1 rfl rfl st9 (fO (B.sneq (c := (!(decide (x1.Word = (⟨#[]⟩ : ByteArray))))) (tv (tS x1.Word) rfl) (VEv.str (⟨#[]⟩ : ByteArray)) rfl) (mO (tB (!(decide (x1.Word = (⟨#[]⟩ : ByteArray))))) rfl ?_))))))
    refine gn (x1.Word = (⟨#[]⟩ : ByteArray)) (fun fhg40_3 => ?_) fun fhg40_3 => ?_
    · refine offs 5 3 false 40 (ny fhg40_3) rfl rfl rfl ?_
      refine fO (OF.pickT (VEv.tmpB rfl (ny fhg40_3)) (VEv.bool true)) (mO (tB true) rfl (offs 4 10 false 47 (b := true) rfl rfl rfl rfl (offu 7 14 true 51 rfl rfl rfl (VRunO.off (VWant.not (b := true) rfl rfl rfl) (fO (OF.pickT (tv (tB true) rfl) (VEv.bool true)) (nt (ct rfl (sr (fO (OF.assign (VEv.bool false)) (nt (rt ?_)))))))))))
      refine tr (vinB.r (tr (tr (vinB.r (tr (vb (b' := false) rfl ?_))))))
      (symm; rw [decide_eq_false_iff_not]; rintro ⟨h1, h2⟩; (have h3 := (stepOk_iff hx1).1 (h2 i fhc1); obtain ⟨h4, h5, h6⟩ := h3; simp only [two] at h6; (by_cases hk : x1.Kind = 1 <;> simp_all <;> omega)))
    refine glf (tI x1.A) (nz fhg40_3) rfl rfl rfl rfl fa106_2 rfl rfl st3 (gF (nz fhg40_3) rfl rfl (OF.move (tv (tN i) rfl)) (VRunO.chain (VWant.on rfl rfl (nz fhg40_3)) (cS (vc (tv (tI x1.A) rfl) (vc (tv (tN i) rfl) vn)) (lps rfl) (W_impl_at (n + 1) x1.A ((i : Nat) : Int) ) rfl rfl) (gF (nz fhg40_3) rfl rfl (xnot (tv (tB (decide (0 ≤ x1.A ∧ x1.A < ((i : Nat) : Int)))) rfl)) (fO (OF.pickF (VEv.tmpB rfl (nz fhg40_3)) (tv (tB (!(decide (0 ≤ x1.A ∧ x1.A < ((i : Nat) : Int))))) rfl)) (mO (tB (!(decide (0 ≤ x1.A ∧ x1.A < ((i : Nat) : Int))))) rfl ?_)))))
    refine gn (0 ≤ x1.A ∧ x1.A < ((i : Nat) : Int)) (fun fhg47_4 => ?_) fun fhg47_4 => ?_
    · refine offs 4 10 false 47 (ny fhg47_4) rfl rfl rfl ?_
      refine offu 7 14 true 51 rfl rfl rfl (oO rfl rfl (ny fhg47_4) (fO (OF.pickT (VEv.tmpB rfl (ny fhg47_4)) (VEv.bool true)) (nt (ct rfl (sr (fO (OF.assign (VEv.bool false)) (nt (rt (tr (vinB.r (tr ?_)))))))))))
      refine tr (vinB.r (tr (vb (b' := false) rfl ?_)))
      (symm; rw [decide_eq_false_iff_not]; rintro ⟨h1, h2⟩; (have h3 := (stepOk_iff hx1).1 (h2 i fhc1); obtain ⟨h4, h5, h6⟩ := h3; simp only [two] at h6; omega))
    refine glf (tI x1.Kind) (nz fhg47_4) rfl rfl rfl rfl fa106_0 rfl rfl st3 (VRunO.chain (VWant.on rfl rfl (nz fhg47_4)) (cS (vc (tv (tI x1.Kind) rfl) vn) (lps rfl) (W_impl_needsWord (n + 1) x1.Kind ) rfl rfl) (gF (nz fhg47_4) rfl rfl (OF.move (tv (tB (decide (x1.Kind = 3 ∨ 6 ≤ x1.Kind))) rfl)) ?_))
    refine gw (x1.Kind = 3 ∨ 6 ≤ x1.Kind) (fun fhg51_5 => ?_) fun fhg51_5 => ?_
    · refine gF (dy fhg51_5) rfl rfl (OF.move (tv (rd 4 eStep a) rfl)) ?_
      refine glf (tI x1.A) (dy fhg51_5) rfl rfl rfl rfl fa106_2 rfl rfl st3 ?_
      obtain ⟨x2, hx2⟩ : ∃ x, a[(Int.toNat x1.A)]? = some x := ⟨_, List.getElem?_eq_getElem (by omega)⟩
      refine gF (dy fhg51_5) rfl rfl (OF.indexAddrR (row := (eStep false x2)) (i := (Int.toNat x1.A)) (tv (rd 4 eStep a) rfl) (tv (tI x1.A) rfl) (by omega) (map_at _ hx2) U62 sz106 if106) (glr (tI x2.Kind) (dy fhg51_5) rfl rfl rfl rfl (lb rfl) fa106_0 rfl st3 (gF (dy fhg51_5) rfl rfl (xne (tv (tI x2.Kind) rfl) (VEv.int .i64 1)) (gF (nz fhg47_4) rfl rfl (OF.pickT (VEv.tmpB rfl (dy fhg51_5)) (tv (tB (!(decide (x2.Kind = 1)))) rfl)) (fO (OF.pickF (VEv.tmpB rfl (nz fhg47_4)) (tv (tB (!(decide (x2.Kind = 1)))) rfl)) (nt ?_)))))
      refine cn (x2.Kind = 1) rfl (fun fhc5 => ?_) fun fhc5 => ?_
      · refine sr ?_
        refine fO (OF.assign (VEv.bool false)) (nt (rt (tr (vinB.r (tr (tr (vinB.r (tr (vb (b' := false) rfl ?_)))))))))
        (symm; rw [decide_eq_false_iff_not]; rintro ⟨h1, h2⟩; (have h3 := (stepOk_iff hx1).1 (h2 i fhc1); obtain ⟨h4, h5, h6⟩ := h3; simp only [two] at h6; (by_cases hk : x1.Kind = 1 <;> simp_all <;> omega)))
      refine sk (tn (sr (lf (tI x1.Kind) rfl fa106_0 rfl rfl st3 (cO (cS (vc (tv (tI x1.Kind) rfl) vn) (lps rfl) (W_impl_isPair (n + 1) x1.Kind ) rfl rfl) (mO (tB (decide (x1.Kind = 4 ∨ x1.Kind = 5))) rfl ?_)))))
      refine gw (x1.Kind = 4 ∨ x1.Kind = 5) (fun fhg64_6 => ?_) fun fhg64_6 => ?_
      · refine glf (tI x1.B) (dy fhg64_6) rfl rfl rfl rfl fa106_3 rfl rfl st3 ?_
        refine gF (dy fhg64_6) rfl rfl (OF.move (tv (tN i) rfl)) (VRunO.chain (VWant.on rfl rfl (dy fhg64_6)) (cS (vc (tv (tI x1.B) rfl) (vc (tv (tN i) rfl) vn)) (lps rfl) (W_impl_at (n + 1) x1.B ((i : Nat) : Int) ) rfl rfl) (gF (dy fhg64_6) rfl rfl (xnot (tv (tB (decide (0 ≤ x1.B ∧ x1.B < ((i : Nat) : Int)))) rfl)) (fO (OF.pickT (VEv.tmpB rfl (dy fhg64_6)) (tv (tB (!(decide (0 ≤ x1.B ∧ x1.B < ((i : Nat) : Int))))) rfl)) (mO (tB (!(decide (0 ≤ x1.B ∧ x1.B < ((i : Nat) : Int))))) rfl ?_))))
        refine gn (0 ≤ x1.B ∧ x1.B < ((i : Nat) : Int)) (fun fhg71_7 => ?_) fun fhg71_7 => ?_
        · refine offs 5 10 false 71 (ny fhg71_7) rfl rfl rfl ?_
          refine offu 3 15 true 76 rfl rfl rfl (oO rfl rfl (ny fhg71_7) (fO (OF.pickT (VEv.tmpB rfl (ny fhg71_7)) (VEv.bool true)) (nt (ct rfl (sr (fO (OF.assign (VEv.bool false)) (nt (rt (vinB.r (tr (tr ?_)))))))))))
          refine vinB.r (tr (vb (b' := false) rfl ?_))
          (symm; rw [decide_eq_false_iff_not]; rintro ⟨h1, h2⟩; (exfalso; omega))
        refine glf (tI x1.Kind) (nz fhg71_7) rfl rfl rfl rfl fa106_0 rfl rfl st3 (VRunO.chain (VWant.on rfl rfl (nz fhg71_7)) (cS (vc (tv (tI x1.Kind) rfl) vn) (lps rfl) (W_impl_isPair (n + 1) x1.Kind ) rfl rfl) (gF (nz fhg71_7) rfl rfl (xnot (tv (tB (decide (x1.Kind = 4 ∨ x1.Kind = 5))) rfl)) (gF (nz fhg71_7) rfl rfl (OF.move (tv (tB (!(decide (x1.Kind = 4 ∨ x1.Kind = 5)))) rfl)) (offs 3 15 true 76 (nkT (dy fhg64_6)) rfl rfl rfl (gF (nz fhg71_7) rfl rfl (OF.pickF (VEv.tmpB rfl (nkT (dy fhg64_6))) (VEv.bool false)) (fO (OF.pickF (VEv.tmpB rfl (nz fhg71_7)) (tv (tB false) rfl)) (nt (cf rfl (sk (vinB.n (tn ?_)))))))))))
        refine VRun.region (fO (xinc (tv (tN i) rfl) (VEv.int .i64 1) (by omega)) (mO (tN (i + 1)) rfl (VRunO.nil (tn ?_))))
        refine ⟨(i + 1 : Nat), ?_, ?_, Wk.mk (fun k => k) ?_ ?_ ?_⟩
        · refine allNext hI0 fhc1 ((stepOk_iff hx1).2 ?_)
          simp only [stepP, two]
          refine ⟨by omega, fun hk => ?_, fun hk => ?_⟩
          · (exfalso; omega)
          · (exfalso; omega)
        · omega
        · exact (b2 (b2 (b2 (b2 bn))))
        · exact bn
        · exact nd rfl
      refine offs 5 3 true 64 (dz fhg64_6) rfl rfl rfl (fO (OF.pickF (VEv.tmpB rfl (dz fhg64_6)) (VEv.bool false)) (mO (tB false) rfl (VRunO.free (VWant.on (b := false) rfl rfl rfl) (OF.fieldAddrO (tv (T.op 0 0) rfl) fa106_0) (VRunO.look (VWant.on (b := false) rfl rfl rfl) (OL.loadO1 (t := (tI x1.Kind)) (tv (T.op 0 0) rfl) rfl rfl st3) (VRunO.chain (VWant.on (b := false) rfl rfl rfl) (cS (vc (tv (tI x1.Kind) rfl) vn) (lps rfl) (W_impl_isPair (n + 1) x1.Kind ) rfl rfl) (VRunO.free (VWant.on (b := false) rfl rfl rfl) (xnot (tv (tB (decide (x1.Kind = 4 ∨ x1.Kind = 5))) rfl)) (VRunO.free (VWant.on (b := false) rfl rfl rfl) (OF.move (tv (tB (!(decide (x1.Kind = 4 ∨ x1.Kind = 5)))) rfl)) (glf (tI x1.B) (nkF (dz fhg64_6)) rfl rfl rfl rfl fa106_3 rfl rfl st3 (gF (nkF (dz fhg64_6)) rfl rfl (xne (tv (tI x1.B) rfl) (VEv.int .i64 0)) (VRunO.free (VWant.on (b := false) rfl rfl rfl) (OF.pickT (VEv.tmpB rfl (nkF (dz fhg64_6))) (tv (tB (!(decide (x1.B = 0)))) rfl)) (fO (OF.pickF (tv (tB false) rfl) (tv (tB (!(decide (x1.B = 0)))) rfl)) ?_)))))))))))
      refine nt ?_
      refine cn (x1.B = 0) rfl (fun fhc6 => ?_) fun fhc6 => ?_
      · refine sr ?_
        refine fO (OF.assign (VEv.bool false)) (nt (rt (vinB.r (tr (tr (vinB.r (tr (vb (b' := false) rfl ?_))))))))
        (symm; rw [decide_eq_false_iff_not]; rintro ⟨h1, h2⟩; (have h3 := (stepOk_iff hx1).1 (h2 i fhc1); obtain ⟨h4, h5, h6⟩ := h3; simp only [two] at h6; omega))
      refine sk (vinB.n (tn (VRun.region (fO (xinc (tv (tN i) rfl) (VEv.int .i64 1) (by omega)) (mO (tN (i + 1)) rfl (VRunO.nil (tn ?_)))))))
      refine ⟨(i + 1 : Nat), ?_, ?_, Wk.mk (fun k => k) ?_ ?_ ?_⟩
      · refine allNext hI0 fhc1 ((stepOk_iff hx1).2 ?_)
        simp only [stepP, two]
        refine ⟨by omega, fun hk => ?_, fun hk => ?_⟩
        · (exfalso; omega)
        · (refine ⟨?_, ?_, fun h => ?_, fun h => ?_, fun h1 h2 => ?_⟩ <;> first | assumption | omega | (refine ⟨x2, hx2, ?_⟩; omega))
      · omega
      · exact (b2 (b2 (b2 (b2 bn))))
      · exact bn
      · exact nd rfl
    refine offs 7 14 true 51 (dz fhg51_5) rfl rfl rfl (gF (nz fhg47_4) rfl rfl (OF.pickF (VEv.tmpB rfl (dz fhg51_5)) (VEv.bool false)) (fO (OF.pickF (VEv.tmpB rfl (nz fhg47_4)) (tv (tB false) rfl)) (nt (cf rfl (sk (tn (sr (lf (tI x1.Kind) rfl fa106_0 rfl rfl st3 (cO (cS (vc (tv (tI x1.Kind) rfl) vn) (lps rfl) (W_impl_isPair (n + 1) x1.Kind ) rfl rfl) (mO (tB (decide (x1.Kind = 4 ∨ x1.Kind = 5))) rfl ?_))))))))))
    refine gw (x1.Kind = 4 ∨ x1.Kind = 5) (fun fhg64_8 => ?_) fun fhg64_8 => ?_
    · refine glf (tI x1.B) (dy fhg64_8) rfl rfl rfl rfl fa106_3 rfl rfl st3 ?_
      refine gF (dy fhg64_8) rfl rfl (OF.move (tv (tN i) rfl)) (VRunO.chain (VWant.on rfl rfl (dy fhg64_8)) (cS (vc (tv (tI x1.B) rfl) (vc (tv (tN i) rfl) vn)) (lps rfl) (W_impl_at (n + 1) x1.B ((i : Nat) : Int) ) rfl rfl) (gF (dy fhg64_8) rfl rfl (xnot (tv (tB (decide (0 ≤ x1.B ∧ x1.B < ((i : Nat) : Int)))) rfl)) (fO (OF.pickT (VEv.tmpB rfl (dy fhg64_8)) (tv (tB (!(decide (0 ≤ x1.B ∧ x1.B < ((i : Nat) : Int))))) rfl)) (mO (tB (!(decide (0 ≤ x1.B ∧ x1.B < ((i : Nat) : Int))))) rfl ?_))))
      refine gn (0 ≤ x1.B ∧ x1.B < ((i : Nat) : Int)) (fun fhg71_9 => ?_) fun fhg71_9 => ?_
      · refine offs 5 10 false 71 (ny fhg71_9) rfl rfl rfl ?_
        refine offu 3 15 true 76 rfl rfl rfl (oO rfl rfl (ny fhg71_9) (fO (OF.pickT (VEv.tmpB rfl (ny fhg71_9)) (VEv.bool true)) (nt (ct rfl (sr (fO (OF.assign (VEv.bool false)) (nt (rt (vinB.r (tr (tr ?_)))))))))))
        refine vinB.r (tr (vb (b' := false) rfl ?_))
        (symm; rw [decide_eq_false_iff_not]; rintro ⟨h1, h2⟩; (have h3 := (stepOk_iff hx1).1 (h2 i fhc1); obtain ⟨h4, h5, h6⟩ := h3; simp only [two] at h6; omega))
      refine glf (tI x1.Kind) (nz fhg71_9) rfl rfl rfl rfl fa106_0 rfl rfl st3 (VRunO.chain (VWant.on rfl rfl (nz fhg71_9)) (cS (vc (tv (tI x1.Kind) rfl) vn) (lps rfl) (W_impl_isPair (n + 1) x1.Kind ) rfl rfl) (gF (nz fhg71_9) rfl rfl (xnot (tv (tB (decide (x1.Kind = 4 ∨ x1.Kind = 5))) rfl)) (gF (nz fhg71_9) rfl rfl (OF.move (tv (tB (!(decide (x1.Kind = 4 ∨ x1.Kind = 5)))) rfl)) (offs 3 15 true 76 (nkT (dy fhg64_8)) rfl rfl rfl (gF (nz fhg71_9) rfl rfl (OF.pickF (VEv.tmpB rfl (nkT (dy fhg64_8))) (VEv.bool false)) (fO (OF.pickF (VEv.tmpB rfl (nz fhg71_9)) (tv (tB false) rfl)) (nt (cf rfl (sk (vinB.n (tn ?_)))))))))))
      refine VRun.region (fO (xinc (tv (tN i) rfl) (VEv.int .i64 1) (by omega)) (mO (tN (i + 1)) rfl (VRunO.nil (tn ?_))))
      refine ⟨(i + 1 : Nat), ?_, ?_, Wk.mk (fun k => k) ?_ ?_ ?_⟩
      · refine allNext hI0 fhc1 ((stepOk_iff hx1).2 ?_)
        simp only [stepP, two]
        refine ⟨by omega, fun hk => ?_, fun hk => ?_⟩
        · (exfalso; omega)
        · (refine ⟨?_, ?_, fun h => ?_, fun h => ?_, fun h1 h2 => ?_⟩ <;> first | assumption | omega)
      · omega
      · exact (b2 (b2 (b2 (b2 bn))))
      · exact bn
      · exact nd rfl
    refine offs 5 3 true 64 (dz fhg64_8) rfl rfl rfl (fO (OF.pickF (VEv.tmpB rfl (dz fhg64_8)) (VEv.bool false)) (mO (tB false) rfl (VRunO.free (VWant.on (b := false) rfl rfl rfl) (OF.fieldAddrO (tv (T.op 0 0) rfl) fa106_0) (VRunO.look (VWant.on (b := false) rfl rfl rfl) (OL.loadO1 (t := (tI x1.Kind)) (tv (T.op 0 0) rfl) rfl rfl st3) (VRunO.chain (VWant.on (b := false) rfl rfl rfl) (cS (vc (tv (tI x1.Kind) rfl) vn) (lps rfl) (W_impl_isPair (n + 1) x1.Kind ) rfl rfl) (VRunO.free (VWant.on (b := false) rfl rfl rfl) (xnot (tv (tB (decide (x1.Kind = 4 ∨ x1.Kind = 5))) rfl)) (VRunO.free (VWant.on (b := false) rfl rfl rfl) (OF.move (tv (tB (!(decide (x1.Kind = 4 ∨ x1.Kind = 5)))) rfl)) (glf (tI x1.B) (nkF (dz fhg64_8)) rfl rfl rfl rfl fa106_3 rfl rfl st3 (gF (nkF (dz fhg64_8)) rfl rfl (xne (tv (tI x1.B) rfl) (VEv.int .i64 0)) (VRunO.free (VWant.on (b := false) rfl rfl rfl) (OF.pickT (VEv.tmpB rfl (nkF (dz fhg64_8))) (tv (tB (!(decide (x1.B = 0)))) rfl)) (fO (OF.pickF (tv (tB false) rfl) (tv (tB (!(decide (x1.B = 0)))) rfl)) ?_)))))))))))
    refine nt ?_
    refine cn (x1.B = 0) rfl (fun fhc6 => ?_) fun fhc6 => ?_
    · refine sr ?_
      refine fO (OF.assign (VEv.bool false)) (nt (rt (vinB.r (tr (tr (vinB.r (tr (vb (b' := false) rfl ?_))))))))
      (symm; rw [decide_eq_false_iff_not]; rintro ⟨h1, h2⟩; (have h3 := (stepOk_iff hx1).1 (h2 i fhc1); obtain ⟨h4, h5, h6⟩ := h3; simp only [two] at h6; omega))
    refine sk (vinB.n (tn (VRun.region (fO (xinc (tv (tN i) rfl) (VEv.int .i64 1) (by omega)) (mO (tN (i + 1)) rfl (VRunO.nil (tn ?_)))))))
    refine ⟨(i + 1 : Nat), ?_, ?_, Wk.mk (fun k => k) ?_ ?_ ?_⟩
    · refine allNext hI0 fhc1 ((stepOk_iff hx1).2 ?_)
      simp only [stepP, two]
      refine ⟨by omega, fun hk => ?_, fun hk => ?_⟩
      · (exfalso; omega)
      · (refine ⟨?_, ?_, fun h => ?_, fun h => ?_, fun h1 h2 => ?_⟩ <;> first | assumption | omega)
    · omega
    · exact (b2 (b2 (b2 (b2 bn))))
    · exact bn
    · exact nd rfl
  refine VRun.exit (vthn.e (vthn.e (vinB.e (tn (sr (fO (OF.assign (VEv.bool true)) (nt (rt (vb (b' := true) rfl ?_)))))))))
  (symm; rw [decide_eq_true_eq]; exact ⟨by omega, allEnd hI' fhc1⟩)
end Go.Proofs.Ytfpnmphheminbaa.AE
namespace Go.Proofs.Ytfpnmphheminbaa.AE
open Go Go.RowKit
set_option linter.unusedVariables false
set_option linter.unusedSimpArgs false
set_option maxRecDepth 20000
set_option maxHeartbeats 2000000
theorem W_spec_IsClue (n : Nat) (a : D.Clue) (hz : zClue a ≤ mx) : Pure (acall Try.prog (n + 5)) 81 [(T.agg (eClue false a))] (tB (decide ((1 ≤ a.Sense ∧ a.Sense ≤ 99) ∧ isPlay a.Play))) := by
  refine Pure.intro (rs := [ResultVar.tmp 2]) Try.func81 rfl rfl rfl (E0 := [(0, (T.agg (eClue false a)))]) rfl ?_
  obtain ⟨hlim, hmx, hmax⟩ := lims
  simp only [zClue] at hz
  refine sr (kO (B.box (ts := (eClue false a)) (tv (T.agg (eClue false a)) rfl) nofun rfl) (fO (OF.assign (VEv.bool false)) (nt (sr (lf (tI a.Sense) rfl fa64_0 rfl rfl st3 (cO (cS (vc (tv (tI a.Sense) rfl) (vc (VEv.int .i64 1) (vc (VEv.int .i64 99) vn))) (lps rfl) (W_spec_l1In (n + 3) a.Sense 1 99 ) rfl rfl) (mO (tB (decide (1 ≤ a.Sense ∧ a.Sense ≤ 99))) rfl ?_)))))))
  refine gw (1 ≤ a.Sense ∧ a.Sense ≤ 99) (fun fhg6_1 => ?_) fun fhg6_1 => ?_
  · refine glf (rd 4 eStep a.Play) (dy fhg6_1) rfl rfl rfl rfl fa64_1 rfl rfl st62 ?_
    refine VRunO.chain (VWant.on rfl rfl (dy fhg6_1)) (cS (vc (tv (rd 4 eStep a.Play) rfl) vn) (lps rfl) (W_spec_IsPlay (n + 0) a.Play (by assumption)) rfl rfl) (fO (OF.pickT (VEv.tmpB rfl (dy fhg6_1)) (tv (tB (decide (isPlay a.Play))) rfl)) (aO (tB (decide (isPlay a.Play))) rfl (nt (rt (vb (b' := (decide (isPlay a.Play))) rfl ?_)))))
    (refine decN ⟨fun h => ⟨?_, h⟩, fun h => h.2⟩; assumption)
  refine offs 3 3 true 6 (dz fhg6_1) rfl rfl rfl (fO (OF.pickF (VEv.tmpB rfl (dz fhg6_1)) (VEv.bool false)) (aO (tB false) rfl (nt (rt (vb (b' := false) rfl ?_)))))
  (symm; rw [decide_eq_false_iff_not]; rintro ⟨h1, h2⟩; contradiction)
theorem W_impl_IsClue (n : Nat) (a : D.Clue) (hz : zClue a ≤ mx) : Pure (acall Try.prog (n + 4)) 84 [(T.agg (eClue false a))] (tB (decide ((1 ≤ a.Sense ∧ a.Sense ≤ 99) ∧ isPlay a.Play))) := by
  refine Pure.intro (rs := [ResultVar.tmp 2]) Try.func84 rfl rfl rfl (E0 := [(0, (T.agg (eClue false a)))]) rfl ?_
  obtain ⟨hlim, hmx, hmax⟩ := lims
  simp only [zClue] at hz
  refine sr (kO (B.box (ts := (eClue false a)) (tv (T.agg (eClue false a)) rfl) nofun rfl) (fO (OF.assign (VEv.bool false)) (nt (sr (lf (tI a.Sense) rfl fa64_0 rfl rfl st3 (cO (cS (vc (tv (tI a.Sense) rfl) (vc (VEv.int .i64 1) (vc (VEv.int .i64 99) vn))) (lps rfl) (W_impl_InRange (n + 2) a.Sense 1 99 ) rfl rfl) (mO (tB (decide (1 ≤ a.Sense ∧ a.Sense ≤ 99))) rfl ?_)))))))
  refine gw (1 ≤ a.Sense ∧ a.Sense ≤ 99) (fun fhg6_1 => ?_) fun fhg6_1 => ?_
  · refine glf (rd 4 eStep a.Play) (dy fhg6_1) rfl rfl rfl rfl fa64_1 rfl rfl st62 ?_
    refine VRunO.chain (VWant.on rfl rfl (dy fhg6_1)) (cS (vc (tv (rd 4 eStep a.Play) rfl) vn) (lps rfl) (W_impl_IsPlay (n + 0) a.Play (by assumption)) rfl rfl) (fO (OF.pickT (VEv.tmpB rfl (dy fhg6_1)) (tv (tB (decide (isPlay a.Play))) rfl)) (aO (tB (decide (isPlay a.Play))) rfl (nt (rt (vb (b' := (decide (isPlay a.Play))) rfl ?_)))))
    (refine decN ⟨fun h => ⟨?_, h⟩, fun h => h.2⟩; assumption)
  refine offs 3 3 true 6 (dz fhg6_1) rfl rfl rfl (fO (OF.pickF (VEv.tmpB rfl (dz fhg6_1)) (VEv.bool false)) (aO (tB false) rfl (nt (rt (vb (b' := false) rfl ?_)))))
  (symm; rw [decide_eq_false_iff_not]; rintro ⟨h1, h2⟩; contradiction)
noncomputable section
def corrOk (l : List D.Correction) (j : Nat) : Prop := ∃ x, l[j]? = some x ∧ (1 ≤ x.Issue ∧ x.Issue ≤ 999) ∧ (0 ≤ x.Slot ∧ x.Slot ≤ 99) ∧ ((1 ≤ x.Clue.Sense ∧ x.Clue.Sense ≤ 99) ∧ isPlay x.Clue.Play) ∧ (0 ≤ x.Tick ∧ x.Tick ≤ 1000) ∧ (0 < j → ∃ y, l[j - 1]? = some y ∧ ¬ x.Tick < y.Tick)
def areCorrections (l : List D.Correction) : Prop := l.length ≤ 12 ∧ ∀ j, j < l.length → corrOk l j
instance (l : List D.Correction) : Decidable (areCorrections l) := Classical.propDecidable _
end
theorem W_spec_AreCorrections (n : Nat) (a : List D.Correction) (ha : a.length ≤ mx + 1) (hw : ∀ x ∈ a, zClue x.Clue ≤ mx) : Pure (acall Try.prog (n + 6)) 59 [(rd 5 eCorrection a)] (tB (decide (areCorrections a))) := by
  refine Pure.intro (rs := [ResultVar.tmp 2]) Try.func59 rfl rfl rfl (E0 := [(0, (rd 5 eCorrection a))]) rfl ?_
  obtain ⟨hlim, hmx, hmax⟩ := lims
  refine sr (fO (OF.assign (VEv.bool false)) (nt (sq (sr (fO (OF.assign (VEv.int .i64 0)) (nt (VRun.block ?_)))))))
  refine VRun.loop (A := Nat) (fun s_ => [(0, (rd 5 eCorrection a)), (3, (tN s_))]) (fun s_ => mkO []) 0 (fun s_ => s_ ≤ a.length ∧ ∀ j, j < s_ → corrOk a j) (fun s_ => a.length - s_) (0 : Nat) ?_ (Wk.mk (fun k => k) ?_ ?_ ?_) ?_
  · exact ⟨Nat.zero_le _, fun j hj => by omega⟩
  · exact (b2 (b2 bn))
  · exact bn
  · exact nd rfl
  rintro i (hI' : i ≤ a.length ∧ ∀ j, j < i → corrOk a j)
  show VRun _ _ _ [(0, (rd 5 eCorrection a)), (3, (tN i))] (mkO []) 0 _
  have hI0 := hI'
  refine sq (sr (mO (tN i) rfl (mO (rd 5 eCorrection a) rfl (lO (B.lenR (m := a.length) (tv (rd 5 eCorrection a) rfl) U58 (List.length_map ..)) (fO (xls' (tv (tN i) rfl) (tv (tN a.length) rfl)) (nt ?_))))))
  refine cd (i < a.length) rfl (fun fhc0 => ?_) fun fhc0 => ?_
  · refine sk ?_
    refine tn (sq (VRun.block (sr (mO (rd 5 eCorrection a) rfl (mO (tN i) rfl ?_)))))
    obtain ⟨x1, hx1⟩ : ∃ x, a[i]? = some x := ⟨_, List.getElem?_eq_getElem (by first | exact hw _ (List.mem_of_getElem? hx1) | omega)⟩
    refine fO (OF.indexAddrR (row := (eCorrection false x1)) (i := i) (tv (rd 5 eCorrection a) rfl) (tv (tN i) rfl) rfl (map_at _ hx1) U58 sz66 if66) (lO (OL.loadRn (us := (eCorrection false x1)) (tv (T.rp (eCorrection false x1)) rfl) st66 sz66 (lb rfl) rfl) (kO (B.alloc (t := (T.agg [(tN 0), (tN 0), (tN 0), T.nils, (tN 0)])) (ts := [(tN 0), (tN 0), (tN 0), T.nils, (tN 0)]) zo66 zc66 nofun (fun _ => .agg _ _ rfl (RLof (RL.cons (.int _ _) (RL.cons (.int _ _) (RL.cons (.int _ _) (RL.cons (.nils) (RL.cons (.int _ _) (RL.nil _)))))))) rfl) (cO (B.storeO (us := (eCorrection false x1)) (ws := (eCorrection false x1)) (tv (T.op 0 0) rfl) (tv (T.agg (eCorrection false x1)) rfl) nofun rfl rfl (lb rfl) if66 sz66 (bc rfl (bc rfl (bc rfl (bc rfl (bc rfl bn))))) rfl) (nt (sq (VRun.draw (B := [[], [0], [0, 1], [1, 0, 2], [2, 0, 1, 3], [3, 1, 0, 2, 4], [4, 2, 0, 1, 3, 5], [5, 3, 1, 0, 2, 4, 6], [6, 4, 2, 0, 1, 3, 5, 7], [7, 5, 6, 8, 3, 1, 0, 2, 4], [4, 2, 0, 1, 3, 8, 6, 5, 7, 9], [9, 7, 5, 6, 8, 3, 1, 0, 2, 4, 10], [10, 4, 2, 0, 1, 3, 8, 6, 5, 7, 9, 11], [11, 9, 7, 5, 6, 8, 3, 1, 0, 2, 4, 10, 12], [12, 10, 4, 2, 0, 1, 3, 8, 6, 5, 7, 9, 11, 13], [13, 11, 12, 14, 9, 7, 5, 6, 8, 3, 1, 0, 2, 4, 10], [10, 4, 2, 0, 1, 3, 8, 6, 5, 7, 9, 14, 12, 11, 13, 15], [15, 13, 11, 12, 14, 9, 7, 5, 6, 8, 3, 1, 0, 2, 4, 10, 16], [16, 10, 4, 2, 0, 1, 3, 8, 6, 5, 7, 9, 14, 12, 11, 13, 15, 17], [17, 15, 13, 11, 12, 14, 9, 7, 5, 6, 8, 3, 1, 0, 2, 4, 10, 16, 18], [18, 16, 10, 4, 2, 0, 1, 3, 8, 6, 5, 7, 9, 14, 12, 11, 13, 15, 17, 19], [19, 17, 18, 20, 15, 13, 11, 12, 14, 9, 7, 5, 6, 8, 3, 1, 0, 2, 4, 10, 16], [16, 10, 4, 2, 0, 1, 3, 8, 6, 5, 7, 9, 14, 12, 11, 13, 15, 20, 18, 17, 19, 21], [21, 19, 17, 18, 20, 15, 13, 11, 12, 14, 9, 7, 5, 6, 8, 3, 1, 0, 2, 4, 10, 16, 22], [22, 16, 10, 4, 2, 0, 1, 3, 8, 6, 5, 7, 9, 14, 12, 11, 13, 15, 20, 18, 17, 19, 21, 23], [23, 21, 19, 17, 18, 20, 15, 13, 11, 12, 14, 9, 7, 5, 6, 8, 3, 1, 0, 2, 4, 10, 16, 22, 24], [24, 22, 16, 10, 4, 2, 0, 1, 3, 8, 6, 5, 7, 9, 14, 12, 11, 13, 15, 20, 18, 17, 19, 21, 23, 25], [24, 22, 16, 10, 4, 2, 0, 1, 3, 8, 6, 5, 7, 9, 14, 12, 11, 13, 15, 20, 18, 17, 19, 21, 23, 25], [25, 23, 21, 19, 17, 18, 20, 15, 13, 11, 12, 14, 9, 7, 5, 6, 8, 3, 1, 0, 2, 4, 10, 16, 22, 24, 27], [27, 28, 25, 23, 21, 19, 17, 18, 20, 15, 13, 11, 12, 14, 9, 7, 5, 6, 8, 3, 1, 0, 2, 4, 10, 16, 22, 24, 26], [26, 24, 22, 16, 10, 4, 2, 0, 1, 3, 8, 6, 5, 7, 9, 14, 12, 11, 13, 15, 20, 18, 17, 19, 21, 23, 25, 28, 27, 29], [29, 27, 28, 25, 23, 21, 19, 17, 18, 20, 15, 13, 11, 12, 14, 9, 7, 5, 6, 8, 3, 1, 0, 2, 4, 10, 16, 22, 24, 26, 30], [24, 22, 16, 10, 4, 2, 0, 1, 3, 8, 6, 5, 7, 9, 14, 12, 11, 13, 15, 20, 18, 17, 19, 21, 23, 25], [25, 23, 21, 19, 17, 18, 20, 15, 13, 11, 12, 14, 9, 7, 5, 6, 8, 3, 1, 0, 2, 4, 10, 16, 22, 24, 32], [32, 33, 30, 26, 24, 22, 16, 10, 4, 2, 0, 1, 3, 8, 6, 5, 7, 9, 14, 12, 11, 13, 15, 20, 18, 17, 19, 21, 23, 25, 28, 27, 29, 31], [31, 29, 27, 28, 26, 30, 33, 32, 34, 24, 22, 16, 10, 4, 2, 0, 1, 3, 8, 6, 5, 7, 9, 14, 12, 11, 13, 15, 20, 18, 17, 19, 21, 23, 25], [25, 23, 24, 34, 32, 33, 30, 26, 28, 27, 29, 31, 35, 21, 19, 17, 18, 20, 15, 13, 11, 12, 14, 9, 7, 5, 6, 8, 3, 1, 0, 2, 4, 10, 16, 22]]) (by kernel_rfl) (by kernel_rfl) ?_))))))
    refine fD (OF.fieldAddrO (tv (T.op 0 0) rfl) fa66_0) rfl rfl (lD (OL.loadO1 (t := (tI x1.Issue)) (tv (T.op 0 0) rfl) rfl rfl st3) rfl rfl (VRunD.quiet (bi := [0, 1]) rfl VWant.always rfl rfl rfl bn (cS (vc (tv (tI x1.Issue) rfl) (vc (VEv.int .i64 1) (vc (VEv.int .i64 999) vn))) (lps rfl) (W_spec_l1In (n + 4) x1.Issue 1 999 ) rfl rfl) (fD (xnot (tv (tB (decide (1 ≤ x1.Issue ∧ x1.Issue ≤ 999))) rfl)) rfl rfl (mD (tB (!(decide (1 ≤ x1.Issue ∧ x1.Issue ≤ 999)))) rfl rfl ?_))))
    refine gn (1 ≤ x1.Issue ∧ x1.Issue ≤ 999) (fun fhg19_1 => ?_) fun fhg19_1 => ?_
    · refine oD rfl rfl (ny fhg19_1) rfl ?_
      refine oD rfl rfl (ny fhg19_1) rfl (oD rfl rfl (ny fhg19_1) rfl (oD rfl rfl (ny fhg19_1) rfl (fD (OF.pickT (VEv.tmpB rfl (ny fhg19_1)) (VEv.bool true)) rfl rfl (mD (tB true) rfl rfl (VRunD.off rfl (VWant.not (b := true) rfl rfl rfl) (VRunD.off rfl (VWant.not (b := true) rfl rfl rfl) (VRunD.off rfl (VWant.not (b := true) rfl rfl rfl) (VRunD.off rfl (VWant.not (b := true) rfl rfl rfl) (fD (OF.pickT (tv (tB true) rfl) (VEv.bool true)) rfl rfl (mD (tB true) rfl rfl (VRunD.off rfl (VWant.not (b := true) rfl rfl rfl) ?_)))))))))))
      refine VRunD.off rfl (VWant.not (b := true) rfl rfl rfl) (VRunD.off rfl (VWant.not (b := true) rfl rfl rfl) (VRunD.off rfl (VWant.not (b := true) rfl rfl rfl) (fD (OF.pickT (tv (tB true) rfl) (VEv.bool true)) rfl rfl (mD (tB true) rfl rfl (VRunD.off rfl (VWant.not (b := true) rfl rfl rfl) (VRunD.off rfl (VWant.not (b := true) rfl rfl rfl) (VRunD.off rfl (VWant.not (b := true) rfl rfl rfl) (uD rfl rfl rfl (uD rfl rfl rfl (uD rfl rfl rfl (uD rfl rfl rfl ?_)))))))))))
      refine uD rfl rfl rfl (uD rfl rfl rfl (uD rfl rfl rfl (uD rfl rfl rfl (uD rfl rfl rfl (VRunD.off rfl (VWant.not (b := true) rfl rfl rfl) (fD (OF.pickT (tv (tB true) rfl) (VEv.bool true)) rfl rfl (VRunD.nil (tn (ct rfl (sr (fO (OF.assign (VEv.bool false)) ?_)))))))))))
      refine nt (rt (vinB.r (tr (tr (vinB.r (tr (vb (b' := false) rfl ?_)))))))
      first | (refine decN ⟨fun h => ⟨by omega, allEnd hI' fhc0⟩, fun h => by have := h.1; omega⟩) | (symm; rw [decide_eq_false_iff_not]; rintro ⟨_, h2⟩; obtain ⟨y, hy, h3, h4, h5, h6, h7⟩ := h2 i fhc0; obtain rfl := same_at hx1 hy; first | omega | contradiction | (obtain ⟨z, hz, h9⟩ := h7 (by omega); obtain rfl := same_at hx2 hz; omega) | (simp_all; done))
    refine VRunD.free rfl (VWant.on rfl rfl (nz fhg19_1)) rfl (OF.fieldAddrO (tv (T.op 0 0) rfl) fa66_1) (VRunD.look rfl (VWant.on rfl rfl (nz fhg19_1)) rfl (OL.loadO1 (t := (tI x1.Slot)) (tv (T.op 0 1) rfl) rfl rfl st3) (VRunD.quiet (bi := [5, 3, 1, 0, 2, 4, 6]) rfl (VWant.on rfl rfl (nz fhg19_1)) rfl rfl rfl bn (cS (vc (tv (tI x1.Slot) rfl) (vc (VEv.int .i64 0) (vc (VEv.int .i64 99) vn))) (lps rfl) (W_spec_l1In (n + 4) x1.Slot 0 99 ) rfl rfl) (VRunD.free rfl (VWant.on rfl rfl (nz fhg19_1)) rfl (xnot (tv (tB (decide (0 ≤ x1.Slot ∧ x1.Slot ≤ 99))) rfl)) (fD (OF.pickF (VEv.tmpB rfl (nz fhg19_1)) (tv (tB (!(decide (0 ≤ x1.Slot ∧ x1.Slot ≤ 99)))) rfl)) rfl rfl (mD (tB (!(decide (0 ≤ x1.Slot ∧ x1.Slot ≤ 99)))) rfl rfl ?_)))))
    refine gn (0 ≤ x1.Slot ∧ x1.Slot ≤ 99) (fun fhg25_2 => ?_) fun fhg25_2 => ?_
    · refine oD rfl rfl (ny fhg25_2) rfl ?_
      refine oD rfl rfl (ny fhg25_2) rfl (oD rfl rfl (ny fhg25_2) rfl (oD rfl rfl (ny fhg25_2) rfl (fD (OF.pickT (VEv.tmpB rfl (ny fhg25_2)) (VEv.bool true)) rfl rfl (mD (tB true) rfl rfl (VRunD.off rfl (VWant.not (b := true) rfl rfl rfl) (VRunD.off rfl (VWant.not (b := true) rfl rfl rfl) (VRunD.off rfl (VWant.not (b := true) rfl rfl rfl) (VRunD.off rfl (VWant.not (b := true) rfl rfl rfl) (fD (OF.pickT (tv (tB true) rfl) (VEv.bool true)) rfl rfl (mD (tB true) rfl rfl (VRunD.off rfl (VWant.not (b := true) rfl rfl rfl) ?_)))))))))))
      refine VRunD.off rfl (VWant.not (b := true) rfl rfl rfl) (VRunD.off rfl (VWant.not (b := true) rfl rfl rfl) (uD rfl rfl rfl (uD rfl rfl rfl (uD rfl rfl rfl (uD rfl rfl rfl (uD rfl rfl rfl (uD rfl rfl rfl (uD rfl rfl rfl (uD rfl rfl rfl (uD rfl rfl rfl (VRunD.off rfl (VWant.not (b := true) rfl rfl rfl) ?_)))))))))))
      refine fD (OF.pickT (tv (tB true) rfl) (VEv.bool true)) rfl rfl (VRunD.nil (tn (ct rfl (sr (fO (OF.assign (VEv.bool false)) (nt (rt (vinB.r (tr (tr (vinB.r ?_)))))))))))
      refine tr (vb (b' := false) rfl ?_)
      first | (refine decN ⟨fun h => ⟨by omega, allEnd hI' fhc0⟩, fun h => by have := h.1; omega⟩) | (symm; rw [decide_eq_false_iff_not]; rintro ⟨_, h2⟩; obtain ⟨y, hy, h3, h4, h5, h6, h7⟩ := h2 i fhc0; obtain rfl := same_at hx1 hy; first | omega | contradiction | (obtain ⟨z, hz, h9⟩ := h7 (by omega); obtain rfl := same_at hx2 hz; omega) | (simp_all; done))
    refine VRunD.free rfl (VWant.on rfl rfl (nz fhg25_2)) rfl (OF.fieldAddrO (tv (T.op 0 0) rfl) fa66_2) (VRunD.look rfl (VWant.on rfl rfl (nz fhg25_2)) rfl (OL.loadOn (us := (eClue false x1.Clue)) (tv (T.op 0 2) rfl) rfl st64 sz64 (lb rfl) rfl) (VRunD.quiet (bi := [11, 9, 7, 5, 6, 8, 3, 1, 0, 2, 4, 10, 12]) rfl (VWant.on rfl rfl (nz fhg25_2)) rfl rfl rfl bn (cS (vc (tv (T.agg (eClue false x1.Clue)) rfl) vn) (LendL.cons (lg okeClue) ln) (W_spec_IsClue (n + 0) x1.Clue (by first | exact hw _ (List.mem_of_getElem? hx1) | assumption | omega)) rfl rfl) (VRunD.free rfl (VWant.on rfl rfl (nz fhg25_2)) rfl (xnot (tv (tB (decide ((1 ≤ x1.Clue.Sense ∧ x1.Clue.Sense ≤ 99) ∧ isPlay x1.Clue.Play))) rfl)) (fD (OF.pickF (VEv.tmpB rfl (nz fhg25_2)) (tv (tB (!(decide ((1 ≤ x1.Clue.Sense ∧ x1.Clue.Sense ≤ 99) ∧ isPlay x1.Clue.Play)))) rfl)) rfl rfl (mD (tB (!(decide ((1 ≤ x1.Clue.Sense ∧ x1.Clue.Sense ≤ 99) ∧ isPlay x1.Clue.Play)))) rfl rfl ?_)))))
    refine gn ((1 ≤ x1.Clue.Sense ∧ x1.Clue.Sense ≤ 99) ∧ isPlay x1.Clue.Play) (fun fhg31_3 => ?_) fun fhg31_3 => ?_
    · refine oD rfl rfl (ny fhg31_3) rfl ?_
      refine oD rfl rfl (ny fhg31_3) rfl (oD rfl rfl (ny fhg31_3) rfl (oD rfl rfl (ny fhg31_3) rfl (fD (OF.pickT (VEv.tmpB rfl (ny fhg31_3)) (VEv.bool true)) rfl rfl (mD (tB true) rfl rfl (VRunD.off rfl (VWant.not (b := true) rfl rfl rfl) (VRunD.off rfl (VWant.not (b := true) rfl rfl rfl) (VRunD.off rfl (VWant.not (b := true) rfl rfl rfl) (uD rfl rfl rfl (uD rfl rfl rfl (uD rfl rfl rfl (uD rfl rfl rfl ?_)))))))))))
      refine uD rfl rfl rfl (uD rfl rfl rfl (uD rfl rfl rfl (uD rfl rfl rfl (uD rfl rfl rfl (VRunD.off rfl (VWant.not (b := true) rfl rfl rfl) (fD (OF.pickT (tv (tB true) rfl) (VEv.bool true)) rfl rfl (VRunD.nil (tn (ct rfl (sr (fO (OF.assign (VEv.bool false)) ?_)))))))))))
      refine nt (rt (vinB.r (tr (tr (vinB.r (tr (vb (b' := false) rfl ?_)))))))
      first | (refine decN ⟨fun h => ⟨by omega, allEnd hI' fhc0⟩, fun h => by have := h.1; omega⟩) | (symm; rw [decide_eq_false_iff_not]; rintro ⟨_, h2⟩; obtain ⟨y, hy, h3, h4, h5, h6, h7⟩ := h2 i fhc0; obtain rfl := same_at hx1 hy; first | omega | contradiction | (obtain ⟨z, hz, h9⟩ := h7 (by omega); obtain rfl := same_at hx2 hz; omega) | (simp_all; done))
    refine VRunD.free rfl (VWant.on rfl rfl (nz fhg31_3)) rfl (OF.fieldAddrO (tv (T.op 0 0) rfl) fa66_3) (VRunD.look rfl (VWant.on rfl rfl (nz fhg31_3)) rfl (OL.loadO1 (t := (tI x1.Tick)) (tv (T.op 0 4) rfl) rfl rfl st3) (VRunD.quiet (bi := [17, 15, 13, 11, 12, 14, 9, 7, 5, 6, 8, 3, 1, 0, 2, 4, 10, 16, 18]) rfl (VWant.on rfl rfl (nz fhg31_3)) rfl rfl rfl bn (cS (vc (tv (tI x1.Tick) rfl) (vc (VEv.int .i64 0) (vc (VEv.int .i64 1000) vn))) (lps rfl) (W_spec_l1In (n + 4) x1.Tick 0 1000 ) rfl rfl) (VRunD.free rfl (VWant.on rfl rfl (nz fhg31_3)) rfl (xnot (tv (tB (decide (0 ≤ x1.Tick ∧ x1.Tick ≤ 1000))) rfl)) (fD (OF.pickF (VEv.tmpB rfl (nz fhg31_3)) (tv (tB (!(decide (0 ≤ x1.Tick ∧ x1.Tick ≤ 1000)))) rfl)) rfl rfl (mD (tB (!(decide (0 ≤ x1.Tick ∧ x1.Tick ≤ 1000)))) rfl rfl ?_)))))
    refine gn (0 ≤ x1.Tick ∧ x1.Tick ≤ 1000) (fun fhg37_4 => ?_) fun fhg37_4 => ?_
    · refine oD rfl rfl (ny fhg37_4) rfl ?_
      refine oD rfl rfl (ny fhg37_4) rfl (oD rfl rfl (ny fhg37_4) rfl (uD rfl rfl rfl (uD rfl rfl rfl (uD rfl rfl rfl (uD rfl rfl rfl (uD rfl rfl rfl (uD rfl rfl rfl (uD rfl rfl rfl (uD rfl rfl rfl (uD rfl rfl rfl (oD rfl rfl (ny fhg37_4) rfl ?_)))))))))))
      refine fD (OF.pickT (VEv.tmpB rfl (ny fhg37_4)) (VEv.bool true)) rfl rfl (VRunD.nil (tn (ct rfl (sr (fO (OF.assign (VEv.bool false)) (nt (rt (vinB.r (tr (tr (vinB.r ?_)))))))))))
      refine tr (vb (b' := false) rfl ?_)
      first | (refine decN ⟨fun h => ⟨by omega, allEnd hI' fhc0⟩, fun h => by have := h.1; omega⟩) | (symm; rw [decide_eq_false_iff_not]; rintro ⟨_, h2⟩; obtain ⟨y, hy, h3, h4, h5, h6, h7⟩ := h2 i fhc0; obtain rfl := same_at hx1 hy; first | omega | contradiction | (obtain ⟨z, hz, h9⟩ := h7 (by omega); obtain rfl := same_at hx2 hz; omega) | (simp_all; done))
    refine VRunD.free rfl (VWant.on rfl rfl (nz fhg37_4)) rfl (OF.move (tv (tN i) rfl)) (VRunD.free rfl (VWant.on rfl rfl (nz fhg37_4)) rfl (B.gtr (c := (decide (0 < i))) (tv (tN i) rfl) (VEv.int .i64 0) (by first | exact hw _ (List.mem_of_getElem? hx1) | (exact decN (by omega)))) (VRunD.free rfl (VWant.on rfl rfl (nz fhg37_4)) rfl (OF.move (tv (tB (decide (0 < i))) rfl)) ?_))
    refine gw (0 < i) (fun fhg40_5 => ?_) fun fhg40_5 => ?_
    · refine VRunD.free rfl (VWant.on rfl rfl (dy fhg40_5)) rfl (OF.move (tv (rd 5 eCorrection a) rfl)) ?_
      refine VRunD.free rfl (VWant.on rfl rfl (dy fhg40_5)) rfl (OF.move (tv (tN i) rfl)) (VRunD.free rfl (VWant.on rfl rfl (dy fhg40_5)) rfl (B.sub (n := ((i - 1 : Nat) : Int)) (tv (tN i) rfl) (VEv.int .i64 1) (by first | exact hw _ (List.mem_of_getElem? hx1) | rfl | (rw [wrap64 (by omega)]; omega) | (rw [wrap64 (by omega)]; done))) ?_)
      obtain ⟨x2, hx2⟩ : ∃ x, a[i - 1]? = some x := ⟨_, List.getElem?_eq_getElem (by first | exact hw _ (List.mem_of_getElem? hx1) | omega)⟩
      refine VRunD.free rfl (VWant.on rfl rfl (dy fhg40_5)) rfl (OF.indexAddrR (row := (eCorrection false x2)) (i := i - 1) (tv (rd 5 eCorrection a) rfl) (tv (tN (i - 1)) rfl) rfl (map_at _ hx2) U58 sz66 if66) (VRunD.free rfl (VWant.on rfl rfl (dy fhg40_5)) rfl (B.fieldAddrR (us := [(tI x2.Tick)]) (tv (T.rp (eCorrection false x2)) rfl) (lb rfl) fa66_3 rfl) (VRunD.look rfl (VWant.on rfl rfl (dy fhg40_5)) rfl (OL.loadR1 (t := (tI x2.Tick)) (tv (T.rp [(tI x2.Tick)]) rfl) rfl st3) (VRunD.free rfl (VWant.on rfl rfl (dy fhg40_5)) rfl (OF.fieldAddrO (tv (T.op 0 0) rfl) fa66_3) (VRunD.look rfl (VWant.on rfl rfl (dy fhg40_5)) rfl (OL.loadO1 (t := (tI x1.Tick)) (tv (T.op 0 4) rfl) rfl rfl st3) (VRunD.free rfl (VWant.on rfl rfl (dy fhg40_5)) rfl (xgt (tv (tI x2.Tick) rfl) (tv (tI x1.Tick) rfl)) (VRunD.free rfl (VWant.on rfl rfl (nz fhg37_4)) rfl (OF.pickT (VEv.tmpB rfl (dy fhg40_5)) (tv (tB (decide (x1.Tick < x2.Tick))) rfl)) (fD (OF.pickF (VEv.tmpB rfl (nz fhg37_4)) (tv (tB (decide (x1.Tick < x2.Tick))) rfl)) rfl rfl (VRunD.nil (tn ?_)))))))))
      refine cd (x1.Tick < x2.Tick) rfl (fun fhc1 => ?_) fun fhc1 => ?_
      · refine sr ?_
        refine fO (OF.assign (VEv.bool false)) (nt (rt (vinB.r (tr (tr (vinB.r (tr (vb (b' := false) rfl ?_))))))))
        first | (refine decN ⟨fun h => ⟨by omega, allEnd hI' fhc0⟩, fun h => by have := h.1; omega⟩) | (symm; rw [decide_eq_false_iff_not]; rintro ⟨_, h2⟩; obtain ⟨y, hy, h3, h4, h5, h6, h7⟩ := h2 i fhc0; obtain rfl := same_at hx1 hy; first | omega | contradiction | (obtain ⟨z, hz, h9⟩ := h7 (by omega); obtain rfl := same_at hx2 hz; omega) | (simp_all; done))
      refine sk (vinB.n (tn (VRun.region (mO (tN i) rfl (fO (xinc (tv (tN i) rfl) (VEv.int .i64 1) (by first | exact hw _ (List.mem_of_getElem? hx1) | omega)) (aO (tN (i + 1)) rfl (VRunO.nil (tn ?_))))))))
      refine ⟨(i + 1 : Nat), ?_, ?_, Wk.mk (fun k => k) ?_ ?_ ?_⟩
      · refine allNext hI0 fhc0 ⟨x1, hx1, by omega, by omega, by assumption, by omega, fun h0 => ?_⟩
        first | (exact absurd h0 (by omega)) | (refine ⟨x2, hx2, ?_⟩; omega)
      · first | omega | (simp only []; omega) | (show _ < _; omega) | (simp; omega)
      · exact (b2 (b2 bn))
      · exact bn
      · exact nd rfl
    refine oD rfl rfl (dz fhg40_5) rfl (oD rfl rfl (dz fhg40_5) rfl (oD rfl rfl (dz fhg40_5) rfl (oD rfl rfl (dz fhg40_5) rfl (oD rfl rfl (dz fhg40_5) rfl (oD rfl rfl (dz fhg40_5) rfl (oD rfl rfl (dz fhg40_5) rfl (oD rfl rfl (dz fhg40_5) rfl (oD rfl rfl (dz fhg40_5) rfl (VRunD.free rfl (VWant.on rfl rfl (nz fhg37_4)) rfl (OF.pickF (VEv.tmpB rfl (dz fhg40_5)) (VEv.bool false)) (fD (OF.pickF (VEv.tmpB rfl (nz fhg37_4)) (tv (tB false) rfl)) rfl rfl (VRunD.nil ?_)))))))))))
    refine tn (cf rfl (sk (vinB.n (tn (VRun.region (mO (tN i) rfl (fO (xinc (tv (tN i) rfl) (VEv.int .i64 1) (by first | exact hw _ (List.mem_of_getElem? hx1) | omega)) (aO (tN (i + 1)) rfl (VRunO.nil (tn ?_))))))))))
    refine ⟨(i + 1 : Nat), ?_, ?_, Wk.mk (fun k => k) ?_ ?_ ?_⟩
    · refine allNext hI0 fhc0 ⟨x1, hx1, by omega, by omega, by assumption, by omega, fun h0 => ?_⟩
      first | (exact absurd h0 (by omega)) | (refine ⟨x2, hx2, ?_⟩; omega)
    · first | omega | (simp only []; omega) | (show _ < _; omega) | (simp; omega)
    · exact (b2 (b2 bn))
    · exact bn
    · exact nd rfl
  refine VRun.exit (vthn.e (vthn.e (vinB.e (tn (sr (mO (rd 5 eCorrection a) rfl (lO (B.lenR (m := a.length) (tv (rd 5 eCorrection a) rfl) U58 (List.length_map ..)) (fO (B.leq (c := (decide (a.length ≤ 12))) (tv (tN a.length) rfl) (VEv.int .i64 12) (by first | exact hw _ (List.mem_of_getElem? hx1) | (exact decN (by omega)))) (aO (tB (decide (a.length ≤ 12))) rfl (nt (rt ?_)))))))))))
  refine vb (b' := (decide (a.length ≤ 12))) rfl ?_
  first | (refine decN ⟨fun h => ⟨by omega, allEnd hI' fhc0⟩, fun h => by have := h.1; omega⟩) | (symm; rw [decide_eq_false_iff_not]; rintro ⟨_, h2⟩; obtain ⟨y, hy, h3, h4, h5, h6, h7⟩ := h2 i fhc0; obtain rfl := same_at hx1 hy; first | omega | contradiction | (obtain ⟨z, hz, h9⟩ := h7 (by omega); obtain rfl := same_at hx2 hz; omega) | (simp_all; done))
theorem W_impl_AreCorrections (n : Nat) (a : List D.Correction) (ha : a.length ≤ mx + 1) (hw : ∀ x ∈ a, zClue x.Clue ≤ mx) : Pure (acall Try.prog (n + 5)) 62 [(rd 5 eCorrection a)] (tB (decide (areCorrections a))) := by
  refine Pure.intro (rs := [ResultVar.tmp 2]) Try.func62 rfl rfl rfl (E0 := [(0, (rd 5 eCorrection a))]) rfl ?_
  obtain ⟨hlim, hmx, hmax⟩ := lims
  refine sr (fO (OF.assign (VEv.bool false)) (nt (sq (sr (mO (rd 5 eCorrection a) rfl (lO (B.lenR (m := a.length) (tv (rd 5 eCorrection a) rfl) U58 (List.length_map ..)) (fO (B.gtr (c := (decide (12 < a.length))) (tv (tN a.length) rfl) (VEv.int .i64 12) (by first | exact hw _ (List.mem_of_getElem? hx1) | (exact decN (by omega)))) (nt ?_))))))))
  refine cd (12 < a.length) rfl (fun fhc0 => ?_) fun fhc0 => ?_
  · refine sr ?_
    refine fO (OF.assign (VEv.bool false)) (nt (rt (tr (vb (b' := false) rfl ?_))))
    first | (symm; rw [decide_eq_false_iff_not]; rintro ⟨h2, _⟩; omega) | (symm; rw [decide_eq_true_eq]; exact ⟨by omega, allEnd hI' fhc1⟩) | (symm; rw [decide_eq_false_iff_not]; rintro ⟨_, h2⟩; obtain ⟨y, hy, h3, h4, h5, h6, h7⟩ := h2 i fhc1; obtain rfl := same_at hx1 hy; first | omega | contradiction | (obtain ⟨z, hz, h9⟩ := h7 (by omega); obtain rfl := same_at hx2 hz; omega) | (simp_all; done))
  refine sk (tn (sq (sr (mO (rd 5 eCorrection a) rfl (lO (B.lenR (m := a.length) (tv (rd 5 eCorrection a) rfl) U58 (List.length_map ..)) (fO (OF.move (VEv.int .i64 0)) (nt (VRun.block ?_))))))))
  refine VRun.loop (A := Nat) (fun s_ => [(0, (rd 5 eCorrection a)), (8, (rd 5 eCorrection a)), (9, (tN a.length)), (10, (tN s_))]) (fun s_ => mkO []) 0 (fun s_ => s_ ≤ a.length ∧ ∀ j, j < s_ → corrOk a j) (fun s_ => a.length - s_) (0 : Nat) ?_ (Wk.mk (fun k => k) ?_ ?_ ?_) ?_
  · exact ⟨Nat.zero_le _, fun j hj => by omega⟩
  · exact (b2 (b2 (b2 (b2 bn))))
  · exact bn
  · exact nd rfl
  rintro i (hI' : i ≤ a.length ∧ ∀ j, j < i → corrOk a j)
  show VRun _ _ _ [(0, (rd 5 eCorrection a)), (8, (rd 5 eCorrection a)), (9, (tN a.length)), (10, (tN i))] (mkO []) 0 _
  have hI0 := hI'
  refine sr (fO (xls' (tv (tN i) rfl) (tv (tN a.length) rfl)) (nt (sq ?_)))
  refine cd (i < a.length) rfl (fun fhc1 => ?_) fun fhc1 => ?_
  · refine sk ?_
    refine tn (sq (VRun.block (sr (mO (tN i) rfl ?_))))
    obtain ⟨x1, hx1⟩ : ∃ x, a[i]? = some x := ⟨_, List.getElem?_eq_getElem (by first | exact hw _ (List.mem_of_getElem? hx1) | omega)⟩
    refine fO (OF.indexAddrR (row := (eCorrection false x1)) (i := i) (tv (rd 5 eCorrection a) rfl) (tv (tN i) rfl) rfl (map_at _ hx1) U58 sz66 if66) (lO (OL.loadRn (us := (eCorrection false x1)) (tv (T.rp (eCorrection false x1)) rfl) st66 sz66 (lb rfl) rfl) (kO (B.alloc (t := (T.agg [(tN 0), (tN 0), (tN 0), T.nils, (tN 0)])) (ts := [(tN 0), (tN 0), (tN 0), T.nils, (tN 0)]) zo66 zc66 nofun (fun _ => .agg _ _ rfl (RLof (RL.cons (.int _ _) (RL.cons (.int _ _) (RL.cons (.int _ _) (RL.cons (.nils) (RL.cons (.int _ _) (RL.nil _)))))))) rfl) (aO (tN i) rfl (cO (B.storeO (us := (eCorrection false x1)) (ws := (eCorrection false x1)) (tv (T.op 0 0) rfl) (tv (T.agg (eCorrection false x1)) rfl) nofun rfl rfl (lb rfl) if66 sz66 (bc rfl (bc rfl (bc rfl (bc rfl (bc rfl bn))))) rfl) (nt (sq (VRun.draw (B := [[], [0], [0, 1], [1, 0, 2], [2, 0, 1, 3], [3, 1, 0, 2, 4], [4, 2, 0, 1, 3, 5], [5, 3, 1, 0, 2, 4, 6], [6, 4, 2, 0, 1, 3, 5, 7], [7, 5, 6, 8, 3, 1, 0, 2, 4], [4, 2, 0, 1, 3, 8, 6, 5, 7, 9], [9, 7, 5, 6, 8, 3, 1, 0, 2, 4, 10], [10, 4, 2, 0, 1, 3, 8, 6, 5, 7, 9, 11], [11, 9, 7, 5, 6, 8, 3, 1, 0, 2, 4, 10, 12], [12, 10, 4, 2, 0, 1, 3, 8, 6, 5, 7, 9, 11, 13], [13, 11, 12, 14, 9, 7, 5, 6, 8, 3, 1, 0, 2, 4, 10], [10, 4, 2, 0, 1, 3, 8, 6, 5, 7, 9, 14, 12, 11, 13, 15], [15, 13, 11, 12, 14, 9, 7, 5, 6, 8, 3, 1, 0, 2, 4, 10, 16], [16, 10, 4, 2, 0, 1, 3, 8, 6, 5, 7, 9, 14, 12, 11, 13, 15, 17], [17, 15, 13, 11, 12, 14, 9, 7, 5, 6, 8, 3, 1, 0, 2, 4, 10, 16, 18], [18, 16, 10, 4, 2, 0, 1, 3, 8, 6, 5, 7, 9, 14, 12, 11, 13, 15, 17, 19], [19, 17, 18, 20, 15, 13, 11, 12, 14, 9, 7, 5, 6, 8, 3, 1, 0, 2, 4, 10, 16], [16, 10, 4, 2, 0, 1, 3, 8, 6, 5, 7, 9, 14, 12, 11, 13, 15, 20, 18, 17, 19, 21], [21, 19, 17, 18, 20, 15, 13, 11, 12, 14, 9, 7, 5, 6, 8, 3, 1, 0, 2, 4, 10, 16, 22], [22, 16, 10, 4, 2, 0, 1, 3, 8, 6, 5, 7, 9, 14, 12, 11, 13, 15, 20, 18, 17, 19, 21, 23], [23, 21, 19, 17, 18, 20, 15, 13, 11, 12, 14, 9, 7, 5, 6, 8, 3, 1, 0, 2, 4, 10, 16, 22, 24], [24, 22, 16, 10, 4, 2, 0, 1, 3, 8, 6, 5, 7, 9, 14, 12, 11, 13, 15, 20, 18, 17, 19, 21, 23, 25], [25, 23, 21, 19, 17, 18, 20, 15, 13, 11, 12, 14, 9, 7, 5, 6, 8, 3, 1, 0, 2, 4, 10, 16, 22, 24, 26], [24, 22, 16, 10, 4, 2, 0, 1, 3, 8, 6, 5, 7, 9, 14, 12, 11, 13, 15, 20, 18, 17, 19, 21, 23, 25], [24, 22, 16, 10, 4, 2, 0, 1, 3, 8, 6, 5, 7, 9, 14, 12, 11, 13, 15, 20, 18, 17, 19, 21, 23, 25], [25, 23, 21, 19, 17, 18, 20, 15, 13, 11, 12, 14, 9, 7, 5, 6, 8, 3, 1, 0, 2, 4, 10, 16, 22, 24, 29], [29, 30, 25, 23, 21, 19, 17, 18, 20, 15, 13, 11, 12, 14, 9, 7, 5, 6, 8, 3, 1, 0, 2, 4, 10, 16, 22, 24, 28], [28, 24, 22, 16, 10, 4, 2, 0, 1, 3, 8, 6, 5, 7, 9, 14, 12, 11, 13, 15, 20, 18, 17, 19, 21, 23, 25, 30, 29, 31], [31, 29, 30, 25, 23, 21, 19, 17, 18, 20, 15, 13, 11, 12, 14, 9, 7, 5, 6, 8, 3, 1, 0, 2, 4, 10, 16, 22, 24, 28, 32], [32, 28, 30, 29, 31, 33, 26, 24, 22, 16, 10, 4, 2, 0, 1, 3, 8, 6, 5, 7, 9, 14, 12, 11, 13, 15, 20, 18, 17, 19, 21, 23, 25, 27], [27, 26, 33, 31, 29, 30, 28, 32, 34, 24, 22, 16, 10, 4, 2, 0, 1, 3, 8, 6, 5, 7, 9, 14, 12, 11, 13, 15, 20, 18, 17, 19, 21, 23, 25], [25, 23, 24, 34, 32, 28, 30, 29, 31, 33, 26, 27, 35, 21, 19, 17, 18, 20, 15, 13, 11, 12, 14, 9, 7, 5, 6, 8, 3, 1, 0, 2, 4, 10, 16, 22]]) (by kernel_rfl) (by kernel_rfl) ?_)))))))
    refine fD (OF.fieldAddrO (tv (T.op 0 0) rfl) fa66_0) rfl rfl (lD (OL.loadO1 (t := (tI x1.Issue)) (tv (T.op 0 0) rfl) rfl rfl st3) rfl rfl (VRunD.quiet (bi := [0, 1]) rfl VWant.always rfl rfl rfl bn (cS (vc (tv (tI x1.Issue) rfl) (vc (VEv.int .i64 1) (vc (VEv.int .i64 999) vn))) (lps rfl) (W_impl_InRange (n + 3) x1.Issue 1 999 ) rfl rfl) (fD (xnot (tv (tB (decide (1 ≤ x1.Issue ∧ x1.Issue ≤ 999))) rfl)) rfl rfl (mD (tB (!(decide (1 ≤ x1.Issue ∧ x1.Issue ≤ 999)))) rfl rfl ?_))))
    refine gn (1 ≤ x1.Issue ∧ x1.Issue ≤ 999) (fun fhg19_1 => ?_) fun fhg19_1 => ?_
    · refine oD rfl rfl (ny fhg19_1) rfl ?_
      refine oD rfl rfl (ny fhg19_1) rfl (oD rfl rfl (ny fhg19_1) rfl (oD rfl rfl (ny fhg19_1) rfl (fD (OF.pickT (VEv.tmpB rfl (ny fhg19_1)) (VEv.bool true)) rfl rfl (mD (tB true) rfl rfl (VRunD.off rfl (VWant.not (b := true) rfl rfl rfl) (VRunD.off rfl (VWant.not (b := true) rfl rfl rfl) (VRunD.off rfl (VWant.not (b := true) rfl rfl rfl) (VRunD.off rfl (VWant.not (b := true) rfl rfl rfl) (fD (OF.pickT (tv (tB true) rfl) (VEv.bool true)) rfl rfl (mD (tB true) rfl rfl (VRunD.off rfl (VWant.not (b := true) rfl rfl rfl) ?_)))))))))))
      refine VRunD.off rfl (VWant.not (b := true) rfl rfl rfl) (VRunD.off rfl (VWant.not (b := true) rfl rfl rfl) (VRunD.off rfl (VWant.not (b := true) rfl rfl rfl) (fD (OF.pickT (tv (tB true) rfl) (VEv.bool true)) rfl rfl (mD (tB true) rfl rfl (VRunD.off rfl (VWant.not (b := true) rfl rfl rfl) (VRunD.off rfl (VWant.not (b := true) rfl rfl rfl) (VRunD.off rfl (VWant.not (b := true) rfl rfl rfl) (uD rfl rfl rfl (uD rfl rfl rfl (uD rfl rfl rfl (uD rfl rfl rfl ?_)))))))))))
      refine uD rfl rfl rfl (uD rfl rfl rfl (uD rfl rfl rfl (uD rfl rfl rfl (uD rfl rfl rfl (VRunD.off rfl (VWant.not (b := true) rfl rfl rfl) (fD (OF.pickT (tv (tB true) rfl) (VEv.bool true)) rfl rfl (VRunD.nil (tn (ct rfl (sr (fO (OF.assign (VEv.bool false)) ?_)))))))))))
      refine nt (rt (vinB.r (tr (tr (vinB.r (tr (vb (b' := false) rfl ?_)))))))
      first | (symm; rw [decide_eq_false_iff_not]; rintro ⟨h2, _⟩; omega) | (symm; rw [decide_eq_true_eq]; exact ⟨by omega, allEnd hI' fhc1⟩) | (symm; rw [decide_eq_false_iff_not]; rintro ⟨_, h2⟩; obtain ⟨y, hy, h3, h4, h5, h6, h7⟩ := h2 i fhc1; obtain rfl := same_at hx1 hy; first | omega | contradiction | (obtain ⟨z, hz, h9⟩ := h7 (by omega); obtain rfl := same_at hx2 hz; omega) | (simp_all; done))
    refine VRunD.free rfl (VWant.on rfl rfl (nz fhg19_1)) rfl (OF.fieldAddrO (tv (T.op 0 0) rfl) fa66_1) (VRunD.look rfl (VWant.on rfl rfl (nz fhg19_1)) rfl (OL.loadO1 (t := (tI x1.Slot)) (tv (T.op 0 1) rfl) rfl rfl st3) (VRunD.quiet (bi := [5, 3, 1, 0, 2, 4, 6]) rfl (VWant.on rfl rfl (nz fhg19_1)) rfl rfl rfl bn (cS (vc (tv (tI x1.Slot) rfl) (vc (VEv.int .i64 0) (vc (VEv.int .i64 99) vn))) (lps rfl) (W_impl_InRange (n + 3) x1.Slot 0 99 ) rfl rfl) (VRunD.free rfl (VWant.on rfl rfl (nz fhg19_1)) rfl (xnot (tv (tB (decide (0 ≤ x1.Slot ∧ x1.Slot ≤ 99))) rfl)) (fD (OF.pickF (VEv.tmpB rfl (nz fhg19_1)) (tv (tB (!(decide (0 ≤ x1.Slot ∧ x1.Slot ≤ 99)))) rfl)) rfl rfl (mD (tB (!(decide (0 ≤ x1.Slot ∧ x1.Slot ≤ 99)))) rfl rfl ?_)))))
    refine gn (0 ≤ x1.Slot ∧ x1.Slot ≤ 99) (fun fhg25_2 => ?_) fun fhg25_2 => ?_
    · refine oD rfl rfl (ny fhg25_2) rfl ?_
      refine oD rfl rfl (ny fhg25_2) rfl (oD rfl rfl (ny fhg25_2) rfl (oD rfl rfl (ny fhg25_2) rfl (fD (OF.pickT (VEv.tmpB rfl (ny fhg25_2)) (VEv.bool true)) rfl rfl (mD (tB true) rfl rfl (VRunD.off rfl (VWant.not (b := true) rfl rfl rfl) (VRunD.off rfl (VWant.not (b := true) rfl rfl rfl) (VRunD.off rfl (VWant.not (b := true) rfl rfl rfl) (VRunD.off rfl (VWant.not (b := true) rfl rfl rfl) (fD (OF.pickT (tv (tB true) rfl) (VEv.bool true)) rfl rfl (mD (tB true) rfl rfl (VRunD.off rfl (VWant.not (b := true) rfl rfl rfl) ?_)))))))))))
      refine VRunD.off rfl (VWant.not (b := true) rfl rfl rfl) (VRunD.off rfl (VWant.not (b := true) rfl rfl rfl) (uD rfl rfl rfl (uD rfl rfl rfl (uD rfl rfl rfl (uD rfl rfl rfl (uD rfl rfl rfl (uD rfl rfl rfl (uD rfl rfl rfl (uD rfl rfl rfl (uD rfl rfl rfl (VRunD.off rfl (VWant.not (b := true) rfl rfl rfl) ?_)))))))))))
      refine fD (OF.pickT (tv (tB true) rfl) (VEv.bool true)) rfl rfl (VRunD.nil (tn (ct rfl (sr (fO (OF.assign (VEv.bool false)) (nt (rt (vinB.r (tr (tr (vinB.r ?_)))))))))))
      refine tr (vb (b' := false) rfl ?_)
      first | (symm; rw [decide_eq_false_iff_not]; rintro ⟨h2, _⟩; omega) | (symm; rw [decide_eq_true_eq]; exact ⟨by omega, allEnd hI' fhc1⟩) | (symm; rw [decide_eq_false_iff_not]; rintro ⟨_, h2⟩; obtain ⟨y, hy, h3, h4, h5, h6, h7⟩ := h2 i fhc1; obtain rfl := same_at hx1 hy; first | omega | contradiction | (obtain ⟨z, hz, h9⟩ := h7 (by omega); obtain rfl := same_at hx2 hz; omega) | (simp_all; done))
    refine VRunD.free rfl (VWant.on rfl rfl (nz fhg25_2)) rfl (OF.fieldAddrO (tv (T.op 0 0) rfl) fa66_2) (VRunD.look rfl (VWant.on rfl rfl (nz fhg25_2)) rfl (OL.loadOn (us := (eClue false x1.Clue)) (tv (T.op 0 2) rfl) rfl st64 sz64 (lb rfl) rfl) (VRunD.quiet (bi := [11, 9, 7, 5, 6, 8, 3, 1, 0, 2, 4, 10, 12]) rfl (VWant.on rfl rfl (nz fhg25_2)) rfl rfl rfl bn (cS (vc (tv (T.agg (eClue false x1.Clue)) rfl) vn) (LendL.cons (lg okeClue) ln) (W_impl_IsClue (n + 0) x1.Clue (by first | exact hw _ (List.mem_of_getElem? hx1) | assumption | omega)) rfl rfl) (VRunD.free rfl (VWant.on rfl rfl (nz fhg25_2)) rfl (xnot (tv (tB (decide ((1 ≤ x1.Clue.Sense ∧ x1.Clue.Sense ≤ 99) ∧ isPlay x1.Clue.Play))) rfl)) (fD (OF.pickF (VEv.tmpB rfl (nz fhg25_2)) (tv (tB (!(decide ((1 ≤ x1.Clue.Sense ∧ x1.Clue.Sense ≤ 99) ∧ isPlay x1.Clue.Play)))) rfl)) rfl rfl (mD (tB (!(decide ((1 ≤ x1.Clue.Sense ∧ x1.Clue.Sense ≤ 99) ∧ isPlay x1.Clue.Play)))) rfl rfl ?_)))))
    refine gn ((1 ≤ x1.Clue.Sense ∧ x1.Clue.Sense ≤ 99) ∧ isPlay x1.Clue.Play) (fun fhg31_3 => ?_) fun fhg31_3 => ?_
    · refine oD rfl rfl (ny fhg31_3) rfl ?_
      refine oD rfl rfl (ny fhg31_3) rfl (oD rfl rfl (ny fhg31_3) rfl (oD rfl rfl (ny fhg31_3) rfl (fD (OF.pickT (VEv.tmpB rfl (ny fhg31_3)) (VEv.bool true)) rfl rfl (mD (tB true) rfl rfl (VRunD.off rfl (VWant.not (b := true) rfl rfl rfl) (VRunD.off rfl (VWant.not (b := true) rfl rfl rfl) (VRunD.off rfl (VWant.not (b := true) rfl rfl rfl) (uD rfl rfl rfl (uD rfl rfl rfl (uD rfl rfl rfl (uD rfl rfl rfl ?_)))))))))))
      refine uD rfl rfl rfl (uD rfl rfl rfl (uD rfl rfl rfl (uD rfl rfl rfl (uD rfl rfl rfl (VRunD.off rfl (VWant.not (b := true) rfl rfl rfl) (fD (OF.pickT (tv (tB true) rfl) (VEv.bool true)) rfl rfl (VRunD.nil (tn (ct rfl (sr (fO (OF.assign (VEv.bool false)) ?_)))))))))))
      refine nt (rt (vinB.r (tr (tr (vinB.r (tr (vb (b' := false) rfl ?_)))))))
      first | (symm; rw [decide_eq_false_iff_not]; rintro ⟨h2, _⟩; omega) | (symm; rw [decide_eq_true_eq]; exact ⟨by omega, allEnd hI' fhc1⟩) | (symm; rw [decide_eq_false_iff_not]; rintro ⟨_, h2⟩; obtain ⟨y, hy, h3, h4, h5, h6, h7⟩ := h2 i fhc1; obtain rfl := same_at hx1 hy; first | omega | contradiction | (obtain ⟨z, hz, h9⟩ := h7 (by omega); obtain rfl := same_at hx2 hz; omega) | (simp_all; done))
    refine VRunD.free rfl (VWant.on rfl rfl (nz fhg31_3)) rfl (OF.fieldAddrO (tv (T.op 0 0) rfl) fa66_3) (VRunD.look rfl (VWant.on rfl rfl (nz fhg31_3)) rfl (OL.loadO1 (t := (tI x1.Tick)) (tv (T.op 0 4) rfl) rfl rfl st3) (VRunD.quiet (bi := [17, 15, 13, 11, 12, 14, 9, 7, 5, 6, 8, 3, 1, 0, 2, 4, 10, 16, 18]) rfl (VWant.on rfl rfl (nz fhg31_3)) rfl rfl rfl bn (cS (vc (tv (tI x1.Tick) rfl) (vc (VEv.int .i64 0) (vc (VEv.int .i64 1000) vn))) (lps rfl) (W_impl_InRange (n + 3) x1.Tick 0 1000 ) rfl rfl) (VRunD.free rfl (VWant.on rfl rfl (nz fhg31_3)) rfl (xnot (tv (tB (decide (0 ≤ x1.Tick ∧ x1.Tick ≤ 1000))) rfl)) (fD (OF.pickF (VEv.tmpB rfl (nz fhg31_3)) (tv (tB (!(decide (0 ≤ x1.Tick ∧ x1.Tick ≤ 1000)))) rfl)) rfl rfl (mD (tB (!(decide (0 ≤ x1.Tick ∧ x1.Tick ≤ 1000)))) rfl rfl ?_)))))
    refine gn (0 ≤ x1.Tick ∧ x1.Tick ≤ 1000) (fun fhg37_4 => ?_) fun fhg37_4 => ?_
    · refine oD rfl rfl (ny fhg37_4) rfl ?_
      refine oD rfl rfl (ny fhg37_4) rfl (oD rfl rfl (ny fhg37_4) rfl (uD rfl rfl rfl (uD rfl rfl rfl (uD rfl rfl rfl (uD rfl rfl rfl (uD rfl rfl rfl (uD rfl rfl rfl (uD rfl rfl rfl (uD rfl rfl rfl (uD rfl rfl rfl (oD rfl rfl (ny fhg37_4) rfl ?_)))))))))))
      refine fD (OF.pickT (VEv.tmpB rfl (ny fhg37_4)) (VEv.bool true)) rfl rfl (VRunD.nil (tn (ct rfl (sr (fO (OF.assign (VEv.bool false)) (nt (rt (vinB.r (tr (tr (vinB.r ?_)))))))))))
      refine tr (vb (b' := false) rfl ?_)
      first | (symm; rw [decide_eq_false_iff_not]; rintro ⟨h2, _⟩; omega) | (symm; rw [decide_eq_true_eq]; exact ⟨by omega, allEnd hI' fhc1⟩) | (symm; rw [decide_eq_false_iff_not]; rintro ⟨_, h2⟩; obtain ⟨y, hy, h3, h4, h5, h6, h7⟩ := h2 i fhc1; obtain rfl := same_at hx1 hy; first | omega | contradiction | (obtain ⟨z, hz, h9⟩ := h7 (by omega); obtain rfl := same_at hx2 hz; omega) | (simp_all; done))
    refine VRunD.free rfl (VWant.on rfl rfl (nz fhg37_4)) rfl (OF.move (tv (tN i) rfl)) (VRunD.free rfl (VWant.on rfl rfl (nz fhg37_4)) rfl (B.gtr (c := (decide (0 < i))) (tv (tN i) rfl) (VEv.int .i64 0) (by first | exact hw _ (List.mem_of_getElem? hx1) | (exact decN (by omega)))) (VRunD.free rfl (VWant.on rfl rfl (nz fhg37_4)) rfl (OF.move (tv (tB (decide (0 < i))) rfl)) ?_))
    refine gw (0 < i) (fun fhg40_5 => ?_) fun fhg40_5 => ?_
    · refine VRunD.free rfl (VWant.on rfl rfl (dy fhg40_5)) rfl (OF.fieldAddrO (tv (T.op 0 0) rfl) fa66_3) ?_
      refine VRunD.look rfl (VWant.on rfl rfl (dy fhg40_5)) rfl (OL.loadO1 (t := (tI x1.Tick)) (tv (T.op 0 4) rfl) rfl rfl st3) (VRunD.free rfl (VWant.on rfl rfl (dy fhg40_5)) rfl (OF.move (tv (rd 5 eCorrection a) rfl)) (VRunD.free rfl (VWant.on rfl rfl (dy fhg40_5)) rfl (OF.move (tv (tN i) rfl)) (VRunD.free rfl (VWant.on rfl rfl (dy fhg40_5)) rfl (B.sub (n := ((i - 1 : Nat) : Int)) (tv (tN i) rfl) (VEv.int .i64 1) (by first | exact hw _ (List.mem_of_getElem? hx1) | rfl | (rw [wrap64 (by omega)]; omega) | (rw [wrap64 (by omega)]; done))) ?_)))
      obtain ⟨x2, hx2⟩ : ∃ x, a[i - 1]? = some x := ⟨_, List.getElem?_eq_getElem (by first | exact hw _ (List.mem_of_getElem? hx1) | omega)⟩
      refine VRunD.free rfl (VWant.on rfl rfl (dy fhg40_5)) rfl (OF.indexAddrR (row := (eCorrection false x2)) (i := i - 1) (tv (rd 5 eCorrection a) rfl) (tv (tN (i - 1)) rfl) rfl (map_at _ hx2) U58 sz66 if66) (VRunD.free rfl (VWant.on rfl rfl (dy fhg40_5)) rfl (B.fieldAddrR (us := [(tI x2.Tick)]) (tv (T.rp (eCorrection false x2)) rfl) (lb rfl) fa66_3 rfl) (VRunD.look rfl (VWant.on rfl rfl (dy fhg40_5)) rfl (OL.loadR1 (t := (tI x2.Tick)) (tv (T.rp [(tI x2.Tick)]) rfl) rfl st3) (VRunD.free rfl (VWant.on rfl rfl (dy fhg40_5)) rfl (xls (tv (tI x1.Tick) rfl) (tv (tI x2.Tick) rfl)) (VRunD.free rfl (VWant.on rfl rfl (nz fhg37_4)) rfl (OF.pickT (VEv.tmpB rfl (dy fhg40_5)) (tv (tB (decide (x1.Tick < x2.Tick))) rfl)) (fD (OF.pickF (VEv.tmpB rfl (nz fhg37_4)) (tv (tB (decide (x1.Tick < x2.Tick))) rfl)) rfl rfl (VRunD.nil (tn ?_)))))))
      refine cd (x1.Tick < x2.Tick) rfl (fun fhc2 => ?_) fun fhc2 => ?_
      · refine sr ?_
        refine fO (OF.assign (VEv.bool false)) (nt (rt (vinB.r (tr (tr (vinB.r (tr (vb (b' := false) rfl ?_))))))))
        first | (symm; rw [decide_eq_false_iff_not]; rintro ⟨h2, _⟩; omega) | (symm; rw [decide_eq_true_eq]; exact ⟨by omega, allEnd hI' fhc1⟩) | (symm; rw [decide_eq_false_iff_not]; rintro ⟨_, h2⟩; obtain ⟨y, hy, h3, h4, h5, h6, h7⟩ := h2 i fhc1; obtain rfl := same_at hx1 hy; first | omega | contradiction | (obtain ⟨z, hz, h9⟩ := h7 (by omega); obtain rfl := same_at hx2 hz; omega) | (simp_all; done))
      refine sk (vinB.n (tn (VRun.region (fO (xinc (tv (tN i) rfl) (VEv.int .i64 1) (by first | exact hw _ (List.mem_of_getElem? hx1) | omega)) (mO (tN (i + 1)) rfl (VRunO.nil (tn ?_)))))))
      refine ⟨(i + 1 : Nat), ?_, ?_, Wk.mk (fun k => k) ?_ ?_ ?_⟩
      · refine allNext hI0 fhc1 ⟨x1, hx1, by omega, by omega, by assumption, by omega, fun h0 => ?_⟩
        first | (exact absurd h0 (by omega)) | (refine ⟨x2, hx2, ?_⟩; omega)
      · first | omega | (simp only []; omega) | (show _ < _; omega) | (simp; omega)
      · exact (b2 (b2 (b2 (b2 bn))))
      · exact bn
      · exact nd rfl
    refine oD rfl rfl (dz fhg40_5) rfl (oD rfl rfl (dz fhg40_5) rfl (oD rfl rfl (dz fhg40_5) rfl (oD rfl rfl (dz fhg40_5) rfl (oD rfl rfl (dz fhg40_5) rfl (oD rfl rfl (dz fhg40_5) rfl (oD rfl rfl (dz fhg40_5) rfl (oD rfl rfl (dz fhg40_5) rfl (oD rfl rfl (dz fhg40_5) rfl (VRunD.free rfl (VWant.on rfl rfl (nz fhg37_4)) rfl (OF.pickF (VEv.tmpB rfl (dz fhg40_5)) (VEv.bool false)) (fD (OF.pickF (VEv.tmpB rfl (nz fhg37_4)) (tv (tB false) rfl)) rfl rfl (VRunD.nil ?_)))))))))))
    refine tn (cf rfl (sk (vinB.n (tn (VRun.region (fO (xinc (tv (tN i) rfl) (VEv.int .i64 1) (by first | exact hw _ (List.mem_of_getElem? hx1) | omega)) (mO (tN (i + 1)) rfl (VRunO.nil (tn ?_)))))))))
    refine ⟨(i + 1 : Nat), ?_, ?_, Wk.mk (fun k => k) ?_ ?_ ?_⟩
    · refine allNext hI0 fhc1 ⟨x1, hx1, by omega, by omega, by assumption, by omega, fun h0 => ?_⟩
      first | (exact absurd h0 (by omega)) | (refine ⟨x2, hx2, ?_⟩; omega)
    · first | omega | (simp only []; omega) | (show _ < _; omega) | (simp; omega)
    · exact (b2 (b2 (b2 (b2 bn))))
    · exact bn
    · exact nd rfl
  refine VRun.exit (vthn.e (vthn.e (vinB.e (tn (sr (fO (OF.assign (VEv.bool true)) (nt (rt (vb (b' := true) rfl ?_)))))))))
  first | (symm; rw [decide_eq_false_iff_not]; rintro ⟨h2, _⟩; omega) | (symm; rw [decide_eq_true_eq]; exact ⟨by omega, allEnd hI' fhc1⟩) | (symm; rw [decide_eq_false_iff_not]; rintro ⟨_, h2⟩; obtain ⟨y, hy, h3, h4, h5, h6, h7⟩ := h2 i fhc1; obtain rfl := same_at hx1 hy; first | omega | contradiction | (obtain ⟨z, hz, h9⟩ := h7 (by omega); obtain rfl := same_at hx2 hz; omega) | (simp_all; done))
end Go.Proofs.Ytfpnmphheminbaa.AE
namespace Go.Proofs.Ytfpnmphheminbaa.AE
open Go Go.RowKit
set_option linter.unusedVariables false
set_option linter.unusedSimpArgs false
set_option maxRecDepth 20000
set_option maxHeartbeats 2000000
noncomputable section
def mDig : Nat → Int → ByteArray → ByteArray
  | 0, _, acc => acc
  | f + 1, k, acc => if 0 < k then mDig f (k.tdiv 10) (mkStr [IntKind.u8.wrap (48 + k.tmod 10)] ++ acc) else acc
def mtxt (k : Int) : ByteArray := if k ≤ 0 then ⟨#[109, 48]⟩ else ⟨#[109]⟩ ++ mDig k.toNat k ⟨#[]⟩
theorem mDig_next {f : Nat} {k : Int} {acc : ByteArray} (hk : 0 < k) (hf : k.toNat ≤ f) : 0 ≤ k.tdiv 10 ∧ (k.tdiv 10).toNat ≤ f - 1 ∧ mDig f k acc = mDig (f - 1) (k.tdiv 10) (mkStr [IntKind.u8.wrap (48 + k.tmod 10)] ++ acc) := by
  have h1 : k.tdiv 10 = k / 10 := Int.tdiv_eq_ediv_of_nonneg (by omega)
  cases f with
  | zero => omega
  | succ f =>
    refine ⟨by omega, by omega, ?_⟩
    simp only [mDig, if_pos hk]
    rfl
theorem mDig_end {f : Nat} {k : Int} {acc : ByteArray} (hk : ¬ 0 < k) : mDig f k acc = acc := by
  cases f with
  | zero => rfl
  | succ f => simp only [mDig, if_neg hk]
theorem mkStr1 (n : Int) : (mkStr [n]).size = 1 := rfl
theorem tmod10 {k : Int} (h : 0 < k) : 0 ≤ k.tmod 10 ∧ k.tmod 10 < 10 ∧ 0 ≤ k.tdiv 10 ∧ k.tdiv 10 ≤ k := by
  rw [Int.tmod_eq_emod_of_nonneg (by omega), Int.tdiv_eq_ediv_of_nonneg (by omega)]
  omega
end
theorem W_laws_markText (n : Nat) (q : Int) (hq : q ≤ lim) : Pure (acall Try.prog (n + 1)) 49 [(tI q)] (tS (mtxt q)) := by
  refine Pure.intro (rs := [ResultVar.tmp 2]) Try.func49 rfl rfl rfl (E0 := [(0, (tI q))]) rfl ?_
  obtain ⟨hlim, hmx, hmax⟩ := lims
  refine sr (fO (OF.assign (VEv.str (⟨#[]⟩ : ByteArray))) (nt (sq (sr (mO (tI q) rfl (fO (xle (tv (tI q) rfl) (VEv.int .i64 0)) (nt ?_)))))))
  refine cd (q ≤ 0) rfl (fun fhc0 => ?_) fun fhc0 => ?_
  · refine sr ?_
    refine fO (OF.assign (VEv.str (⟨#[109, 48]⟩ : ByteArray))) (nt (rt (tr ?_)))
    refine vfin.eq (r' := (tS (⟨#[109, 48]⟩ : ByteArray))) ?_ (vfin.r (VRes.tmp (t := (tS (⟨#[109, 48]⟩ : ByteArray))) rfl VRes.nil) (Give.str _))
    show (tS (⟨#[109, 48]⟩ : ByteArray)) = (tS (mtxt q))
    refine congrArg T.str ?_
    exact (if_pos fhc0).symm
  refine sk (tn (sr (fO (OF.assign (VEv.str (⟨#[]⟩ : ByteArray))) (nt (sq (VRun.block ?_))))))
  refine VRun.loop (A := Int × Nat × ByteArray) (fun s_ => [(0, (tI s_.1)), (2, (tS (⟨#[]⟩ : ByteArray))), (3, (tS s_.2.2))]) (fun s_ => mkO []) 0 (fun s_ => 0 ≤ s_.1 ∧ s_.1.toNat ≤ s_.2.1 ∧ s_.2.2.size + s_.2.1 ≤ q.toNat ∧ mDig q.toNat q ⟨#[]⟩ = mDig s_.2.1 s_.1 s_.2.2) (fun s_ => s_.2.1) ((q, q.toNat, ⟨#[]⟩) : Int × Nat × ByteArray) ?_ (Wk.mk (fun k => k) ?_ ?_ ?_) ?_
  · exact ⟨by omega, Nat.le_refl _, by show 0 + q.toNat ≤ q.toNat; omega, rfl⟩
  · exact (b2 (b2 (bc ⟨(congrArg T.str (show (⟨#[]⟩ : ByteArray) = ⟨#[]⟩ from (by rfl))), rfl⟩ bn)))
  · exact bn
  · exact nd rfl
  rintro ⟨k, f, acc⟩ (hI' : 0 ≤ k ∧ k.toNat ≤ f ∧ acc.size + f ≤ q.toNat ∧ mDig q.toNat q ⟨#[]⟩ = mDig f k acc)
  show VRun _ _ _ [(0, (tI k)), (2, (tS (⟨#[]⟩ : ByteArray))), (3, (tS acc))] (mkO []) 0 _
  have hI1 := hI'.1
  have hI2 := hI'.2.1
  have hI3 := hI'.2.2.1
  have hI4 := hI'.2.2.2
  refine sq (sr (mO (tI k) rfl (fO (xgt (tv (tI k) rfl) (VEv.int .i64 0)) (nt ?_))))
  refine cd (0 < k) rfl (fun fhc1 => ?_) fun fhc1 => ?_
  · obtain ⟨m1, m2, m3, m4⟩ := tmod10 fhc1
    refine sk (tn (VRun.block (sr (mO (tI k) rfl (fO (B.rem (n := (k.tmod 10)) (tv (tI k) rfl) (VEv.int .i64 10) (by omega) (by rfl)) (fO (B.add (n := (48 + (k.tmod 10))) (VEv.int .i64 48) (tv (tI (k.tmod 10)) rfl) (by (rw [wrap64 (by omega)]; done))) (fO (OF.convI (tv (tI (48 + (k.tmod 10))) rfl) (k0 := .i64) U3 U5) (kO (OM.buildSlice (l := [(T.int .u8 (IntKind.u8.wrap (48 + (k.tmod 10))))]) (VEvp.cons (tv (T.int .u8 (IntKind.u8.wrap (48 + (k.tmod 10)))) rfl) VEvp.nil) rfl (by decide) (bc (nofun) bn) (bc ((bc (rfl) bn)) bn) (bc (rfl) bn) U98 zo5 (by kernel_rfl) rfl (by rw [sz5]; decide) sz5 (Nat.le_of_ble_eq_true rfl)) (lO (B.convBS (l := [IntKind.u8.wrap (48 + (k.tmod 10))]) (tv (T.os 1 0 0 1) rfl) rfl rfl U98 U5 U9) (mO (tS acc) rfl (fO (B.sadd (tv (tS (mkStr [IntKind.u8.wrap (48 + (k.tmod 10))])) rfl) (tv (tS acc) rfl) (by (simp only [mkStr1]; omega))) ?_)))))))))))
    refine aO (tS ((mkStr [IntKind.u8.wrap (48 + (k.tmod 10))]) ++ acc)) rfl (nt (VRun.region (mO (tI k) rfl (fO (B.quo (n := (k.tdiv 10)) (tv (tI k) rfl) (VEv.int .i64 10) (by omega) (by (rw [wrap64 (by omega)]; done))) (aO (tI (k.tdiv 10)) rfl (VRunO.nil (vinB.n (tn ?_))))))))
    obtain ⟨n1, n2, n3⟩ := mDig_next (acc := acc) fhc1 hI2
    refine ⟨((k.tdiv 10, f - 1, mkStr [IntKind.u8.wrap (48 + k.tmod 10)] ++ acc) : Int × Nat × ByteArray), ?_, ?_, Wk.mk (fun k => k) ?_ ?_ ?_⟩
    · exact ⟨n1, n2, by show (mkStr _ ++ acc).size + (f - 1) ≤ q.toNat; rw [ByteArray.size_append, mkStr1]; omega, hI4.trans n3⟩
    · (simp only []; omega)
    · exact (b2 (b2 (bc ⟨(congrArg T.str (show ((mkStr [IntKind.u8.wrap (48 + (k.tmod 10))]) ++ acc) = (mkStr [IntKind.u8.wrap (48 + k.tmod 10)] ++ acc) from (by rfl))), rfl⟩ bn)))
    · exact bn
    · exact nd rfl
  refine VRun.exit (vthn.e (vthn.e (vinB.e (tn (sr (mO (tS acc) rfl (fO (B.sadd (VEv.str (⟨#[109]⟩ : ByteArray)) (tv (tS acc) rfl) (by (rw [show (⟨#[109]⟩ : ByteArray).size = 1 from rfl]; omega))) (aO (tS ((⟨#[109]⟩ : ByteArray) ++ acc)) rfl (nt (rt ?_))))))))))
  refine vfin.eq (r' := (tS ((⟨#[109]⟩ : ByteArray) ++ acc))) ?_ (vfin.r (VRes.tmp (t := (tS ((⟨#[109]⟩ : ByteArray) ++ acc))) rfl VRes.nil) (Give.str _))
  show (tS ((⟨#[109]⟩ : ByteArray) ++ acc)) = (tS (mtxt q))
  refine congrArg T.str ?_
  unfold mtxt
  rw [if_neg fhc0, hI4, mDig_end fhc1]
end Go.Proofs.Ytfpnmphheminbaa.AE
namespace Go.Proofs.Ytfpnmphheminbaa.AE
open Go Go.RowKit
set_option linter.unusedVariables false
set_option linter.unusedSimpArgs false
set_option maxRecDepth 20000
set_option maxHeartbeats 2000000
noncomputable section
def mStep (k : Nat) : D.Step := (D.Step.mk ((k : Nat) : Int) (mtxt ((k + 1 : Nat) : Int)) ((k + 2 : Nat) : Int) ((k + 3 : Nat) : Int))
end
theorem W_laws_markStepS (n : Nat) (a : List D.Step) (k : Nat) (hk : k + 4 * a.length ≤ lim) : Mut (acall Try.prog (n + 2)) 64 4 (a.map (eStep true)) [(tN k)] (some ((k + 4 * a.length : Nat) : Int)) ((mkN mStep 4 k a.length).map (eStep true)) := by
  refine Mut.intro (rt := 4) Try.func64 rfl rfl rfl (by kernel_rfl) (scMap (fun _ => rfl) _) (scMap (fun _ => rfl) _) (E0 := [(1, (tN k))]) rfl ?_
  obtain ⟨hlim, hmx, hmax⟩ := lims
  refine sr (fO (OF.assign (VEv.int .i64 0)) (nt (sq (sr (fO (OF.assign (VEv.int .i64 0)) (nt (VRun.block ?_)))))))
  have he1 : a = mkI mStep 4 k a 0 := by rfl
  refine VRun.loop (A := Nat) (fun s_ => [(0, (T.os 4 0 0 (((mkI mStep 4 k a s_).map (eStep true)).length))), (1, (tN (k + 4 * s_))), (4, (tN 0)), (5, (tN s_))]) (fun s_ => mkO [(0, (Obj.rows 4 ((mkI mStep 4 k a s_).map (eStep true))))]) 1 (fun s_ => s_ ≤ a.length) (fun s_ => a.length - s_) (0 : Nat) ?_ (Wk.mk (fun k => k) ?_ ?_ ?_) ?_
  · (simp; done)
  · exact (bc ⟨(congrArg (fun l_ => T.os 4 0 0 (List.map (eStep true) l_).length) he1), rfl⟩ (bc ⟨(congrArg (T.int .i64) (show ((k : Nat) : Int) = ((k + 4 * 0 : Nat) : Int) from (by rfl))), rfl⟩ (b2 (b2 bn))))
  · exact (bc ⟨(congrArg (fun l_ => some (Obj.rows 4 (List.map (eStep true) l_))) he1), (lb rfl), rfl⟩ bn)
  · exact nd rfl
  rintro i (hI' : i ≤ a.length)
  show VRun _ _ _ [(0, (T.os 4 0 0 (((mkI mStep 4 k a i).map (eStep true)).length))), (1, (tN (k + 4 * i))), (4, (tN 0)), (5, (tN i))] (mkO [(0, (Obj.rows 4 ((mkI mStep 4 k a i).map (eStep true))))]) 1 _
  have hml := mkI_len (f := mStep) (w := 4) (k := k) hI'
  refine sq (sr (mO (tN i) rfl (mO (T.os 4 0 0 (((mkI mStep 4 k a i).map (eStep true)).length)) rfl (lO (B.lenO (m := (mkI mStep 4 k a i).length) (tv (T.os 4 0 0 (((mkI mStep 4 k a i).map (eStep true)).length)) rfl) U62 (List.length_map ..)) (fO (xls' (tv (tN i) rfl) (tv (tN ((mkI mStep 4 k a i).length)) rfl)) (nt ?_))))))
  refine cd (i < (mkI mStep 4 k a i).length) rfl (fun fhc0 => ?_) fun fhc0 => ?_
  · refine sk ?_
    refine tn (sq (VRun.block (sr (mO (T.os 4 0 0 (((mkI mStep 4 k a i).map (eStep true)).length)) rfl (mO (tN i) rfl (mO (tN (k + 4 * i)) rfl ?_))))))
    obtain ⟨x1, hx1⟩ : ∃ x, (mkI mStep 4 k a i)[i]? = some x := ⟨_, List.getElem?_eq_getElem (by omega)⟩
    refine fO (B.indexAddrO (i := i) (tv (T.os 4 0 0 (((mkI mStep 4 k a i).map (eStep true)).length)) rfl) (tv (tN i) rfl) rfl (by (simp only [List.length_map]; omega)) U62 sz106 if106) (fO (OF.fieldAddrP (tv (T.orp 4 0 i 0) rfl) fa106_0) (cO (B.storeP (us := [(tN (k + 4 * i))]) (rows' := (((mkI mStep 4 k a i).set i (D.Step.mk ((k + 4 * i : Nat) : Int) x1.Word x1.A x1.B)).map (eStep true))) (row := (eStep true x1)) (tv (T.orp 4 0 i 0) rfl) (tv (tN (k + 4 * i)) rfl) nofun rfl (map_at _ hx1) rfl (lb rfl) if3 sz3 (bc rfl bn) (by intro r hr t ht; obtain ⟨x, _, rfl⟩ := List.mem_map.1 hr; rw [flStep] at ht; exact isPl_flat (okeStep.pl _ t ht)) (set_mapE rfl)) (nt (sr (mO (tN (k + 4 * i)) rfl (fO (xinc (tv (tN (k + 4 * i)) rfl) (VEv.int .i64 1) (by omega)) (aO (tN (k + 4 * i + 1)) rfl (nt (sr (mO (T.os 4 0 0 (((mkI mStep 4 k a i).map (eStep true)).length)) rfl (mO (tN i) rfl ?_)))))))))))
    refine mO (tN (k + 4 * i + 1)) rfl (cO (cS (vc (tv (tN (k + 4 * i + 1)) rfl) vn) (lps rfl) (W_laws_markText (n + 0) (((k + 4 * i + 1) : Nat) : Int) (by omega)) rfl rfl) (fO (B.indexAddrO (i := i) (tv (T.os 4 0 0 (((mkI mStep 4 k a i).map (eStep true)).length)) rfl) (tv (tN i) rfl) rfl (by (simp only [List.length_map]; omega)) U62 sz106 if106) (fO (OF.fieldAddrP (tv (T.orp 4 0 i 0) rfl) fa106_1) (cO (B.storeP (us := [(tS (mtxt (((k + 4 * i + 1) : Nat) : Int)))]) (rows' := ((((mkI mStep 4 k a i).set i (D.Step.mk ((k + 4 * i : Nat) : Int) x1.Word x1.A x1.B)).set i (D.Step.mk ((D.Step.mk ((k + 4 * i : Nat) : Int) x1.Word x1.A x1.B).Kind) (mtxt (((k + 4 * i + 1) : Nat) : Int)) ((D.Step.mk ((k + 4 * i : Nat) : Int) x1.Word x1.A x1.B).A) ((D.Step.mk ((k + 4 * i : Nat) : Int) x1.Word x1.A x1.B).B))).map (eStep true))) (row := (eStep true (D.Step.mk ((k + 4 * i : Nat) : Int) x1.Word x1.A x1.B))) (tv (T.orp 4 0 i 1) rfl) (tv (tS (mtxt (((k + 4 * i + 1) : Nat) : Int))) rfl) nofun rfl (map_at _ (set_at (by omega))) rfl (lb rfl) if9 sz9 (bc rfl bn) (by intro r hr t ht; obtain ⟨x, _, rfl⟩ := List.mem_map.1 hr; rw [flStep] at ht; exact isPl_flat (okeStep.pl _ t ht)) (set_mapE rfl)) (nt (sr (mO (tN (k + 4 * i + 1)) rfl (fO (xinc (tv (tN (k + 4 * i + 1)) rfl) (VEv.int .i64 1) (by omega)) (aO (tN ((k + 4 * i + 1) + 1)) rfl (nt (sr ?_)))))))))))
    refine mO (T.os 4 0 0 (((mkI mStep 4 k a i).map (eStep true)).length)) rfl (mO (tN i) rfl (mO (tN ((k + 4 * i + 1) + 1)) rfl (fO (B.indexAddrO (i := i) (tv (T.os 4 0 0 (((mkI mStep 4 k a i).map (eStep true)).length)) rfl) (tv (tN i) rfl) rfl (by (simp only [List.length_map]; omega)) U62 sz106 if106) (fO (OF.fieldAddrP (tv (T.orp 4 0 i 0) rfl) fa106_2) (cO (B.storeP (us := [(tN ((k + 4 * i + 1) + 1))]) (rows' := (((((mkI mStep 4 k a i).set i (D.Step.mk ((k + 4 * i : Nat) : Int) x1.Word x1.A x1.B)).set i (D.Step.mk ((D.Step.mk ((k + 4 * i : Nat) : Int) x1.Word x1.A x1.B).Kind) (mtxt (((k + 4 * i + 1) : Nat) : Int)) ((D.Step.mk ((k + 4 * i : Nat) : Int) x1.Word x1.A x1.B).A) ((D.Step.mk ((k + 4 * i : Nat) : Int) x1.Word x1.A x1.B).B))).set i (D.Step.mk ((D.Step.mk ((D.Step.mk ((k + 4 * i : Nat) : Int) x1.Word x1.A x1.B).Kind) (mtxt (((k + 4 * i + 1) : Nat) : Int)) ((D.Step.mk ((k + 4 * i : Nat) : Int) x1.Word x1.A x1.B).A) ((D.Step.mk ((k + 4 * i : Nat) : Int) x1.Word x1.A x1.B).B)).Kind) ((D.Step.mk ((D.Step.mk ((k + 4 * i : Nat) : Int) x1.Word x1.A x1.B).Kind) (mtxt (((k + 4 * i + 1) : Nat) : Int)) ((D.Step.mk ((k + 4 * i : Nat) : Int) x1.Word x1.A x1.B).A) ((D.Step.mk ((k + 4 * i : Nat) : Int) x1.Word x1.A x1.B).B)).Word) ((((k + 4 * i + 1) + 1) : Nat) : Int) ((D.Step.mk ((D.Step.mk ((k + 4 * i : Nat) : Int) x1.Word x1.A x1.B).Kind) (mtxt (((k + 4 * i + 1) : Nat) : Int)) ((D.Step.mk ((k + 4 * i : Nat) : Int) x1.Word x1.A x1.B).A) ((D.Step.mk ((k + 4 * i : Nat) : Int) x1.Word x1.A x1.B).B)).B))).map (eStep true))) (row := (eStep true (D.Step.mk ((D.Step.mk ((k + 4 * i : Nat) : Int) x1.Word x1.A x1.B).Kind) (mtxt (((k + 4 * i + 1) : Nat) : Int)) ((D.Step.mk ((k + 4 * i : Nat) : Int) x1.Word x1.A x1.B).A) ((D.Step.mk ((k + 4 * i : Nat) : Int) x1.Word x1.A x1.B).B)))) (tv (T.orp 4 0 i 2) rfl) (tv (tN ((k + 4 * i + 1) + 1)) rfl) nofun rfl (map_at _ (set_at (by (simp only [List.length_set]; omega)))) rfl (lb rfl) if3 sz3 (bc rfl bn) (by intro r hr t ht; obtain ⟨x, _, rfl⟩ := List.mem_map.1 hr; rw [flStep] at ht; exact isPl_flat (okeStep.pl _ t ht)) (set_mapE rfl)) (nt (sr (mO (tN ((k + 4 * i + 1) + 1)) rfl (fO (xinc (tv (tN ((k + 4 * i + 1) + 1)) rfl) (VEv.int .i64 1) (by omega)) (aO (tN (((k + 4 * i + 1) + 1) + 1)) rfl (nt ?_)))))))))))
    refine sr (mO (T.os 4 0 0 (((mkI mStep 4 k a i).map (eStep true)).length)) rfl (mO (tN i) rfl (mO (tN (((k + 4 * i + 1) + 1) + 1)) rfl (fO (B.indexAddrO (i := i) (tv (T.os 4 0 0 (((mkI mStep 4 k a i).map (eStep true)).length)) rfl) (tv (tN i) rfl) rfl (by (simp only [List.length_map]; omega)) U62 sz106 if106) (fO (OF.fieldAddrP (tv (T.orp 4 0 i 0) rfl) fa106_3) (cO (B.storeP (us := [(tN (((k + 4 * i + 1) + 1) + 1))]) (rows' := ((((((mkI mStep 4 k a i).set i (D.Step.mk ((k + 4 * i : Nat) : Int) x1.Word x1.A x1.B)).set i (D.Step.mk ((D.Step.mk ((k + 4 * i : Nat) : Int) x1.Word x1.A x1.B).Kind) (mtxt (((k + 4 * i + 1) : Nat) : Int)) ((D.Step.mk ((k + 4 * i : Nat) : Int) x1.Word x1.A x1.B).A) ((D.Step.mk ((k + 4 * i : Nat) : Int) x1.Word x1.A x1.B).B))).set i (D.Step.mk ((D.Step.mk ((D.Step.mk ((k + 4 * i : Nat) : Int) x1.Word x1.A x1.B).Kind) (mtxt (((k + 4 * i + 1) : Nat) : Int)) ((D.Step.mk ((k + 4 * i : Nat) : Int) x1.Word x1.A x1.B).A) ((D.Step.mk ((k + 4 * i : Nat) : Int) x1.Word x1.A x1.B).B)).Kind) ((D.Step.mk ((D.Step.mk ((k + 4 * i : Nat) : Int) x1.Word x1.A x1.B).Kind) (mtxt (((k + 4 * i + 1) : Nat) : Int)) ((D.Step.mk ((k + 4 * i : Nat) : Int) x1.Word x1.A x1.B).A) ((D.Step.mk ((k + 4 * i : Nat) : Int) x1.Word x1.A x1.B).B)).Word) ((((k + 4 * i + 1) + 1) : Nat) : Int) ((D.Step.mk ((D.Step.mk ((k + 4 * i : Nat) : Int) x1.Word x1.A x1.B).Kind) (mtxt (((k + 4 * i + 1) : Nat) : Int)) ((D.Step.mk ((k + 4 * i : Nat) : Int) x1.Word x1.A x1.B).A) ((D.Step.mk ((k + 4 * i : Nat) : Int) x1.Word x1.A x1.B).B)).B))).set i (D.Step.mk ((D.Step.mk ((D.Step.mk ((D.Step.mk ((k + 4 * i : Nat) : Int) x1.Word x1.A x1.B).Kind) (mtxt (((k + 4 * i + 1) : Nat) : Int)) ((D.Step.mk ((k + 4 * i : Nat) : Int) x1.Word x1.A x1.B).A) ((D.Step.mk ((k + 4 * i : Nat) : Int) x1.Word x1.A x1.B).B)).Kind) ((D.Step.mk ((D.Step.mk ((k + 4 * i : Nat) : Int) x1.Word x1.A x1.B).Kind) (mtxt (((k + 4 * i + 1) : Nat) : Int)) ((D.Step.mk ((k + 4 * i : Nat) : Int) x1.Word x1.A x1.B).A) ((D.Step.mk ((k + 4 * i : Nat) : Int) x1.Word x1.A x1.B).B)).Word) ((((k + 4 * i + 1) + 1) : Nat) : Int) ((D.Step.mk ((D.Step.mk ((k + 4 * i : Nat) : Int) x1.Word x1.A x1.B).Kind) (mtxt (((k + 4 * i + 1) : Nat) : Int)) ((D.Step.mk ((k + 4 * i : Nat) : Int) x1.Word x1.A x1.B).A) ((D.Step.mk ((k + 4 * i : Nat) : Int) x1.Word x1.A x1.B).B)).B)).Kind) ((D.Step.mk ((D.Step.mk ((D.Step.mk ((k + 4 * i : Nat) : Int) x1.Word x1.A x1.B).Kind) (mtxt (((k + 4 * i + 1) : Nat) : Int)) ((D.Step.mk ((k + 4 * i : Nat) : Int) x1.Word x1.A x1.B).A) ((D.Step.mk ((k + 4 * i : Nat) : Int) x1.Word x1.A x1.B).B)).Kind) ((D.Step.mk ((D.Step.mk ((k + 4 * i : Nat) : Int) x1.Word x1.A x1.B).Kind) (mtxt (((k + 4 * i + 1) : Nat) : Int)) ((D.Step.mk ((k + 4 * i : Nat) : Int) x1.Word x1.A x1.B).A) ((D.Step.mk ((k + 4 * i : Nat) : Int) x1.Word x1.A x1.B).B)).Word) ((((k + 4 * i + 1) + 1) : Nat) : Int) ((D.Step.mk ((D.Step.mk ((k + 4 * i : Nat) : Int) x1.Word x1.A x1.B).Kind) (mtxt (((k + 4 * i + 1) : Nat) : Int)) ((D.Step.mk ((k + 4 * i : Nat) : Int) x1.Word x1.A x1.B).A) ((D.Step.mk ((k + 4 * i : Nat) : Int) x1.Word x1.A x1.B).B)).B)).Word) ((D.Step.mk ((D.Step.mk ((D.Step.mk ((k + 4 * i : Nat) : Int) x1.Word x1.A x1.B).Kind) (mtxt (((k + 4 * i + 1) : Nat) : Int)) ((D.Step.mk ((k + 4 * i : Nat) : Int) x1.Word x1.A x1.B).A) ((D.Step.mk ((k + 4 * i : Nat) : Int) x1.Word x1.A x1.B).B)).Kind) ((D.Step.mk ((D.Step.mk ((k + 4 * i : Nat) : Int) x1.Word x1.A x1.B).Kind) (mtxt (((k + 4 * i + 1) : Nat) : Int)) ((D.Step.mk ((k + 4 * i : Nat) : Int) x1.Word x1.A x1.B).A) ((D.Step.mk ((k + 4 * i : Nat) : Int) x1.Word x1.A x1.B).B)).Word) ((((k + 4 * i + 1) + 1) : Nat) : Int) ((D.Step.mk ((D.Step.mk ((k + 4 * i : Nat) : Int) x1.Word x1.A x1.B).Kind) (mtxt (((k + 4 * i + 1) : Nat) : Int)) ((D.Step.mk ((k + 4 * i : Nat) : Int) x1.Word x1.A x1.B).A) ((D.Step.mk ((k + 4 * i : Nat) : Int) x1.Word x1.A x1.B).B)).B)).A) (((((k + 4 * i + 1) + 1) + 1) : Nat) : Int))).map (eStep true))) (row := (eStep true (D.Step.mk ((D.Step.mk ((D.Step.mk ((k + 4 * i : Nat) : Int) x1.Word x1.A x1.B).Kind) (mtxt (((k + 4 * i + 1) : Nat) : Int)) ((D.Step.mk ((k + 4 * i : Nat) : Int) x1.Word x1.A x1.B).A) ((D.Step.mk ((k + 4 * i : Nat) : Int) x1.Word x1.A x1.B).B)).Kind) ((D.Step.mk ((D.Step.mk ((k + 4 * i : Nat) : Int) x1.Word x1.A x1.B).Kind) (mtxt (((k + 4 * i + 1) : Nat) : Int)) ((D.Step.mk ((k + 4 * i : Nat) : Int) x1.Word x1.A x1.B).A) ((D.Step.mk ((k + 4 * i : Nat) : Int) x1.Word x1.A x1.B).B)).Word) ((((k + 4 * i + 1) + 1) : Nat) : Int) ((D.Step.mk ((D.Step.mk ((k + 4 * i : Nat) : Int) x1.Word x1.A x1.B).Kind) (mtxt (((k + 4 * i + 1) : Nat) : Int)) ((D.Step.mk ((k + 4 * i : Nat) : Int) x1.Word x1.A x1.B).A) ((D.Step.mk ((k + 4 * i : Nat) : Int) x1.Word x1.A x1.B).B)).B)))) (tv (T.orp 4 0 i 3) rfl) (tv (tN (((k + 4 * i + 1) + 1) + 1)) rfl) nofun rfl (map_at _ (set_at (by (simp only [List.length_set]; omega)))) rfl (lb rfl) if3 sz3 (bc rfl bn) (by intro r hr t ht; obtain ⟨x, _, rfl⟩ := List.mem_map.1 hr; rw [flStep] at ht; exact isPl_flat (okeStep.pl _ t ht)) (set_mapE rfl)) ?_))))))
    refine nt (VRun.region (mO (tN (((k + 4 * i + 1) + 1) + 1)) rfl (fO (xinc (tv (tN (((k + 4 * i + 1) + 1) + 1)) rfl) (VEv.int .i64 1) (by omega)) (aO (tN ((((k + 4 * i + 1) + 1) + 1) + 1)) rfl (VRunO.nil (vinB.n (tn (VRun.region (mO (tN i) rfl (fO (xinc (tv (tN i) rfl) (VEv.int .i64 1) (by omega)) (aO (tN (i + 1)) rfl ?_)))))))))))
    refine VRunO.nil (tn ?_)
    have hi1 : i + 1 ≤ a.length := by omega
    have he2 : (((((mkI mStep 4 k a i).set i (D.Step.mk ((k + 4 * i : Nat) : Int) x1.Word x1.A x1.B)).set i (D.Step.mk ((D.Step.mk ((k + 4 * i : Nat) : Int) x1.Word x1.A x1.B).Kind) (mtxt (((k + 4 * i + 1) : Nat) : Int)) ((D.Step.mk ((k + 4 * i : Nat) : Int) x1.Word x1.A x1.B).A) ((D.Step.mk ((k + 4 * i : Nat) : Int) x1.Word x1.A x1.B).B))).set i (D.Step.mk ((D.Step.mk ((D.Step.mk ((k + 4 * i : Nat) : Int) x1.Word x1.A x1.B).Kind) (mtxt (((k + 4 * i + 1) : Nat) : Int)) ((D.Step.mk ((k + 4 * i : Nat) : Int) x1.Word x1.A x1.B).A) ((D.Step.mk ((k + 4 * i : Nat) : Int) x1.Word x1.A x1.B).B)).Kind) ((D.Step.mk ((D.Step.mk ((k + 4 * i : Nat) : Int) x1.Word x1.A x1.B).Kind) (mtxt (((k + 4 * i + 1) : Nat) : Int)) ((D.Step.mk ((k + 4 * i : Nat) : Int) x1.Word x1.A x1.B).A) ((D.Step.mk ((k + 4 * i : Nat) : Int) x1.Word x1.A x1.B).B)).Word) ((((k + 4 * i + 1) + 1) : Nat) : Int) ((D.Step.mk ((D.Step.mk ((k + 4 * i : Nat) : Int) x1.Word x1.A x1.B).Kind) (mtxt (((k + 4 * i + 1) : Nat) : Int)) ((D.Step.mk ((k + 4 * i : Nat) : Int) x1.Word x1.A x1.B).A) ((D.Step.mk ((k + 4 * i : Nat) : Int) x1.Word x1.A x1.B).B)).B))).set i (D.Step.mk ((D.Step.mk ((D.Step.mk ((D.Step.mk ((k + 4 * i : Nat) : Int) x1.Word x1.A x1.B).Kind) (mtxt (((k + 4 * i + 1) : Nat) : Int)) ((D.Step.mk ((k + 4 * i : Nat) : Int) x1.Word x1.A x1.B).A) ((D.Step.mk ((k + 4 * i : Nat) : Int) x1.Word x1.A x1.B).B)).Kind) ((D.Step.mk ((D.Step.mk ((k + 4 * i : Nat) : Int) x1.Word x1.A x1.B).Kind) (mtxt (((k + 4 * i + 1) : Nat) : Int)) ((D.Step.mk ((k + 4 * i : Nat) : Int) x1.Word x1.A x1.B).A) ((D.Step.mk ((k + 4 * i : Nat) : Int) x1.Word x1.A x1.B).B)).Word) ((((k + 4 * i + 1) + 1) : Nat) : Int) ((D.Step.mk ((D.Step.mk ((k + 4 * i : Nat) : Int) x1.Word x1.A x1.B).Kind) (mtxt (((k + 4 * i + 1) : Nat) : Int)) ((D.Step.mk ((k + 4 * i : Nat) : Int) x1.Word x1.A x1.B).A) ((D.Step.mk ((k + 4 * i : Nat) : Int) x1.Word x1.A x1.B).B)).B)).Kind) ((D.Step.mk ((D.Step.mk ((D.Step.mk ((k + 4 * i : Nat) : Int) x1.Word x1.A x1.B).Kind) (mtxt (((k + 4 * i + 1) : Nat) : Int)) ((D.Step.mk ((k + 4 * i : Nat) : Int) x1.Word x1.A x1.B).A) ((D.Step.mk ((k + 4 * i : Nat) : Int) x1.Word x1.A x1.B).B)).Kind) ((D.Step.mk ((D.Step.mk ((k + 4 * i : Nat) : Int) x1.Word x1.A x1.B).Kind) (mtxt (((k + 4 * i + 1) : Nat) : Int)) ((D.Step.mk ((k + 4 * i : Nat) : Int) x1.Word x1.A x1.B).A) ((D.Step.mk ((k + 4 * i : Nat) : Int) x1.Word x1.A x1.B).B)).Word) ((((k + 4 * i + 1) + 1) : Nat) : Int) ((D.Step.mk ((D.Step.mk ((k + 4 * i : Nat) : Int) x1.Word x1.A x1.B).Kind) (mtxt (((k + 4 * i + 1) : Nat) : Int)) ((D.Step.mk ((k + 4 * i : Nat) : Int) x1.Word x1.A x1.B).A) ((D.Step.mk ((k + 4 * i : Nat) : Int) x1.Word x1.A x1.B).B)).B)).Word) ((D.Step.mk ((D.Step.mk ((D.Step.mk ((k + 4 * i : Nat) : Int) x1.Word x1.A x1.B).Kind) (mtxt (((k + 4 * i + 1) : Nat) : Int)) ((D.Step.mk ((k + 4 * i : Nat) : Int) x1.Word x1.A x1.B).A) ((D.Step.mk ((k + 4 * i : Nat) : Int) x1.Word x1.A x1.B).B)).Kind) ((D.Step.mk ((D.Step.mk ((k + 4 * i : Nat) : Int) x1.Word x1.A x1.B).Kind) (mtxt (((k + 4 * i + 1) : Nat) : Int)) ((D.Step.mk ((k + 4 * i : Nat) : Int) x1.Word x1.A x1.B).A) ((D.Step.mk ((k + 4 * i : Nat) : Int) x1.Word x1.A x1.B).B)).Word) ((((k + 4 * i + 1) + 1) : Nat) : Int) ((D.Step.mk ((D.Step.mk ((k + 4 * i : Nat) : Int) x1.Word x1.A x1.B).Kind) (mtxt (((k + 4 * i + 1) : Nat) : Int)) ((D.Step.mk ((k + 4 * i : Nat) : Int) x1.Word x1.A x1.B).A) ((D.Step.mk ((k + 4 * i : Nat) : Int) x1.Word x1.A x1.B).B)).B)).A) (((((k + 4 * i + 1) + 1) + 1) : Nat) : Int))) = mkI mStep 4 k a (i + 1) := by (simp only [List.set_set]; refine mkI_set ?_; omega)
    refine ⟨(i + 1 : Nat), ?_, ?_, Wk.mk (fun k => k) ?_ ?_ ?_⟩
    · trivial
    · omega
    · exact (bc ⟨(congrArg (fun n_ => T.os 4 0 0 n_) (show ((mkI mStep 4 k a i).map (eStep true)).length = ((mkI mStep 4 k a (i + 1)).map (eStep true)).length from (by rw [List.length_map, List.length_map, mkI_len hI', mkI_len hi1]))), rfl⟩ (bc ⟨(congrArg (T.int .i64) (show ((((((k + 4 * i + 1) + 1) + 1) + 1) : Nat) : Int) = ((k + 4 * (i + 1) : Nat) : Int) from (by rfl))), rfl⟩ (b2 (b2 bn))))
    · exact (bc ⟨(congrArg (fun l_ => some (Obj.rows 4 (List.map (eStep true) l_))) he2), (lb rfl), rfl⟩ bn)
    · exact nd rfl
  refine VRun.exit (vthn.e (vthn.e (vinB.e (tn (sr (mO (tN (k + 4 * i)) rfl (aO (tN (k + 4 * i)) rfl (nt (rt ?_)))))))))
  refine vmut.r (r0 := ((k + 4 * i : Nat) : Int)) (rows := ((mkI mStep 4 k a i).map (eStep true))) rfl rfl rfl ?_ ?_ rfl
  · (push_cast; omega)
  · show List.map _ (mkI mStep 4 k a i) = List.map _ (mkN mStep 4 k a.length)
    refine congrArg (List.map _) ?_
    exact mkI_all hI' (by omega)
theorem W_laws_heldStepS (n : Nat) (a : List D.Step) (k : Nat) (hh : a = mkN mStep 4 k a.length) (hk : k + 4 * a.length ≤ lim) : Pure (acall Try.prog (n + 2)) 66 [(rd 4 eStep a), (tN k)] (tN (k + 4 * a.length)) := by
  refine Pure.intro (rs := [ResultVar.tmp 4]) Try.func66 rfl rfl rfl (E0 := [(0, (rd 4 eStep a)), (1, (tN k))]) rfl ?_
  obtain ⟨hlim, hmx, hmax⟩ := lims
  refine sr (fO (OF.assign (VEv.int .i64 0)) (nt (sq (sr (fO (OF.assign (VEv.int .i64 0)) (nt (VRun.block ?_)))))))
  refine VRun.loop (A := Nat) (fun s_ => [(0, (rd 4 eStep a)), (1, (tN (k + 4 * s_))), (5, (tN s_))]) (fun s_ => mkO []) 0 (fun s_ => s_ ≤ a.length) (fun s_ => a.length - s_) (0 : Nat) ?_ (Wk.mk (fun k => k) ?_ ?_ ?_) ?_
  · (simp; done)
  · exact (b2 (bc ⟨(congrArg (T.int .i64) (show ((k : Nat) : Int) = ((k + 4 * 0 : Nat) : Int) from (by rfl))), rfl⟩ (b2 bn)))
  · exact bn
  · exact nd rfl
  rintro i (hI' : i ≤ a.length)
  show VRun _ _ _ [(0, (rd 4 eStep a)), (1, (tN (k + 4 * i))), (5, (tN i))] (mkO []) 0 _
  refine sq (sr (mO (tN i) rfl (mO (rd 4 eStep a) rfl (lO (B.lenR (m := a.length) (tv (rd 4 eStep a) rfl) U62 (List.length_map ..)) (fO (xls' (tv (tN i) rfl) (tv (tN a.length) rfl)) (nt ?_))))))
  refine cd (i < a.length) rfl (fun fhc0 => ?_) fun fhc0 => ?_
  · refine sk ?_
    refine tn (sq (VRun.block (sq (sr (mO (rd 4 eStep a) rfl (mO (tN i) rfl ?_))))))
    obtain ⟨x1, hx1⟩ : ∃ x, a[i]? = some x := ⟨_, List.getElem?_eq_getElem (by omega)⟩
    refine fO (OF.indexAddrR (row := (eStep false x1)) (i := i) (tv (rd 4 eStep a) rfl) (tv (tN i) rfl) rfl (map_at _ hx1) U62 sz106 if106) (lr (tI x1.Kind) rfl (lb rfl) fa106_0 rfl st3 (mO (tN (k + 4 * i)) rfl (fO (xne (tv (tI x1.Kind) rfl) (tv (tN (k + 4 * i)) rfl)) (nt ?_))))
    refine cn (x1.Kind = ((k + 4 * i : Nat) : Int)) rfl (fun fhc1 => ?_) fun fhc1 => ?_
    · exact absurd (congrArg (fun x => x.Kind) (mkN_at hh hx1)) fhc1
    refine sk (tn (sr (mO (tN (k + 4 * i)) rfl (fO (xinc (tv (tN (k + 4 * i)) rfl) (VEv.int .i64 1) (by omega)) (aO (tN (k + 4 * i + 1)) rfl (nt (sq (sq (VRun.draw (B := [[], [], [1, 0], [0, 1, 2], [2, 1, 0, 3], [], [5], [5, 6, 3, 0, 1, 2, 4]]) (by kernel_rfl) (by kernel_rfl) (mD (rd 4 eStep a) rfl rfl (mD (tN i) rfl rfl ?_)))))))))))
    refine fD (OF.indexAddrR (row := (eStep false x1)) (i := i) (tv (rd 4 eStep a) rfl) (tv (tN i) rfl) rfl (map_at _ hx1) U62 sz106 if106) rfl rfl (fD (B.fieldAddrR (us := ((eStep false x1).drop 1)) (tv (T.rp (eStep false x1)) rfl) (lb rfl) fa106_1 rfl) rfl rfl (lD (OL.loadR1 (t := (tS x1.Word)) (tv (T.rp ((eStep false x1).drop 1)) rfl) rfl st9) rfl rfl (mD (tN (k + 4 * i + 1)) rfl rfl (VRunD.quiet (bi := [5]) rfl VWant.always rfl rfl rfl bn (cS (vc (tv (tN (k + 4 * i + 1)) rfl) vn) (lps rfl) (W_laws_markText (n + 0) (((k + 4 * i + 1) : Nat) : Int) (by omega)) rfl rfl) (fD (B.sneq (c := (!(decide (x1.Word = mtxt (((k + 4 * i + 1) : Nat) : Int))))) (tv (tS x1.Word) rfl) (tv (tS (mtxt (((k + 4 * i + 1) : Nat) : Int))) rfl) rfl) rfl rfl (VRunD.nil (tn ?_)))))))
    refine cn (x1.Word = mtxt (((k + 4 * i + 1) : Nat) : Int)) rfl (fun fhc2 => ?_) fun fhc2 => ?_
    · exact absurd (congrArg (fun x => x.Word) (mkN_at hh hx1)) fhc2
    refine sk (tn (sr (mO (tN (k + 4 * i + 1)) rfl (fO (xinc (tv (tN (k + 4 * i + 1)) rfl) (VEv.int .i64 1) (by omega)) (aO (tN ((k + 4 * i + 1) + 1)) rfl (nt (sq (sr (mO (rd 4 eStep a) rfl (mO (tN i) rfl (fO (OF.indexAddrR (row := (eStep false x1)) (i := i) (tv (rd 4 eStep a) rfl) (tv (tN i) rfl) rfl (map_at _ hx1) U62 sz106 if106) ?_)))))))))))
    refine lr (tI x1.A) rfl (lb rfl) fa106_2 rfl st3 (mO (tN ((k + 4 * i + 1) + 1)) rfl (fO (xne (tv (tI x1.A) rfl) (tv (tN ((k + 4 * i + 1) + 1)) rfl)) (nt ?_)))
    refine cn (x1.A = ((((k + 4 * i + 1) + 1) : Nat) : Int)) rfl (fun fhc3 => ?_) fun fhc3 => ?_
    · exact absurd (congrArg (fun x => x.A) (mkN_at hh hx1)) fhc3
    refine sk (tn (sr (mO (tN ((k + 4 * i + 1) + 1)) rfl (fO (xinc (tv (tN ((k + 4 * i + 1) + 1)) rfl) (VEv.int .i64 1) (by omega)) (aO (tN (((k + 4 * i + 1) + 1) + 1)) rfl (nt (sq (sr (mO (rd 4 eStep a) rfl (mO (tN i) rfl (fO (OF.indexAddrR (row := (eStep false x1)) (i := i) (tv (rd 4 eStep a) rfl) (tv (tN i) rfl) rfl (map_at _ hx1) U62 sz106 if106) ?_)))))))))))
    refine lr (tI x1.B) rfl (lb rfl) fa106_3 rfl st3 (mO (tN (((k + 4 * i + 1) + 1) + 1)) rfl (fO (xne (tv (tI x1.B) rfl) (tv (tN (((k + 4 * i + 1) + 1) + 1)) rfl)) (nt ?_)))
    refine cn (x1.B = (((((k + 4 * i + 1) + 1) + 1) : Nat) : Int)) rfl (fun fhc4 => ?_) fun fhc4 => ?_
    · exact absurd (congrArg (fun x => x.B) (mkN_at hh hx1)) fhc4
    refine sk (tn (VRun.region (mO (tN (((k + 4 * i + 1) + 1) + 1)) rfl (fO (xinc (tv (tN (((k + 4 * i + 1) + 1) + 1)) rfl) (VEv.int .i64 1) (by omega)) (aO (tN ((((k + 4 * i + 1) + 1) + 1) + 1)) rfl (VRunO.nil (vinB.n (tn (VRun.region (mO (tN i) rfl (fO (xinc (tv (tN i) rfl) (VEv.int .i64 1) (by omega)) ?_)))))))))))
    refine aO (tN (i + 1)) rfl (VRunO.nil (tn ?_))
    refine ⟨(i + 1 : Nat), ?_, ?_, Wk.mk (fun k => k) ?_ ?_ ?_⟩
    · trivial
    · omega
    · exact (b2 (bc ⟨(congrArg (T.int .i64) (show ((((((k + 4 * i + 1) + 1) + 1) + 1) : Nat) : Int) = ((k + 4 * (i + 1) : Nat) : Int) from (by rfl))), rfl⟩ (b2 bn)))
    · exact bn
    · exact nd rfl
  refine VRun.exit (vthn.e (vthn.e (vinB.e (tn (sr (mO (tN (k + 4 * i)) rfl (aO (tN (k + 4 * i)) rfl (nt (rt (vi (n' := ((k + 4 * i : Nat) : Int)) rfl ?_))))))))))
  omega
end Go.Proofs.Ytfpnmphheminbaa.AE
namespace Go.Proofs.Ytfpnmphheminbaa.AE
open Go Go.RowKit
set_option linter.unusedVariables false
set_option linter.unusedSimpArgs false
set_option maxRecDepth 20000
set_option maxHeartbeats 2000000
theorem W_laws_markClue (n : Nat) (a : D.Clue) (k : Nat) (hk : k + 4 * a.Play.length ≤ lim) : LoanM (acall Try.prog (n + 3)) 65 [(4, (a.Play.map (eStep true)))] [(T.agg [(tI a.Sense), (T.os 4 0 0 ((a.Play.map (eStep true)).length))]), (tN k)] (tN (k + 4 * a.Play.length)) [(4, ((mkN mStep 4 k a.Play.length).map (eStep true)))] := by
  refine LoanM.intro (rs := [ResultVar.tmp 4]) [(0, (T.agg [(tI a.Sense), (T.os 4 0 0 ((a.Play.map (eStep true)).length))]))] Try.func65 rfl rfl rfl rfl (bc ⟨by kernel_rfl, rfl⟩ bn) (PinsTo.at (And.intro trivial ⟨_, (.head _), (.agg 1 rfl (.os _ _))⟩)) (.int _ _) (bc (okeStep.cleanMap _) bn) (E0 := [(0, (T.agg [(tI a.Sense), (T.os 4 0 0 ((a.Play.map (eStep true)).length))])), (1, (tN k))]) rfl (fun asg => ?_)
  obtain ⟨hlim, hmx, hmax⟩ := lims
  show VRun _ _ _ [(0, (T.agg [(tI a.Sense), (T.os 4 0 0 ((a.Play.map (eStep true)).length))])), (1, (tN k))] (mkO [(0, (Obj.rowsN 4 (a.Play.map (eStep true)) (asg 0)))]) 1 _
  refine sr (kO (B.box (ts := [(tI a.Sense), (T.os 4 0 0 ((a.Play.map (eStep true)).length))]) (tv (T.agg [(tI a.Sense), (T.os 4 0 0 ((a.Play.map (eStep true)).length))]) rfl) nofun rfl) (fO (OF.assign (VEv.int .i64 0)) (nt (sr (lf (T.os 4 0 0 ((a.Play.map (eStep true)).length)) rfl fa64_1 rfl rfl st62 (mO (tN k) rfl (cO (OC.viaN (k := 0) rfl (scMap (fun _ => rfl) _) (scMap (fun _ => rfl) _) (OC.callMut (rows := (a.Play.map (eStep true))) (rows' := ((mkN mStep 4 k a.Play.length).map (eStep true))) rfl (vc (tv (T.os 4 0 0 ((a.Play.map (eStep true)).length)) rfl) (vc (tv (tN k) rfl) vn)) rfl rfl (bc rfl bn) (scMap (fun _ => rfl) _) (scMap (fun _ => rfl) _) (W_laws_markStepS (n + 0) a.Play k (by first | assumption | omega)))) (aO (tN (k + 4 * a.Play.length)) rfl (nt (sr (mO (tN (k + 4 * a.Play.length)) rfl ?_)))))))))))
  refine aO (tN (k + 4 * a.Play.length)) rfl (nt (rt ?_))
  have hnew0 : mkN mStep 4 k a.Play.length = mkN mStep 4 k a.Play.length := by
    rfl
  exact vloanM.r (L1 := [(4, ((mkN mStep 4 k a.Play.length).map (eStep true)))]) (fun k => k) (VRes.tmp (t := (tN (k + 4 * a.Play.length))) rfl VRes.nil) rfl (bc rfl bn) (And.intro rfl (trivial)) (by rw [hnew0])
end Go.Proofs.Ytfpnmphheminbaa.AE
namespace Go.Proofs.Ytfpnmphheminbaa.AE
open Go Go.RowKit
set_option linter.unusedVariables false
set_option linter.unusedSimpArgs false
set_option maxRecDepth 20000
set_option maxHeartbeats 2000000
theorem W_slices_Clone_impl_Step_impl_Step_ (n : Nat) (a : List D.Step) (ha : a.length ≤ mx) : Pure (acall Try.prog (n + 1)) 92 [(rd 4 eStep a)] (T.sl true 4 (a.map (eStep true))) := by
  refine Pure.intro (rs := [ResultVar.tmp 2]) Try.func92 rfl rfl rfl (E0 := [(0, (rd 4 eStep a))]) rfl ?_
  obtain ⟨hlim, hmx, hmax⟩ := lims
  refine sr (fO (OF.assign VEv.nils) (nt (sq (sr (mO (rd 4 eStep a) rfl ?_)))))
  refine VRunO.nilEq VWant.always (tv (rd 4 eStep a) rfl) VEv.nils U62 (fun bn1 hbn1 => ?_)
  refine nt ?_
  refine VRun.cond (tv (tB bn1) rfl) (fun hc0 => ?_) (fun hc0 => ?_)
  · have fhc0 : bn1 = true := hc0
    have ebn1 := hbn1 hc0
    refine sr (fO (OF.assign VEv.nils) (nt (rt (tr ?_))))
    refine vfin.eq (r' := (T.sl true 4 [])) ?_ (vfin.r (VRes.tmp (t := T.nils) rfl VRes.nil) (Give.nils 4))
    show (T.sl true 4 []) = (T.sl true 4 (a.map (eStep true)))
    refine congrArg (fun l_ => T.sl true 4 (List.map (eStep true) l_)) (a₁ := []) ?_
    exact (List.map_eq_nil_iff.1 ebn1).symm
  have fhc0 : bn1 = false := hc0
  refine sk (tn (sr (kO (OM.slice0 U62 zo106 (by kernel_rfl) rfl (by rw [sz106]; decide) sz106) (mO (rd 4 eStep a) rfl (cO (B.append (rows := []) (rows2 := (a.map (eStep false))) (rows3 := (a.map (eStep true))) (VDst.own (tv (T.os 4 0 0 0) rfl) rfl rfl) (VSrc.read (tv (rd 4 eStep a) rfl) U62 (okeStep.okMap _ _)) nofun U62 sz106 (by decide) zo106 rfl (of_decide_eq_true (by kernel_rfl)) (by first | omega | (simp only [List.length_map]; omega) | (simp only [List.length_map, List.length_append, List.length_cons, List.length_nil, List.length_replicate, List.length_set, List.length_drop, List.length_take, lim] at *; omega)) (List.nil_append _)) (aO (T.os 4 1 0 ((a.map (eStep true)).length)) rfl (nt (rt ?_))))))))
  refine vfin.eq (r' := (T.sl true 4 (a.map (eStep true)))) ?_ (vfin.r (VRes.tmp (t := (T.os 4 1 0 ((a.map (eStep true)).length))) rfl VRes.nil) (Give.os rfl rfl (okeStep.cleanMap _)))
  rfl
theorem W_spec_l18Copy (n : Nat) (c : D.Clue) (hz : zClue c ≤ mx) : Pure (acall Try.prog (n + 1)) 80 [(T.agg (eClue false c))] (T.agg (eClue true c)) := by
  refine Pure.intro (rs := [ResultVar.cell 2 64]) Try.func80 rfl rfl rfl (E0 := [(0, (T.agg (eClue false c)))]) rfl ?_
  obtain ⟨hlim, hmx, hmax⟩ := lims
  simp only [zClue] at hz
  have hl := zL_len (z := zStep) c.Play
  refine sr (kO (B.box (ts := (eClue false c)) (tv (T.agg (eClue false c)) rfl) nofun rfl) (kO (B.alloc (t := (T.agg [(tN 0), T.nils])) (ts := [(tN 0), T.nils]) zo64 zc64 nofun (fun _ => .agg _ _ rfl (RLof (RL.cons (.int _ _) (RL.cons (.nils) (RL.nil _))))) rfl) (nt (sq (VRun.draw (B := [[], [0], [], [], [3], [3, 4, 2], [2, 4, 3, 5, 0, 1], [1, 0, 5, 3, 4, 2, 6]]) (by kernel_rfl) (by kernel_rfl) (fD (OF.fieldAddrO (tv (T.op 0 0) rfl) fa64_0) rfl rfl (lD (OL.loadO1 (t := (tI c.Sense)) (tv (T.op 0 0) rfl) rfl rfl st3) rfl rfl (VRunD.make rfl VWant.always rfl (OM.slice0 U62 zo106 (by kernel_rfl) rfl (by rw [sz106]; decide) sz106) (fD (OF.fieldAddrO (tv (T.op 0 0) rfl) fa64_1) rfl rfl (lD (OL.loadO1 (t := (rd 4 eStep c.Play)) (tv (T.op 0 1) rfl) rfl rfl st62) rfl rfl (VRunD.quiet (bi := [3, 4, 2]) rfl VWant.always rfl rfl rfl (bc (lb rfl) bn) (B.append (rows := []) (rows2 := (c.Play.map (eStep false))) (rows3 := (c.Play.map (eStep true))) (VDst.own (tv (T.os 4 2 0 0) rfl) rfl rfl) (VSrc.read (tv (rd 4 eStep c.Play) rfl) U62 (okeStep.okMap _ _)) nofun U62 sz106 (by decide) zo106 rfl (of_decide_eq_true (by kernel_rfl)) (by first | omega | (simp only [List.length_map]; omega) | (simp only [List.length_map, List.length_append, List.length_cons, List.length_nil, List.length_replicate, List.length_set, List.length_drop, List.length_take, lim] at *; omega)) (List.nil_append _)) ?_)))))))))))
  refine fD (OF.build (l := [(0, (tI c.Sense)), (1, (T.os 4 3 0 ((c.Play.map (eStep true)).length)))]) (zs := [(tN 0), T.nils]) (out := [(tI c.Sense), (T.os 4 3 0 ((c.Play.map (eStep true)).length))]) (VEvp.cons (i := 0) (tv (tI c.Sense) rfl) (VEvp.cons (i := 1) (tv (T.os 4 3 0 ((c.Play.map (eStep true)).length)) rfl) VEvp.nil)) (bc nofun (bc nofun bn)) Try.underlying64 zo64 (fun _ => RL.cons (.int _ _) (RL.cons (.nils) (RL.nil _))) (by kernel_rfl) (by kernel_rfl)) rfl rfl (VRunD.chain (bi := [1, 0, 5, 3, 4, 2, 6]) rfl VWant.always rfl rfl rfl (by kernel_rfl) (B.storeO (us := [(tI c.Sense), (T.os 4 3 0 ((c.Play.map (eStep true)).length))]) (ws := [(tI c.Sense), (T.os 4 3 0 ((c.Play.map (eStep true)).length))]) (tv (T.op 1 0) rfl) (tv (T.agg [(tI c.Sense), (T.os 4 3 0 ((c.Play.map (eStep true)).length))]) rfl) nofun rfl rfl (lb rfl) if64 sz64 (bc rfl (bc rfl bn)) rfl) (VRunD.nil (tn (rt ?_))))
  refine vfin.eq (r' := (T.agg [(tI c.Sense), (T.sl true 4 (c.Play.map (eStep true)))])) ?_ (vfin.r (VRes.celln (ws := [(tI c.Sense), (T.os 4 3 0 ((c.Play.map (eStep true)).length))]) rfl rfl st64 sz64 (lb rfl) rfl VRes.nil) (Give.agg (GiveL.cons (Give.int _ _) (GiveL.cons (Give.os rfl rfl (okeStep.cleanMap _)) GiveL.nil (by decide)) (by decide))))
  show (T.agg [(tI c.Sense), (T.sl true 4 (c.Play.map (eStep true)))]) = (T.agg (eClue true c))
  first | rfl | (exact decN (by omega)) | (symm; rw [decide_eq_false_iff_not]; omega) | (symm; rw [decide_eq_true_eq]; omega) | (simp_all; done)
theorem W_impl_copyClue (n : Nat) (c : D.Clue) (hz : zClue c ≤ mx) : Pure (acall Try.prog (n + 2)) 83 [(T.agg (eClue false c))] (T.agg (eClue true c)) := by
  refine Pure.intro (rs := [ResultVar.cell 2 64]) Try.func83 rfl rfl rfl (E0 := [(0, (T.agg (eClue false c)))]) rfl ?_
  obtain ⟨hlim, hmx, hmax⟩ := lims
  simp only [zClue] at hz
  have hl := zL_len (z := zStep) c.Play
  refine sr (kO (B.box (ts := (eClue false c)) (tv (T.agg (eClue false c)) rfl) nofun rfl) (kO (B.alloc (t := (T.agg [(tN 0), T.nils])) (ts := [(tN 0), T.nils]) zo64 zc64 nofun (fun _ => .agg _ _ rfl (RLof (RL.cons (.int _ _) (RL.cons (.nils) (RL.nil _))))) rfl) (nt (sq (VRun.draw (B := [[], [0], [], [2], [2, 3], [3, 2, 4, 0, 1], [1, 0, 4, 2, 3, 5]]) (by kernel_rfl) (by kernel_rfl) (fD (OF.fieldAddrO (tv (T.op 0 0) rfl) fa64_0) rfl rfl (lD (OL.loadO1 (t := (tI c.Sense)) (tv (T.op 0 0) rfl) rfl rfl st3) rfl rfl (fD (OF.fieldAddrO (tv (T.op 0 0) rfl) fa64_1) rfl rfl (lD (OL.loadO1 (t := (rd 4 eStep c.Play)) (tv (T.op 0 1) rfl) rfl rfl st62) rfl rfl (VRunD.quiet (bi := [2, 3]) rfl VWant.always rfl rfl rfl bn (OC.callF (us := [(rd 4 eStep c.Play)]) (r := (T.sl true 4 (c.Play.map (eStep true)))) (r' := (T.os 4 2 0 ((c.Play.map (eStep true)).length))) (objs := [(Obj.rows 4 (c.Play.map (eStep true)))]) rfl (vc (tv (rd 4 eStep c.Play) rfl) vn) (lps rfl) (W_slices_Clone_impl_Step_impl_Step_ (n + 0) c.Play (by first | assumption | omega)) rfl) (fD (OF.build (l := [(0, (tI c.Sense)), (1, (T.os 4 2 0 ((c.Play.map (eStep true)).length)))]) (zs := [(tN 0), T.nils]) (out := [(tI c.Sense), (T.os 4 2 0 ((c.Play.map (eStep true)).length))]) (VEvp.cons (i := 0) (tv (tI c.Sense) rfl) (VEvp.cons (i := 1) (tv (T.os 4 2 0 ((c.Play.map (eStep true)).length)) rfl) VEvp.nil)) (bc nofun (bc nofun bn)) Try.underlying64 zo64 (fun _ => RL.cons (.int _ _) (RL.cons (.nils) (RL.nil _))) (by kernel_rfl) (by kernel_rfl)) rfl rfl ?_)))))))))))
  refine VRunD.chain (bi := [1, 0, 4, 2, 3, 5]) rfl VWant.always rfl rfl rfl (by kernel_rfl) (B.storeO (us := [(tI c.Sense), (T.os 4 2 0 ((c.Play.map (eStep true)).length))]) (ws := [(tI c.Sense), (T.os 4 2 0 ((c.Play.map (eStep true)).length))]) (tv (T.op 1 0) rfl) (tv (T.agg [(tI c.Sense), (T.os 4 2 0 ((c.Play.map (eStep true)).length))]) rfl) nofun rfl rfl (lb rfl) if64 sz64 (bc rfl (bc rfl bn)) rfl) (VRunD.nil (tn (rt ?_)))
  refine vfin.eq (r' := (T.agg [(tI c.Sense), (T.sl true 4 (c.Play.map (eStep true)))])) ?_ (vfin.r (VRes.celln (ws := [(tI c.Sense), (T.os 4 2 0 ((c.Play.map (eStep true)).length))]) rfl rfl st64 sz64 (lb rfl) rfl VRes.nil) (Give.agg (GiveL.cons (Give.int _ _) (GiveL.cons (Give.os rfl rfl (okeStep.cleanMap _)) GiveL.nil (by decide)) (by decide))))
  show (T.agg [(tI c.Sense), (T.sl true 4 (c.Play.map (eStep true)))]) = (T.agg (eClue true c))
  first | rfl | (exact decN (by omega)) | (symm; rw [decide_eq_false_iff_not]; omega) | (symm; rw [decide_eq_true_eq]; omega) | (simp_all; done)
noncomputable section
theorem snoc_take {α : Type} {l : List α} {i : Nat} {x : α} (h : l[i]? = some x) : l.take i ++ [x] = l.take (i + 1) := by
  rw [List.take_add_one, h]; rfl
end
end Go.Proofs.Ytfpnmphheminbaa.AE
