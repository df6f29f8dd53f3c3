/- One word an operation, over trees: what changes, rows that grow, literals, parts of slices. Conditions: none. -/
import Derived.Test.YthdnjihmjdbdkaaVlOps
namespace Go.Proofs.Ythdnjihmjdbdkaa.AE
open Go Go.RowKit
set_option linter.unusedVariables false
set_option linter.unusedSimpArgs false
/-- A cell. -/
def isCell : T → Bool
  | .any | .agg _ | .tup _ => false
  | .sl true _ _ => false
  | _ => true
theorem R.one {hf : AH} {t : T} {v : Value} (h : R hf t v) (hc : isCell t = true) : v.oneCell' = true := by
  cases h <;> first | rfl | simp [isCell] at hc
theorem V.one {σ : Nat → Option Nat} {hf : AH} {nx : Nat} {t : T} {v : Value} (h : V σ hf nx t v) (hc : isCell t = true) : v.oneCell' = true := by
  cases h <;> first | rfl | (simp [isCell] at hc; done) | skip
  rename_i hr
  exact hr.one hc
theorem S.one {hf h : AH} {t : T} {v : Value} {N : List Nat} (hs : S hf h t v N) (hc : isCell t = true ∨ ∃ sz rows, t = .sl true sz rows) : v.oneCell' = true := by
  cases hs with
  | fz hr =>
    rcases hc with hc | ⟨sz, rows, rfl⟩
    · exact hr.one hc
    · cases hr
  | ow0 sz => rfl
  | owe sz a o => rfl
  | ow sz rows m hm hk hodd hlen hfit hs => rfl
  | agg hs => rcases hc with hc | ⟨_, _, hc⟩ <;> simp [isCell] at hc
  | tup hs => rcases hc with hc | ⟨_, _, hc⟩ <;> simp [isCell] at hc
/-- A cell, or what is owned. -/
def okCell : T → Bool
  | .any | .agg _ | .tup _ => false
  | _ => true
theorem okCell_or {t : T} (h : okCell t = true) : isCell t = true ∨ ∃ sz rows, t = .sl true sz rows := by
  cases t <;> first | (exact .inl rfl) | (simp [okCell] at h; done) | skip
  rename_i own sz rows
  cases own
  · exact .inl rfl
  · exact .inr ⟨sz, rows, rfl⟩
theorem SL.ones {hf h : AH} : ∀ {ts : List T} {vs : List Value} {N : List Nat}, SL hf h ts vs N → (∀ t ∈ ts, okCell t = true) → vs.all (·.oneCell') = true
  | _, _, _, .nil, _ => rfl
  | _, _, _, .cons hs hr, hc => by
    rw [List.all_cons, S.one hs (okCell_or (hc _ (by simp))), SL.ones hr (fun t ht => hc t (by simp [ht]))]
    rfl
/-- A tree that stays. -/
def isPl : T → Bool
  | .bool _ | .int _ _ | .str _ | .ptr0 | .fn0 | .nils | .sl false _ _ | .rp _ => true
  | _ => false
theorem V.pl {σ : Nat → Option Nat} {hf : AH} {nx : Nat} {t : T} {v : Value} (h : V σ hf nx t v) (hc : isPl t = true) : R hf t v := by
  cases h <;> first | assumption | (simp [isPl] at hc; done)
theorem VL.pl {σ : Nat → Option Nat} {hf : AH} {nx : Nat} {ts : List T} {vs : List Value} (h : VL σ hf nx ts vs) (hc : ∀ t ∈ ts, isPl t = true) : RL hf ts vs := ⟨h.1, fun i hi => (h.2 i hi).pl (hc _ (by rw [List.getD_eq_getElem?_getD, List.getElem?_eq_getElem hi]; exact List.getElem_mem hi))⟩
def spl (cs : List T) (o : Nat) (vs : List T) : List T := cs.take o ++ vs ++ cs.drop (o + vs.length)
theorem getD_spl {α : Type} (dflt : α) {cs vs : List α} {o : Nat} (ho : o + vs.length ≤ cs.length) (i : Nat) : (cs.take o ++ vs ++ cs.drop (o + vs.length)).getD i dflt = if o ≤ i ∧ i < o + vs.length then vs.getD (i - o) dflt else cs.getD i dflt := by
  have e1 : (cs.take o).length = o := by rw [List.length_take]; omega
  by_cases h1 : i < o
  · rw [if_neg (by omega), List.append_assoc, List.getD_eq_getElem?_getD, List.getElem?_append_left (by omega), List.getElem?_take, if_pos h1, ← List.getD_eq_getElem?_getD]
  · by_cases h2 : i < o + vs.length
    · rw [if_pos ⟨by omega, h2⟩, List.append_assoc, List.getD_eq_getElem?_getD, List.getElem?_append_right (by omega), e1, List.getElem?_append_left (by omega), ← List.getD_eq_getElem?_getD]
    · rw [if_neg (by omega), List.append_assoc, List.getD_eq_getElem?_getD, List.getElem?_append_right (by omega), e1, List.getElem?_append_right (by omega), List.getElem?_drop, ← List.getD_eq_getElem?_getD]
      congr 1
      omega
theorem VL.splice {σ : Nat → Option Nat} {hf : AH} {nx o : Nat} {ts us : List T} {cs vs : List Value} (h : VL σ hf nx ts cs) (hu : VL σ hf nx us vs) (ho : o + us.length ≤ ts.length) : VL σ hf nx (spl ts o us) (AE.splice cs o vs) := by
  have h1 := h.1
  have h2 := hu.1
  refine ⟨by simp [spl, AE.splice]; omega, fun i hi => ?_⟩
  unfold spl AE.splice
  rw [getD_spl _ ho, getD_spl _ (by omega), ← h2]
  split
  · exact hu.2 _ (by omega)
  · refine h.2 _ ?_
    simp [spl] at hi
    omega
theorem RL.toVL {σ : Nat → Option Nat} {hf : AH} {nx : Nat} {ts : List T} {vs : List Value} (h : RL hf ts vs) : VL σ hf nx ts vs := ⟨h.1, fun i hi => .fz (h.2 i hi)⟩
theorem RL.splice {hf : AH} {o : Nat} {ts us : List T} {cs vs : List Value} (h : RL hf ts cs) (hu : RL hf us vs) (ho : o + us.length ≤ ts.length) : RL hf (spl ts o us) (AE.splice cs o vs) := by
  have h1 := h.1
  have h2 := hu.1
  refine ⟨by simp [spl, AE.splice]; omega, fun i hi => ?_⟩
  unfold spl AE.splice
  rw [getD_spl _ ho, getD_spl _ (by omega), ← h2]
  split
  · exact hu.2 _ (by omega)
  · refine h.2 _ ?_
    simp [spl] at hi
    omega
section
variable {p nx : Nat} {h0 : LB} {hf h h' : AH} {σ own : Nat → Option Nat} {E : Env} {O : Objs} {Ea : Nat → Value}
/-- One object's cells are written. -/
theorem SR.upd {k a : Nat} {z : AObj} {obj : Obj} {N : List Nat} (hs : SR p h0 σ hf own E O nx Ea h) (hσ : σ k = some a) (hk : k < nx) (ha : own a = some k) (hN : N.Nodup) (hN' : ∀ b ∈ N, own b = some k) (ho : ObjR σ hf nx (h.upd a (some z)) obj (some a) N) : SR p h0 σ hf own E ((k, some obj) :: O) nx Ea (h.upd a (some z)) := by
  obtain ⟨m1, m2, m3, m4⟩ := hs.mine a k ha
  refine ⟨hs.env, fun k' o hk' => ?_, fun b o hb => ?_, fun b k' hb => ?_, hs.base, fun t ht => ?_⟩
  · simp only [gO] at hk'
    split at hk'
    · rename_i e
      subst e
      obtain rfl := Option.some.inj hk'
      exact ⟨hk, N, hN, hN', hσ ▸ ho⟩
    · rename_i hne
      obtain ⟨h1, N', h2, h3, h4⟩ := hs.obj k' o hk'
      refine ⟨h1, N', h2, h3, h4.mono (fun _ _ e => e) (Nat.le_refl _) (fun _ _ => rfl) (fun b hb => AH.upd_ne _ (fun e => ?_) _)⟩
      subst e
      have := h3 _ hb
      rw [ha] at this
      exact hne (Option.some.inj this).symm
  · obtain ⟨h1, h2⟩ := hs.fro b o hb
    have : b ≠ a := fun e => by rw [e, ha] at h2; cases h2
    exact ⟨by rw [AH.upd_ne _ this]; exact h1, h2⟩
  · obtain ⟨h1, h2, h3, h4⟩ := hs.mine b k' hb
    refine ⟨h1, h2, ?_, h4⟩
    by_cases e : b = a
    · rw [e, AH.upd_same]; simp
    · rw [AH.upd_ne _ e]; exact h3
  · unfold AH.upd at ht
    split at ht
    · rename_i e
      exact .inr (e ▸ m1)
    · exact hs.dom t ht
def killO (ks : List Nat) (O : Objs) : Objs := ks.map (fun k => (k, none)) ++ O
theorem gO_kill {ks : List Nat} {k : Nat} {o : Obj} (h : gO (killO ks O) k = some o) : k ∉ ks ∧ gO O k = some o := by
  induction ks with
  | nil => exact ⟨by simp, h⟩
  | cons x r ih =>
    simp only [killO, List.map_cons, List.cons_append, gO] at h
    split at h
    · cases h
    · rename_i hne
      obtain ⟨h1, h2⟩ := ih h
      exact ⟨by simp [hne, h1], h2⟩
open Classical in
/-- Some objects make place for one new. -/
theorem SR.repl {ks : List Nat} {oa : Option Nat} {N : List Nat} {obj : Obj} (hs : SR p h0 σ hf own E O nx Ea h) (hh : ∀ a, h a ≠ none → (∀ k ∈ ks, own a ≠ some k) → h' a = h a) (hd : DomL p h0 h') (hN : N.Nodup)
    (hN' : ∀ b ∈ N, UL p h0 b ∧ h0.h b = none ∧ h' b ≠ none ∧ hf b = none ∧ (h b = none ∨ ∃ k ∈ ks, own b = some k)) (ho : ObjR (fun k => if k = nx then oa else σ k) hf (nx + 1) h' obj oa N) :
    ∃ own', SR p h0 (fun k => if k = nx then oa else σ k) hf own' E ((nx, some obj) :: killO ks O) (nx + 1) Ea h' ∧ ∀ a k, own' a = some k → own a = some k ∨ h a = none ∨ ∃ k ∈ ks, own a = some k := by
  refine ⟨fun b => if b ∈ N then some nx else if ∃ k ∈ ks, own b = some k then none else own b, ⟨fun t => (hs.env t).mono (fun _ _ e => e) (by omega) (σnew _), fun k o hk => ?_, fun b o hb => ?_, fun b k hb => ?_, hs.base, hd⟩, fun a k hk => ?_⟩
  · simp only [gO] at hk
    split at hk
    · rename_i e
      subst e
      obtain rfl := Option.some.inj hk
      exact ⟨by omega, N, hN, fun b hb => by simp only [if_pos hb], by simpa using ho⟩
    · obtain ⟨hnk, hk⟩ := gO_kill hk
      obtain ⟨h1, M, h2, h3, h4⟩ := hs.obj k o hk
      have key : ∀ b ∈ M, b ∉ N ∧ ¬ ∃ k ∈ ks, own b = some k := fun b hb => by
        have hob := h3 b hb
        have h5 : ¬ ∃ k ∈ ks, own b = some k := fun ⟨k', hk', e⟩ => by
          rw [hob] at e
          obtain rfl := Option.some.inj e
          exact hnk hk'
        refine ⟨fun hn => ?_, h5⟩
        rcases (hN' b hn).2.2.2.2 with e | e
        · exact (hs.mine b k hob).2.2.1 e
        · exact h5 e
      refine ⟨by omega, M, h2, fun b hb => by simp only [if_neg (key b hb).1, if_neg (key b hb).2]; exact h3 b hb, ?_⟩
      simp only [if_neg (show ¬ k = nx by omega)]
      exact h4.mono (fun _ _ e => e) (by omega) (σnew _) (fun b hb => hh b (hs.mine b k (h3 b hb)).2.2.1 (fun k' hk' e => (key b hb).2 ⟨k', hk', e⟩))
  · obtain ⟨h1, h2⟩ := hs.fro b o hb
    have h3 : b ∉ N := fun hn => by rw [(hN' b hn).2.2.2.1] at hb; cases hb
    refine ⟨(hh b (by rw [h1]; simp) (fun k _ e => by rw [h2] at e; cases e)).trans h1, ?_⟩
    simp only [if_neg h3]
    rw [if_neg (fun ⟨k, _, e⟩ => by rw [h2] at e; cases e)]
    exact h2
  · split at hb
    · rename_i hn
      obtain rfl := Option.some.inj hb
      obtain ⟨h1, h2, h3, _⟩ := hN' b hn
      exact ⟨h1, h2, h3, by omega⟩
    · split at hb
      · cases hb
      · rename_i hnk
        obtain ⟨h1, h2, h3, h4⟩ := hs.mine b k hb
        exact ⟨h1, h2, by rw [hh b h3 (fun k' hk' e => hnk ⟨k', hk', e⟩)]; exact h3, by omega⟩
  · simp only at hk
    split at hk
    · rename_i hn
      exact .inr (hN' a hn).2.2.2.2
    · split at hk
      · cases hk
      · exact .inl hk
end
section
variable {call : CallT} {P : Program} {E : Env} {O : Objs} {d : Option Tmp} {ty tt s e : TypeId} {ps : String} {af : Array Edge} {g : Option (Nat × Bool)} {x y z : Operand} {t u w : T} {nx : Nat}
/-! ### stores -/
theorem OC.storeO {k o : Nat} {ts us : List T} (hx : VEv E x (.op k o)) (hy : VEv E y t) (ht : t ≠ .any) (hk : gO O k = some (.cells ts)) (hus : tcells t = us) (hle : o + us.length ≤ ts.length) (hif : (P.info? tt).isSome = true) (hn : P.cellsOf tt = us.length) (hc : ∀ a ∈ us, isCell a = true) :
    OC call P E O nx ⟨d, .store tt x y, ty, ps, af, g⟩ .any ((k, some (.cells (spl ts o us))) :: O) nx [k] := ⟨Nat.le_refl _, fun q p h0 σ hf own Ea h hs hu hF => by
  subst hus
  obtain ⟨v, h1, h2⟩ := hx σ hf nx Ea hs.env
  obtain ⟨v', h3, h4⟩ := hy σ hf nx Ea hs.env
  obtain ⟨a, rfl, h5, h6⟩ := h2.opInv
  obtain ⟨N, hN1, hN2, h7⟩ := hs.objAt hk
  rw [h5] at h7
  cases h7 with
  | cells hh hodd hv =>
    rename_i es cs
    have h8 := h4.cells ht
    have h9 := h8.1
    have hcl : ∀ b ∈ v'.cells.toList, b.oneCell' = true := by
      intro b hb
      obtain ⟨i, hi⟩ := List.getElem?_of_mem hb
      have hlt : i < (tcells t).length := by rw [h9]; exact (List.getElem?_eq_some_iff.1 hi).1
      have := h8.2 i hlt
      rw [List.getD_eq_getElem?_getD (l := v'.cells.toList), hi, Option.getD_some] at this
      exact this.one (hc _ (by rw [List.getD_eq_getElem?_getD, List.getElem?_eq_getElem hlt]; exact List.getElem_mem hlt))
    have hown : own a = some k := hN2 a (by simp)
    have hst := astore_at (P := P) (t := tt) (v := v') (o := o) hodd hh hif hn rfl h9.symm (by rw [← h9]; have := hv.1; omega) hcl
    refine ⟨undef, _, σ, own, X.store h1 h3 hst, Dom.old (by rw [hh]; simp) _, fun _ _ => rfl, hs.upd h5 h6 hown (N := [a]) (by simp) (by simpa using hown) (.cells (AH.upd_same _ _ _) hodd (hv.splice h8 hle)), .any _, fun b hb hnk => AH.upd_ne _ (fun e => ?_) _, fun b k' e => .inl e⟩
    exact hnk k (by simp) (e ▸ hown)⟩
theorem flatten_set {rows : List (List T)} {sz i o : Nat} {row us : List T} (hlen : ∀ r ∈ rows, r.length = sz) (hi : rows[i]? = some row) (ho : o + us.length ≤ sz) : (rows.set i (spl row o us)).flatten = spl rows.flatten (i * sz + o) us := by
  induction rows generalizing i with
  | nil => simp at hi
  | cons r rs ih =>
    have hr : r.length = sz := hlen r (by simp)
    cases i with
    | zero =>
      obtain rfl : r = row := by simpa using hi
      simp only [List.set_cons_zero, List.flatten_cons, Nat.zero_mul, Nat.zero_add, spl]
      rw [List.take_append_of_le_length (by omega), List.drop_append_of_le_length (by omega)]
      simp only [List.append_assoc]
    | succ i =>
      have hlt : i < rs.length := by
        have := (List.getElem?_eq_some_iff.1 hi).1
        simpa using this
      have h1 := ih (fun x hx => hlen x (by simp [hx])) (i := i) (by simpa using hi)
      rw [List.set_cons_succ, List.flatten_cons, h1, List.flatten_cons]
      simp only [spl]
      have e1 : (i + 1) * sz + o = r.length + (i * sz + o) := by rw [Nat.add_mul]; omega
      rw [e1, List.take_length_add_append, Nat.add_assoc r.length, List.drop_length_add_append]
      simp only [List.append_assoc]
theorem OC.storeP {sz k i o : Nat} {rows : List (List T)} {row us : List T} (hx : VEv E x (.orp sz k i o)) (hy : VEv E y t) (ht : t ≠ .any) (hk : gO O k = some (.rows sz rows)) (hi : rows[i]? = some row) (hus : tcells t = us) (hle : o + us.length ≤ sz) (hif : (P.info? tt).isSome = true) (hn : P.cellsOf tt = us.length) (hc : ∀ a ∈ us, isPl a = true) (hfl : ∀ r ∈ rows, ∀ a ∈ r, isFlat a = true) :
    OC call P E O nx ⟨d, .store tt x y, ty, ps, af, g⟩ .any ((k, some (.rows sz (rows.set i (spl row o us)))) :: O) nx [k] := ⟨Nat.le_refl _, fun q p h0 σ hf own Ea h hs hu hF => by
  subst hus
  obtain ⟨v, h1, h2⟩ := hx σ hf nx Ea hs.env
  obtain ⟨v', h3, h4⟩ := hy σ hf nx Ea hs.env
  obtain ⟨a, rfl, h5, h6⟩ := h2.orpInv
  obtain ⟨N, hN1, hN2, h7⟩ := hs.objAt hk
  rw [h5] at h7
  cases h7 with
  | rows hh hodd hlen hfit hsl =>
    rename_i cs N
    have h8 := (h4.cells ht).pl hc
    have h9 := h8.1
    have hcl : ∀ b ∈ v'.cells.toList, b.oneCell' = true := by
      intro b hb
      obtain ⟨j, hj⟩ := List.getElem?_of_mem hb
      have hlt : j < (tcells t).length := by rw [h9]; exact (List.getElem?_eq_some_iff.1 hj).1
      have := h8.2 j hlt
      rw [List.getD_eq_getElem?_getD (l := v'.cells.toList), hj, Option.getD_some] at this
      have hp := hc _ (show (tcells t).getD j .any ∈ tcells t by rw [List.getD_eq_getElem?_getD, List.getElem?_eq_getElem hlt]; exact List.getElem_mem hlt)
      refine this.one ?_
      generalize (tcells t).getD j .any = q at hp
      cases q <;> first | rfl | (simp [isPl] at hp; done) | skip
      rename_i b _ _
      cases b <;> first | rfl | (simp [isPl] at hp; done)
    have hown : own a = some k := hN2 a (by simp)
    have hlt : i < rows.length := (List.getElem?_eq_some_iff.1 hi).1
    have hf1 := row_fit (sz := sz) hlt
    have hrow : row.length = sz := hlen row (List.mem_of_getElem? hi)
    have hst := astore_at (P := P) (t := tt) (v := v') (o := i * sz + o) hodd hh hif hn rfl h9.symm (by rw [← h9]; omega) hcl
    obtain ⟨hrl, _⟩ := hsl.flat (fun t ht => by
      obtain ⟨r, hr, htr⟩ := List.mem_flatten.1 ht
      exact hfl r hr t htr)
    have hfll := flatten_len hlen
    have hnew := hrl.splice h8 (o := i * sz + o) (by omega)
    have hlen' : ∀ r ∈ rows.set i (spl row o (tcells t)), r.length = sz := fun r hr => by
      rcases List.mem_or_eq_of_mem_set hr with h | rfl
      · exact hlen r h
      · simp [spl]; omega
    refine ⟨undef, _, σ, own, X.store h1 h3 hst, Dom.old (by rw [hh]; simp) _, fun _ _ => rfl, hs.upd h5 h6 hown (N := [a]) (by simp) (by simpa using hown) ?_, .any _, fun b hb hnk => AH.upd_ne _ (fun e => ?_) _, fun b k' e => .inl e⟩
    · refine .rows (N := []) (AH.upd_same _ _ _) hodd hlen' ?_ ?_
      · rw [List.length_set]
        simp only [AE.splice, List.length_append, List.length_take, List.length_drop]
        omega
      · rw [List.length_set, flatten_set hlen hi hle]
        have e2 : (AE.splice cs (i * sz + o) v'.cells.toList).take (rows.length * sz) = AE.splice (cs.take (rows.length * sz)) (i * sz + o) v'.cells.toList := by
          unfold AE.splice
          rw [List.take_append, List.take_append, List.length_append, List.length_take, List.take_take, List.drop_take]
          rw [show min (rows.length * sz) (i * sz + o) = i * sz + o by omega, List.take_of_length_le (l := v'.cells.toList) (by omega), List.take_take]
          rw [show min (i * sz + o) (rows.length * sz) = i * sz + o by omega]
          congr 2
          omega
        rw [e2]
        exact hnew.toSL
    · exact hnk k (by simp) (e ▸ hown)⟩
end
end Go.Proofs.Ythdnjihmjdbdkaa.AE
