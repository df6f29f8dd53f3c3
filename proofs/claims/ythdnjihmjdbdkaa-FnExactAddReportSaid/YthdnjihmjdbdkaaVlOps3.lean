/- One word an operation, over trees: append, literals, parts of slices, bytes. Conditions: none. -/
import Derived.Test.YthdnjihmjdbdkaaVlOps2
namespace Go.Proofs.Ythdnjihmjdbdkaa.AE
open Go Go.RowKit
set_option linter.unusedVariables false
set_option linter.unusedSimpArgs false
/-- What is appended: rows read at x; the numbers ks give them up. -/
def VSrc (P : Program) (xt : TypeId) (sz : Nat) (E : Env) (O : Objs) (x : Operand) (rows : List (List T)) (ks : List Nat) : Prop := ∀ (p : Nat) (h0 : LB) (σ : Nat → Option Nat) (hf : AH) (own : Nat → Option Nat) (nx : Nat) (Ea : Nat → Value) (h : AH), SR p h0 σ hf own E O nx Ea h →
  ∃ v news N, evo Ea x = some v ∧ asrc P sz xt h v = some (rows.length, news) ∧ SL hf h rows.flatten news N ∧ N.Nodup ∧ (∀ r ∈ rows, r.length = sz) ∧ ∀ a ∈ N, ∃ k ∈ ks, own a = some k
/-- What is appended to. -/
def VDst (sz : Nat) (E : Env) (O : Objs) (x : Operand) (rows : List (List T)) (ks : List Nat) : Prop := ∀ (p : Nat) (h0 : LB) (σ : Nat → Option Nat) (hf : AH) (own : Nat → Option Nat) (nx : Nat) (Ea : Nat → Value) (h : AH), SR p h0 σ hf own E O nx Ea h →
  ∃ v, evo Ea x = some v ∧ ((∃ a m cs N k, v = .slice (some ⟨a, 0, none⟩) rows.length m ∧ 0 < m ∧ k ∈ ks ∧ k < nx ∧ own a = some k ∧ h a = some (.cells sz cs) ∧ a % 2 = 1 ∧ (∀ r ∈ rows, r.length = sz) ∧ rows.length * sz ≤ cs.length ∧ SL hf h rows.flatten (cs.take (rows.length * sz)) N ∧ (a :: N).Nodup ∧ ∀ b ∈ N, own b = some k) ∨
    (rows = [] ∧ (v = .slice none 0 0 ∨ ∃ a o, v = .slice (some ⟨a, o, none⟩) 0 0)))
section
variable {call : CallT} {P : Program} {E : Env} {O : Objs} {d : Option Tmp} {ty tt s e xt : TypeId} {ps : String} {af : Array Edge} {g : Option (Nat × Bool)} {x y z : Operand} {t u w : T} {nx sz : Nat} {rows rows2 : List (List T)} {ks ks2 : List Nat}
theorem VDst.nils (hx : VEv E x .nils) : VDst sz E O x [] [] := fun p h0 σ hf own nx Ea h hs => by
  obtain ⟨v, h1, h2⟩ := hx σ hf nx Ea hs.env
  obtain rfl := h2.nilsInv
  exact ⟨_, h1, .inr ⟨rfl, .inl rfl⟩⟩
theorem VDst.own {k n : Nat} (hx : VEv E x (.os sz k 0 n)) (hk : gO O k = some (.rows sz rows)) (hn : n = rows.length) : VDst sz E O x rows [k] := fun p h0 σ hf own nx Ea h hs => by
  subst hn
  obtain ⟨v, h1, h2⟩ := hx σ hf nx Ea hs.env
  obtain ⟨N, hN1, hN2, h3⟩ := hs.objAt hk
  obtain ⟨hk', ⟨a, m, rfl, h4, h5⟩ | ⟨h4, _, h5, h6⟩⟩ := h2.osInv
  · rw [h4] at h3
    cases h3 with
    | rows hh hodd hlen hfit hsl =>
      rename_i cs N
      refine ⟨_, h1, .inl ⟨a, m, cs, N, k, by rw [Nat.zero_mul], h5, by simp, hk', hN2 a (by simp), hh, hodd, hlen, hfit, hsl, hN1, fun b hb => hN2 b (by simp [hb])⟩⟩
  · exact ⟨_, h1, .inr ⟨List.eq_nil_of_length_eq_zero h5, h6⟩⟩
theorem VSrc.nils (hx : VEv E x .nils) (hu : P.underlying xt = some (.slice e)) : VSrc P xt sz E O x [] [] := fun p h0 σ hf own nx Ea h hs => by
  obtain ⟨v, h1, h2⟩ := hx σ hf nx Ea hs.env
  obtain rfl := h2.nilsInv
  exact ⟨_, [], [], h1, by simp [asrc, hu], .nil, by simp, by simp, by simp⟩
theorem RL.ones {hf : AH} {ts : List T} {vs : List Value} (h : RL hf ts vs) (hc : ∀ t ∈ ts, okCell t = true) : vs.all (·.oneCell') = true := SL.ones (h := hf) h.toSL hc
theorem VSrc.read (hx : VEv E x (.sl false sz rows)) (hu : P.underlying xt = some (.slice e)) (hc : ∀ r ∈ rows, ∀ t ∈ r, okCell t = true) : VSrc P xt sz E O x rows [] := fun p h0 σ hf own nx Ea h hs => by
  obtain ⟨v, h1, h2⟩ := hx σ hf nx Ea hs.env
  have hr := h2.slInv
  generalize hT : T.sl false sz rows = tr at hr
  cases hr <;> first | cases hT | skip
  · exact ⟨_, [], [], h1, by simp [asrc, hu], .nil, by simp, by simp, by simp⟩
  · exact ⟨_, [], [], h1, by simp [asrc, hu], .nil, by simp, by simp, by simp⟩
  · rename_i a es cs o m hm hk hes hlen hfit h3
    by_cases hr0 : rows.length = 0
    · obtain rfl := List.eq_nil_of_length_eq_zero hr0
      exact ⟨_, [], [], h1, by simp [asrc, hu], .nil, by simp, by simp, by simp⟩
    · have hrl : RL hf rows.flatten ((cs.drop o).take (rows.length * sz)) := by
        have hfl := flatten_len hlen
        refine ⟨by rw [hfl, List.length_take, List.length_drop]; omega, fun i hi => ?_⟩
        have := h3 i (by omega)
        rwa [List.getD_eq_getElem?_getD (l := List.take _ _), List.getElem?_take, if_pos (by omega), List.getElem?_drop, ← List.getD_eq_getElem?_getD]
      refine ⟨_, _, [], h1, ?_, hrl.toSL, by simp, hlen, by simp⟩
      simp only [asrc, hu, if_neg hr0, (hs.fro _ _ hk).1]
      rw [if_pos ⟨hfit, hrl.ones (fun t ht => by
        obtain ⟨r, hr, htr⟩ := List.mem_flatten.1 ht
        exact hc r hr t htr)⟩]
theorem VSrc.own {k n : Nat} (hx : VEv E x (.os sz k 0 n)) (hk : gO O k = some (.rows sz rows)) (hn : n = rows.length) (hu : P.underlying xt = some (.slice e)) (hc : ∀ r ∈ rows, ∀ t ∈ r, okCell t = true) : VSrc P xt sz E O x rows [k] := fun p h0 σ hf own nx Ea h hs => by
  subst hn
  obtain ⟨v, h1, h2⟩ := hx σ hf nx Ea hs.env
  obtain ⟨N, hN1, hN2, h3⟩ := hs.objAt hk
  obtain ⟨hk', ⟨a, m, rfl, h4, h5⟩ | ⟨h4, _, h5, h6⟩⟩ := h2.osInv
  · rw [h4] at h3
    cases h3 with
    | rows hh hodd hlen hfit hsl =>
      rename_i cs N
      by_cases hr0 : rows.length = 0
      · obtain rfl := List.eq_nil_of_length_eq_zero hr0
        exact ⟨_, [], [], h1, by simp [asrc, hu], .nil, by simp, by simp, by simp⟩
      · refine ⟨_, _, N, h1, ?_, hsl, (List.nodup_cons.1 hN1).2, hlen, fun b hb => ⟨k, by simp, hN2 b (by simp [hb])⟩⟩
        simp only [asrc, hu, if_neg hr0, hh, Nat.zero_mul, Nat.zero_add, List.drop_zero]
        rw [if_pos ⟨hfit, hsl.ones (fun t ht => by
          obtain ⟨r, hr, htr⟩ := List.mem_flatten.1 ht
          exact hc r hr t htr)⟩]
  · obtain rfl := List.eq_nil_of_length_eq_zero h5
    refine ⟨_, [], [], h1, ?_, .nil, by simp, by simp, by simp⟩
    rcases h6 with rfl | ⟨a, o, rfl⟩ <;> simp [asrc, hu]
theorem SL.append {hf h : AH} : ∀ {ts us : List T} {vs ws : List Value} {N M : List Nat}, SL hf h ts vs N → SL hf h us ws M → SL hf h (ts ++ us) (vs ++ ws) (N ++ M)
  | _, _, _, _, _, _, .nil, h2 => h2
  | _, _, _, _, _, _, .cons hs hr, h2 => by
    have := SL.cons hs (SL.append hr h2)
    simpa [List.append_assoc] using this
/-- append. -/
theorem OC.append (hx : VDst sz E O x rows ks) (hy : VSrc P xt sz E O y rows2 ks2) (hdis : ∀ k ∈ ks, k ∉ ks2) (hu : P.underlying tt = some (.slice e)) (hn : P.cellsOf e = sz) (hpos : 0 < sz) {z : Value} (hz : zeroOf P e = some z) (hzs : z.cells.size = sz) (hb : P.bytesOf e ≤ 128) (hlim : rows.length + rows2.length ≤ lim) :
    OC call P E O nx ⟨d, .call ⟨.builtin .append, #[x, y], #[tt, xt]⟩, ty, ps, af, g⟩ (.os sz nx 0 (rows ++ rows2).length) ((nx, some (.rows sz (rows ++ rows2))) :: killO (ks ++ ks2) O) (nx + 1) (ks ++ ks2) := ⟨Nat.le_succ _, fun q p h0 σ hf own Ea h hs hu' hF => by
  subst hn
  obtain ⟨v, h1, hd⟩ := hx p h0 σ hf own nx Ea h hs
  obtain ⟨v2, news, N2, h2, h3, h4, h5, h6, h7⟩ := hy p h0 σ hf own nx Ea h hs
  have hbn : ∀ n, n ≤ rows.length + rows2.length → 2 * n * P.bytesOf e ≤ 281474976710656 := fun n hn => by
    have e1 : 2 * n * P.bytesOf e ≤ 2 * lim * 128 := Nat.mul_le_mul (Nat.mul_le_mul_left _ (Nat.le_trans hn hlim)) hb
    have : 2 * lim * 128 = 281474976710656 := by decide
    omega
  have hlim2 : lim = 1099511627776 := rfl
  have htok : h (tokOf q) = none := hF _ (tokOf_under q)
  have hfl2 := flatten_len h6
  have hnl : news.length = rows2.length * P.cellsOf e := by rw [← h4.length, hfl2]
  have h0t : h0.h (tokOf q) = none := by
    cases hh : h0.h (tokOf q) with
    | none => rfl
    | some o =>
      have e1 := hs.base (tokOf q) (by rw [hh]; simp)
      rw [hh] at e1
      rw [(hs.fro _ _ e1).1] at htok
      cases htok
  have hft : hf (tokOf q) = none := by
    cases hh : hf (tokOf q) with
    | none => rfl
    | some o => rw [(hs.fro _ _ hh).1] at htok; cases htok
  have hfo : ∀ b k, own b = some k → hf b = none := fun b k hb => by
    cases hh : hf b with
    | none => rfl
    | some o => rw [(hs.fro _ _ hh).2] at hb; cases hb
  have hrl : (rows ++ rows2).length = rows.length + rows2.length := List.length_append
  by_cases hr2 : rows2.length = 0
  · obtain rfl := List.eq_nil_of_length_eq_zero hr2
    have hnews : news = [] := List.eq_nil_of_length_eq_zero (by simpa using hnl)
    have hx' : aexec call P q Ea h ⟨d, .call ⟨.builtin .append, #[x, y], #[tt, xt]⟩, ty, ps, af, g⟩ = some (v, h) := by
      refine X.append h1 h2 ?_
      have hc0 : z.cells.size = P.cellsOf e ∧ 2 * 0 * P.bytesOf e ≤ 281474976710656 ∧ 0 ≤ 4611686018427387903 ∧ 0 < P.cellsOf e := ⟨hzs, by simp, by omega, hpos⟩
      simp only [aappend, hu, h3, hz, List.length_nil, if_pos hc0]
      rcases hd with ⟨a, m, cs, N, k, rfl, _⟩ | ⟨rfl, rfl | ⟨a, o, rfl⟩⟩
      · rfl
      · rfl
      · rfl
    rcases hd with ⟨a, m, cs, N, k, rfl, hm, hk, hkn, ho, hh, hodd, hlen, hfit, hsl, hnd, hN⟩ | ⟨rfl, hv⟩
    · obtain ⟨own', g1, g2⟩ := hs.repl (ks := ks ++ ks2) (oa := some a) (N := a :: N) (h' := h) (obj := .rows (P.cellsOf e) (rows ++ [])) (fun _ _ _ => rfl) hs.dom hnd (fun b hb => by
        have hob : own b = some k := by
          rcases List.mem_cons.1 hb with rfl | hb
          · exact ho
          · exact hN b hb
        obtain ⟨m1, m2, m3, _⟩ := hs.mine b k hob
        exact ⟨m1, m2, m3, hfo b k hob, .inr ⟨k, by simp [hk], hob⟩⟩) (by rw [List.append_nil]; exact .rows hh hodd hlen hfit hsl)
      refine ⟨_, h, _, own', hx', Dom.refl _ _, σnew _, g1, ?_, fun _ _ _ => rfl, g2⟩
      rw [List.append_nil]
      have := V.os (σ := fun k => if k = nx then some a else σ k) (hf := hf) (nx := nx + 1) (a := a) (P.cellsOf e) nx 0 rows.length m (by omega) (by simp) hm
      rwa [Nat.zero_mul] at this
    · obtain ⟨own', g1, g2⟩ := hs.repl (ks := ks ++ ks2) (oa := none) (N := []) (h' := h) (obj := .rows (P.cellsOf e) ([] ++ [])) (fun _ _ _ => rfl) hs.dom (by simp) (by simp) (.none _)
      refine ⟨_, h, _, own', hx', Dom.refl _ _, σnew _, g1, ?_, fun _ _ _ => rfl, g2⟩
      rcases hv with rfl | ⟨a, o, rfl⟩
      · exact .os0 _ nx (by omega) (by simp)
      · exact .ose _ nx a o (by omega) (by simp)
  · have hnn : ¬ (rows2.length = 0) := hr2
    have hc0 : z.cells.size = P.cellsOf e ∧ 2 * rows2.length * P.bytesOf e ≤ 281474976710656 ∧ rows2.length ≤ 4611686018427387903 ∧ 0 < P.cellsOf e := ⟨hzs, hbn _ (by omega), by omega, hpos⟩
    rcases hd with ⟨a, m, cs, N, k, rfl, hm, hk, hkn, ho, hh, hodd, hlen, hfit, hsl, hnd, hN⟩ | ⟨rfl, hv⟩
    · have hat : a ≠ tokOf q := fun e => by rw [e, htok] at hh; cases hh
      have hx' : aexec call P q Ea h ⟨d, .call ⟨.builtin .append, #[x, y], #[tt, xt]⟩, ty, ps, af, g⟩ = some (.slice (some ⟨tokOf q, 0, none⟩) (rows.length + rows2.length) 1, (h.upd a none).upd (tokOf q) (some (.cells (P.cellsOf e) (cs.take (rows.length * P.cellsOf e) ++ news)))) := by
        refine X.append h1 h2 ?_
        simp only [aappend, hu, h3, hz, if_pos hc0, if_neg hnn, if_neg (show ¬ m = 0 by omega), hh]
        rw [if_pos ⟨hodd, trivial, .inr (by omega), hbn _ (by omega), by omega⟩, List.drop_zero]
      have hNh : ∀ b ∈ N ++ N2, ((h.upd a none).upd (tokOf q) (some (.cells (P.cellsOf e) (cs.take (rows.length * P.cellsOf e) ++ news)))) b = h b ∧ ∃ k ∈ ks ++ ks2, own b = some k := fun b hb => by
        have hob : ∃ k ∈ ks ++ ks2, own b = some k ∧ b ≠ a := by
          rcases List.mem_append.1 hb with hb | hb
          · exact ⟨k, by simp [hk], hN b hb, fun e => (List.nodup_cons.1 hnd).1 (e ▸ hb)⟩
          · obtain ⟨k2, hk2, e2⟩ := h7 b hb
            exact ⟨k2, by simp [hk2], e2, fun e => by rw [e, ho] at e2; exact hdis k hk (by rw [Option.some.inj e2]; exact hk2)⟩
        obtain ⟨k', hk', e1, e2⟩ := hob
        refine ⟨?_, k', hk', e1⟩
        rw [AH.upd_ne _ (fun e => ?_), AH.upd_ne _ e2]
        rw [e] at e1
        exact (hs.mine _ _ e1).2.2.1 htok
      have hnd2 : (tokOf q :: (N ++ N2)).Nodup := by
        rw [List.nodup_cons, List.nodup_append]
        refine ⟨fun hm => ?_, (List.nodup_cons.1 hnd).2, h5, fun b hb c hc e => ?_⟩
        · obtain ⟨_, k', _, e1⟩ := hNh _ hm
          exact (hs.mine _ _ e1).2.2.1 htok
        · subst e
          obtain ⟨k2, hk2, e2⟩ := h7 b hc
          rw [hN b hb] at e2
          exact hdis k hk (by rw [Option.some.inj e2]; exact hk2)
      obtain ⟨own', g1, g2⟩ := hs.repl (ks := ks ++ ks2) (oa := some (tokOf q)) (N := tokOf q :: (N ++ N2)) (h' := (h.upd a none).upd (tokOf q) (some (.cells (P.cellsOf e) (cs.take (rows.length * P.cellsOf e) ++ news)))) (obj := .rows (P.cellsOf e) (rows ++ rows2))
        (fun b hb hnk => by rw [AH.upd_ne _ (fun e => hb (by rw [e]; exact htok)), AH.upd_ne _ (fun e => hnk k (by simp [hk]) (by rw [e]; exact ho))])
        (fun b hb => by
          unfold AH.upd at hb
          split at hb
          · rename_i e1
            exact .inr (e1 ▸ hu' _ (tokOf_under q))
          · split at hb
            · exact absurd rfl hb
            · exact hs.dom b hb)
        hnd2
        (fun b hb => by
          rcases List.mem_cons.1 hb with rfl | hb
          · exact ⟨hu' _ (tokOf_under q), h0t, by rw [AH.upd_same]; simp, hft, .inl htok⟩
          · obtain ⟨e1, k', hk', e2⟩ := hNh b hb
            obtain ⟨m1, m2, m3, _⟩ := hs.mine b k' e2
            exact ⟨m1, m2, by rw [e1]; exact m3, hfo b k' e2, .inr ⟨k', hk', e2⟩⟩)
        (by
          refine .rows (AH.upd_same _ _ _) (tok_odd q) (fun r hr => (List.mem_append.1 hr).elim (hlen r) (h6 r)) ?_ ?_
          · rw [List.length_append, List.length_append, List.length_take, hnl, Nat.add_mul]
            omega
          · rw [List.flatten_append, hrl, Nat.add_mul, List.take_of_length_le (l := cs.take _ ++ news) (by rw [List.length_append, List.length_take, hnl]; omega)]
            exact (hsl.append h4).mono (fun _ _ e => e) (fun b hb => (hNh b hb).1))
      refine ⟨_, _, _, own', hx', ?_, σnew _, g1, ?_, ?_, g2⟩
      · intro b hb
        unfold AH.upd at hb
        split at hb
        · rename_i e1
          exact .inr (e1 ▸ tokOf_under q)
        · split at hb
          · exact absurd rfl hb
          · exact .inl hb
      · rw [hrl]
        have := V.os (σ := fun k => if k = nx then some (tokOf q) else σ k) (hf := hf) (nx := nx + 1) (a := tokOf q) (P.cellsOf e) nx 0 (rows.length + rows2.length) 1 (by omega) (by simp) (by omega)
        rwa [Nat.zero_mul] at this
      · intro b hb hnk
        rw [AH.upd_ne _ (fun e => hb (by rw [e]; exact htok)), AH.upd_ne _ (fun e => hnk k (by simp [hk]) (by rw [e]; exact ho))]
    · have hx' : aexec call P q Ea h ⟨d, .call ⟨.builtin .append, #[x, y], #[tt, xt]⟩, ty, ps, af, g⟩ = some (.slice (some ⟨tokOf q, 0, none⟩) rows2.length 1, h.upd (tokOf q) (some (.cells (P.cellsOf e) news))) := by
        refine X.append h1 h2 ?_
        rcases hv with rfl | ⟨a, o, rfl⟩
        · simp only [aappend, hu, h3, hz, if_pos hc0, if_neg hnn]
        · simp only [aappend, hu, h3, hz, if_pos hc0, if_neg hnn, if_true]
      have hNh : ∀ b ∈ N2, (h.upd (tokOf q) (some (.cells (P.cellsOf e) news))) b = h b ∧ ∃ k ∈ ks ++ ks2, own b = some k := fun b hb => by
        obtain ⟨k2, hk2, e2⟩ := h7 b hb
        refine ⟨AH.upd_ne _ (fun e => ?_) _, k2, by simp [hk2], e2⟩
        rw [e] at e2
        exact (hs.mine _ _ e2).2.2.1 htok
      obtain ⟨own', g1, g2⟩ := hs.repl (ks := ks ++ ks2) (oa := some (tokOf q)) (N := tokOf q :: N2) (h' := h.upd (tokOf q) (some (.cells (P.cellsOf e) news))) (obj := .rows (P.cellsOf e) ([] ++ rows2))
        (fun b hb hnk => AH.upd_ne _ (fun e => hb (by rw [e]; exact htok)) _)
        (fun b hb => by
          unfold AH.upd at hb
          split at hb
          · rename_i e1
            exact .inr (e1 ▸ hu' _ (tokOf_under q))
          · exact hs.dom b hb)
        (by
          rw [List.nodup_cons]
          refine ⟨fun hm => ?_, h5⟩
          obtain ⟨_, k', _, e1⟩ := hNh _ hm
          exact (hs.mine _ _ e1).2.2.1 htok)
        (fun b hb => by
          rcases List.mem_cons.1 hb with rfl | hb
          · exact ⟨hu' _ (tokOf_under q), h0t, by rw [AH.upd_same]; simp, hft, .inl htok⟩
          · obtain ⟨e1, k', hk', e2⟩ := hNh b hb
            obtain ⟨m1, m2, m3, _⟩ := hs.mine b k' e2
            exact ⟨m1, m2, by rw [e1]; exact m3, hfo b k' e2, .inr ⟨k', hk', e2⟩⟩)
        (by
          rw [List.nil_append]
          refine .rows (AH.upd_same _ _ _) (tok_odd q) h6 (by omega) ?_
          rw [List.take_of_length_le (by omega)]
          exact h4.mono (fun _ _ e => e) (fun b hb => (hNh b hb).1))
      refine ⟨_, _, _, own', hx', Dom.new _ _ _, σnew _, g1, ?_, fun b hb hnk => AH.upd_ne _ (fun e => hb (by rw [e]; exact htok)) _, g2⟩
      rw [List.nil_append]
      have := V.os (σ := fun k => if k = nx then some (tokOf q) else σ k) (hf := hf) (nx := nx + 1) (a := tokOf q) (P.cellsOf e) nx 0 rows2.length 1 (by omega) (by simp) (by omega)
      rwa [Nat.zero_mul] at this⟩
end
end Go.Proofs.Ythdnjihmjdbdkaa.AE
