/- What is owned, laid into what is owned. Conditions: none. -/
import Derived.Test.YthdnjihmjdbdkaaVlWord
namespace Go.Proofs.Ythdnjihmjdbdkaa.AE
open Go Go.RowKit
set_option linter.unusedVariables false
set_option linter.unusedSimpArgs false
/-- As GiveL, but what stays may be read. -/
def Bury (O : Objs) (ks : List Nat) (ts rs : List T) : Prop := ∀ (p : Nat) (h0 : LB) (σ : Nat → Option Nat) (hf : AH) (own : Nat → Option Nat) (E : Env) (nx : Nat) (Ea : Nat → Value) (h : AH) (vs : List Value), SR p h0 σ hf own E O nx Ea h → VL σ hf nx ts vs → ∃ N, SL hf h rs vs N ∧ N.Nodup ∧ ∀ a ∈ N, ∃ k ∈ ks, own a = some k
section
variable {O : Objs} {ks ks2 : List Nat} {t r : T} {ts rs : List T}
theorem Bury.nil : Bury O [] [] [] := fun p h0 σ hf own E nx Ea h vs hs hv => by
  obtain rfl := List.eq_nil_of_length_eq_zero hv.1.symm
  exact ⟨[], .nil, by simp, by simp⟩
theorem Bury.pl (h : isPl t = true) (h2 : Bury O ks2 ts rs) : Bury O ks2 (t :: ts) (t :: rs) := fun p h0 σ hf own E nx Ea H vs hs hv => by
  obtain ⟨v, l, rfl, g1, g2⟩ := hv.tail
  obtain ⟨M, b1, b2, b3⟩ := h2 p h0 σ hf own E nx Ea H l hs g2
  exact ⟨M, SL.cons (N := []) (.fz (g1.pl h)) b1, b2, b3⟩
theorem Bury.os {sz k n : Nat} {rows : List (List T)} (hk : gO O k = some (.rows sz rows)) (hn : n = rows.length) (h2 : Bury O ks2 ts rs) (hd : k ∉ ks2) : Bury O (k :: ks2) (.os sz k 0 n :: ts) (.sl true sz rows :: rs) := fun p h0 σ hf own E nx Ea h vs hs hv => by
  subst hn
  obtain ⟨v, l, rfl, g1, g2⟩ := hv.tail
  obtain ⟨M, b1, b2, b3⟩ := h2 p h0 σ hf own E nx Ea h l hs g2
  obtain ⟨N, hN1, hN2, h3⟩ := hs.objAt hk
  obtain ⟨hk', ⟨a, m, rfl, h4, h5⟩ | ⟨h4, _, h5, h6⟩⟩ := g1.osInv
  · rw [h4] at h3
    cases h3 with
    | rows hh hodd hlen hfit hsl =>
      rename_i cs N
      rw [Nat.zero_mul]
      refine ⟨(a :: N) ++ M, .cons (.ow sz rows m h5 hh hodd hlen hfit hsl) b1, ?_, fun b hb => ?_⟩
      · rw [List.nodup_append]
        refine ⟨hN1, b2, fun b hb c hc e => ?_⟩
        subst e
        obtain ⟨k2, hk2, e2⟩ := b3 b hc
        rw [hN2 b hb] at e2
        exact hd (by rw [Option.some.inj e2]; exact hk2)
      · rcases List.mem_append.1 hb with hb | hb
        · exact ⟨k, by simp, hN2 b hb⟩
        · obtain ⟨k2, hk2, e2⟩ := b3 b hb
          exact ⟨k2, by simp [hk2], e2⟩
  · obtain rfl := List.eq_nil_of_length_eq_zero h5
    have b4 : ∀ a ∈ M, ∃ k' ∈ k :: ks2, own a = some k' := fun a ha => by
      obtain ⟨k2, hk2, e2⟩ := b3 a ha
      exact ⟨k2, by simp [hk2], e2⟩
    rcases h6 with rfl | ⟨a, o, rfl⟩
    · exact ⟨M, SL.cons (N := []) (.ow0 sz) b1, b2, b4⟩
    · exact ⟨M, SL.cons (N := []) (.owe sz a o) b1, b2, b4⟩
theorem SL.split {hf h : AH} : ∀ {ts us : List T} {vs : List Value} {N : List Nat}, SL hf h (ts ++ us) vs N → ∃ N1 N2, N = N1 ++ N2 ∧ SL hf h ts (vs.take ts.length) N1 ∧ SL hf h us (vs.drop ts.length) N2
  | [], us, vs, N, hs => ⟨[], N, rfl, by simpa using SL.nil, by simpa using hs⟩
  | t :: ts, us, _, _, .cons (N := N) (M := M) h1 h2 => by
    obtain ⟨N1, N2, rfl, g1, g2⟩ := SL.split (ts := ts) h2
    exact ⟨N ++ N1, N2, by simp, .cons h1 g1, g2⟩
/-- A stretch of cells is written anew. -/
theorem SL.put {hf h : AH} {ts us : List T} {vs ws : List Value} {N M : List Nat} {o : Nat} (hs : SL hf h ts vs N) (hu : SL hf h us ws M) (ho : o + us.length ≤ ts.length) (hN : N.Nodup) (hM : M.Nodup) (hd : ∀ a ∈ N, a ∉ M) : ∃ L, SL hf h (spl ts o us) (AE.splice vs o ws) L ∧ L.Nodup ∧ ∀ a ∈ L, a ∈ N ∨ a ∈ M := by
  have h1 := hs.length
  have h2 := hu.length
  have e1 : ts = ts.take o ++ (ts.drop o) := (List.take_append_drop o ts).symm
  rw [e1] at hs
  obtain ⟨N1, N2, rfl, g1, g2⟩ := hs.split
  have hlt : (ts.take o).length = o := by rw [List.length_take]; omega
  rw [hlt] at g1 g2
  have e2 : ts.drop o = (ts.drop o).take us.length ++ ts.drop (o + us.length) := by rw [← List.drop_drop, List.take_append_drop]
  rw [e2] at g2
  obtain ⟨N3, N4, rfl, g3, g4⟩ := g2.split
  have hlt2 : ((ts.drop o).take us.length).length = us.length := by rw [List.length_take, List.length_drop]; omega
  rw [hlt2, List.drop_drop] at g4
  refine ⟨(N1 ++ M) ++ N4, ?_, ?_, fun a ha => ?_⟩
  · unfold spl AE.splice
    rw [← h2]
    exact (g1.append hu).append g4
  · rw [List.nodup_append] at hN
    obtain ⟨n1, n2, n3⟩ := hN
    rw [List.nodup_append] at n2
    rw [List.nodup_append, List.nodup_append]
    refine ⟨⟨n1, hM, fun a ha b hb e => hd a (by simp [ha]) (e ▸ hb)⟩, n2.2.1, fun a ha b hb e => ?_⟩
    subst e
    rcases List.mem_append.1 ha with ha | ha
    · exact n3 a ha a (by simp [hb]) rfl
    · exact hd a (by simp [hb]) ha
  · rcases List.mem_append.1 ha with ha | ha
    · rcases List.mem_append.1 ha with ha | ha
      · exact .inl (by simp [ha])
      · exact .inr ha
    · exact .inl (by simp [ha])
open Classical in
/-- One object's cells are written; some numbers are given up to it. -/
theorem SR.updB {p nx k a : Nat} {h0 : LB} {hf h : AH} {σ own : Nat → Option Nat} {E : Env} {Ea : Nat → Value} {ks : List Nat} {z : AObj} {obj : Obj} {N : List Nat} (hs : SR p h0 σ hf own E O nx Ea h) (hσ : σ k = some a) (hk : k < nx) (ha : own a = some k) (hkk : k ∉ ks) (hN : N.Nodup) (hN' : ∀ b ∈ N, own b = some k ∨ ∃ k' ∈ ks, own b = some k')
    (ho : ObjR σ hf nx (h.upd a (some z)) obj (some a) N) : ∃ own', SR p h0 σ hf own' E ((k, some obj) :: killO ks O) nx Ea (h.upd a (some z)) ∧ ∀ b k', own' b = some k' → own b = some k' ∨ h b = none ∨ ∃ k'' ∈ k :: ks, own b = some k'' := by
  obtain ⟨m1, m2, m3, m4⟩ := hs.mine a k ha
  refine ⟨fun b => if b ∈ N then some k else own b, ⟨hs.env, fun k' o hk' => ?_, fun b o hb => ?_, fun b k' hb => ?_, hs.base, fun t ht => ?_⟩, fun b k' hb => ?_⟩
  · simp only [gO] at hk'
    split at hk'
    · rename_i e
      subst e
      obtain rfl := Option.some.inj hk'
      exact ⟨hk, N, hN, fun b hb => by simp only [if_pos hb], hσ ▸ ho⟩
    · rename_i hne
      obtain ⟨hnk, hk'⟩ := gO_kill hk'
      obtain ⟨h1, N', h2, h3, h4⟩ := hs.obj k' o hk'
      refine ⟨h1, N', h2, fun b hb => ?_, h4.mono (fun _ _ e => e) (Nat.le_refl _) (fun _ _ => rfl) (fun b hb => AH.upd_ne _ (fun e => ?_) _)⟩
      · have hob := h3 b hb
        have : b ∉ N := fun hn => by
          rcases hN' b hn with e | ⟨k2, hk2, e⟩
          · rw [hob] at e; exact hne (Option.some.inj e)
          · rw [hob] at e
            obtain rfl := Option.some.inj e
            exact hnk hk2
        simp only [if_neg this]
        exact hob
      · subst e
        have := h3 _ hb
        rw [ha] at this
        exact hne (Option.some.inj this).symm
  · obtain ⟨h1, h2⟩ := hs.fro b o hb
    have hba : b ≠ a := fun e => by rw [e, ha] at h2; cases h2
    have hbn : b ∉ N := fun hn => by
      rcases hN' b hn with e | ⟨k2, hk2, e⟩ <;> (rw [h2] at e; cases e)
    exact ⟨by rw [AH.upd_ne _ hba]; exact h1, by simp only [if_neg hbn]; exact h2⟩
  · have up : h b ≠ none → (h.upd a (some z)) b ≠ none := fun h3 => by
      by_cases e : b = a
      · rw [e, AH.upd_same]; simp
      · rw [AH.upd_ne _ e]; exact h3
    split at hb
    · rename_i hn
      obtain rfl := Option.some.inj hb
      rcases hN' b hn with e | ⟨k2, hk2, e⟩
      · obtain ⟨h1, h2, h3, h4⟩ := hs.mine b _ e
        exact ⟨h1, h2, up h3, h4⟩
      · obtain ⟨h1, h2, h3, h4⟩ := hs.mine b _ e
        exact ⟨h1, h2, up h3, hk⟩
    · obtain ⟨h1, h2, h3, h4⟩ := hs.mine b k' hb
      exact ⟨h1, h2, up h3, h4⟩
  · unfold AH.upd at ht
    split at ht
    · rename_i e
      exact .inr (e ▸ m1)
    · exact hs.dom t ht
  · simp only at hb
    split at hb
    · rename_i hn
      rcases hN' b hn with e | ⟨k2, hk2, e⟩
      · exact .inr (.inr ⟨k, by simp, e⟩)
      · exact .inr (.inr ⟨k2, by simp [hk2], e⟩)
    · exact .inl hb
end
section
variable {call : CallT} {P : Program} {E : Env} {O : Objs} {d : Option Tmp} {ty tt s e xt : TypeId} {ps : String} {af : Array Edge} {g : Option (Nat × Bool)} {x y z : Operand} {t u w : T} {nx sz : Nat} {rows rows2 : List (List T)} {ks ks2 : List Nat}
theorem B.storeB {k i o : Nat} {rows' : List (List T)} {row us ws : List T} (hx : VEv E x (.orp sz k i o)) (hy : VEv E y t) (ht : t ≠ .any) (hk : gO O k = some (.rows sz rows)) (hi : rows[i]? = some row) (hus : tcells t = us) (hle : o + us.length ≤ sz) (hif : (P.info? tt).isSome = true) (hn : P.cellsOf tt = us.length) (hc : ∀ a ∈ us, isCell a = true) (hb : Bury O ks us ws) (hwl : ws.length = us.length) (hkk : k ∉ ks) (hr : rows.set i (spl row o ws) = rows') :
    OC call P E O nx ⟨d, .store tt x y, ty, ps, af, g⟩ .any ((k, some (.rows sz rows')) :: killO ks O) nx (k :: ks) := ⟨Nat.le_refl _, fun q p h0 σ hf own Ea h hs hu hF => by
  subst hus
  subst hr
  obtain ⟨v, h1, h2⟩ := hx σ hf nx Ea hs.env
  obtain ⟨v', h3, h4⟩ := hy σ hf nx Ea hs.env
  obtain ⟨a, rfl, h5, h6⟩ := h2.orpInv
  obtain ⟨N, hN1, hN2, h7⟩ := hs.objAt hk
  rw [h5] at h7
  cases h7 with
  | rows hh hodd hlen hfit hsl =>
    rename_i cs N
    have h8 := h4.cells ht
    have h9 := h8.1
    obtain ⟨M, b1, b2, b3⟩ := hb p h0 σ hf own E nx Ea h _ hs h8
    have hcl : ∀ b ∈ v'.cells.toList, b.oneCell' = true := by
      intro b hb
      obtain ⟨j, hj⟩ := List.getElem?_of_mem hb
      have hlt : j < (tcells t).length := by rw [h9]; exact (List.getElem?_eq_some_iff.1 hj).1
      have := h8.2 j hlt
      rw [List.getD_eq_getElem?_getD (l := v'.cells.toList), hj, Option.getD_some] at this
      exact this.one (hc _ (by rw [List.getD_eq_getElem?_getD, List.getElem?_eq_getElem hlt]; exact List.getElem_mem hlt))
    have hown : own a = some k := hN2 a (by simp)
    have hlt : i < rows.length := (List.getElem?_eq_some_iff.1 hi).1
    have hf1 := row_fit (sz := sz) hlt
    have hrow : row.length = sz := hlen row (List.mem_of_getElem? hi)
    have hst := astore_at (P := P) (t := tt) (v := v') (o := i * sz + o) hodd hh hif hn rfl h9.symm (by rw [← h9]; omega) hcl
    have hfll := flatten_len hlen
    have hNn := List.nodup_cons.1 hN1
    obtain ⟨L, l1, l2, l3⟩ := hsl.put b1 (o := i * sz + o) (by omega) hNn.2 b2 (fun b hb hm => by
      obtain ⟨k2, hk2, e2⟩ := b3 b hm
      rw [hN2 b (by simp [hb])] at e2
      exact hkk (by rw [Option.some.inj e2]; exact hk2))
    have hlen' : ∀ r ∈ rows.set i (spl row o ws), r.length = sz := fun r hr => by
      rcases List.mem_or_eq_of_mem_set hr with h | rfl
      · exact hlen r h
      · simp [spl]; omega
    have haL : a ∉ L := fun hm => by
      rcases l3 a hm with e | e
      · exact hNn.1 e
      · obtain ⟨k2, hk2, e2⟩ := b3 a e
        rw [hown] at e2
        exact hkk (by rw [Option.some.inj e2]; exact hk2)
    have hobj : ObjR σ hf nx (h.upd a (some (.cells sz (AE.splice cs (i * sz + o) v'.cells.toList)))) (.rows sz (rows.set i (spl row o ws))) (some a) (a :: L) := by
      refine .rows (AH.upd_same _ _ _) hodd hlen' ?_ ?_
      · rw [List.length_set]
        simp only [AE.splice, List.length_append, List.length_take, List.length_drop]
        omega
      · rw [List.length_set, flatten_set hlen hi (by omega)]
        have e2 : (AE.splice cs (i * sz + o) v'.cells.toList).take (rows.length * sz) = AE.splice (cs.take (rows.length * sz)) (i * sz + o) v'.cells.toList := by
          unfold AE.splice
          rw [List.take_append, List.take_append, List.length_append, List.length_take, List.take_take, List.drop_take]
          rw [show Min.min (rows.length * sz) (i * sz + o) = i * sz + o by omega, List.take_of_length_le (l := v'.cells.toList) (by omega), List.take_take]
          rw [show Min.min (i * sz + o) (rows.length * sz) = i * sz + o by omega]
          congr 2
          omega
        rw [e2]
        exact l1.mono (fun _ _ e => e) (fun b hb => AH.upd_ne _ (fun e => haL (by rw [← e]; exact hb)) _)
    obtain ⟨own', g1, g2⟩ := hs.updB h5 h6 hown hkk (N := a :: L) (List.nodup_cons.2 ⟨haL, l2⟩) (fun b hb => by
      rcases List.mem_cons.1 hb with rfl | hb
      · exact .inl hown
      · rcases l3 b hb with e | e
        · exact .inl (hN2 b (by simp [e]))
        · exact .inr (b3 b e)) hobj
    refine ⟨undef, _, σ, own', X.store h1 h3 hst, Dom.old (by rw [hh]; simp) _, fun _ _ => rfl, g1, .any _, fun b hb hnk => AH.upd_ne _ (fun e => ?_) _, g2⟩
    exact hnk k (by simp) (e ▸ hown)⟩
/-- A literal of own parts. -/
theorem B.sliceB {call : CallT} {P : Program} {ops : Array Oper} {l : List Oper} {K : Env → Objs → Nat → Prop} {pp : Array (Nat × Operand)} {us : List T} {rows : List (List T)} {z : Value} (hw : VWant ops E ⟨d, .buildSlice tt 1 pp, ty, ps, af, g⟩ true) (hx : VEvp E pp.toList [(0, t)]) (ht : t ≠ .any) (hus : tcells t = us) (hb : Bury O ks us rows.flatten) (hrl : rows.length = 1) (hlr : ∀ r ∈ rows, r.length = sz) (hul : us.length = sz) (hu : P.underlying tt = some (.slice e)) (hz : zeroOf P e = some z) (hall : z.cells.all closed1 = true) (hs : z.cells.size = P.cellsOf e) (hp : 0 < P.cellsOf e) (hsz : P.cellsOf e = sz) (hbd : 1 * sz ≤ 16777216)
    (hk : VRunO call P ops l (pE E d (.os sz nx 0 1)) ((nx, some (.rows sz rows)) :: killO ks O) (nx + 1) K) : VRunO call P ops (⟨d, .buildSlice tt 1 pp, ty, ps, af, g⟩ :: l) E O nx K := by
  refine VRunO.chain (ks := ks) (t := .os sz nx 0 1) (O' := (nx, some (.rows sz rows)) :: killO ks O) (nx' := nx + 1) hw ⟨Nat.le_succ _, fun q p h0 σ hf own Ea h hsr hu' hF => ?_⟩ hk
  subst hsz
  obtain ⟨vs, h1, h2⟩ := hx σ hf nx Ea hsr.env
  obtain ⟨v, rfl⟩ : ∃ v, vs = [(0, v)] := by
    have e1 := h2.1
    match vs, e1 with
    | [(i, v)], e1 => exact ⟨v, by simp at e1; rw [e1]⟩
    | [], e1 => simp at e1
    | _ :: _ :: _, e1 => simp at e1
  have hv : V σ hf nx t v := by simpa using h2.2.2 0 (by simp)
  subst hus
  have hc := hv.cells ht
  obtain ⟨N, b1, b2, b3⟩ := hb p h0 σ hf own E nx Ea h _ hsr hc
  have hcl := hc.1
  have htok : h (tokOf q) = none := hF _ (tokOf_under q)
  have hfn : hf (tokOf q) = none := by
    cases hh : hf (tokOf q) with
    | none => rfl
    | some o => rw [(hsr.fro _ _ hh).1] at htok; cases htok
  have h0n : h0.h (tokOf q) = none := by
    cases hh : h0.h (tokOf q) with
    | none => rfl
    | some o =>
      have e1 := hsr.base (tokOf q) (by rw [hh]; simp)
      rw [hfn, hh] at e1
      cases e1
  have hx' : aexec call P q Ea h ⟨d, .buildSlice tt 1 pp, ty, ps, af, g⟩ = some (.slice (some ⟨tokOf q, 0, none⟩) 1 1, h.upd (tokOf q) (some (.cells (P.cellsOf e) v.cells.toList))) := by
    refine X.buildSlice h1 ?_
    have hsz1 : v.cells.size = P.cellsOf e := by simpa using hcl.symm.trans hul
    have hcy : (cyc z.cells.toList (1 * P.cellsOf e)).toArray.size = P.cellsOf e := by simp [cyc_length]
    simp only [abuildSlice, hu, hz]
    rw [if_pos ⟨hp, hbd, hall, hs⟩]
    have hfill : Instr.fill (fun i => some (i * P.cellsOf e, P.cellsOf e)) (cyc z.cells.toList (1 * P.cellsOf e)).toArray [(0, v)] = some (v.cells.zipIdx.foldl (fun cs (x : Value × Nat) => cs.setIfInBounds (0 * P.cellsOf e + x.2) x.1) (cyc z.cells.toList (1 * P.cellsOf e)).toArray) := by
      simp only [Instr.fill]
      rw [if_neg (by simp [hsz1, cyc_length])]
    rw [hfill, Option.map_some, fold_set0 v (0 * P.cellsOf e) _ (by rw [hcy, hsz1]; omega)]
    simp only [Nat.zero_mul, AE.splice, List.take_zero, List.nil_append, Nat.zero_add]
    rw [List.drop_eq_nil_of_le (by simp [cyc_length]; omega), List.append_nil]
    simp
  have hflr := flatten_len hlr
  obtain ⟨own', g1, g2⟩ := hsr.repl (ks := ks) (oa := some (tokOf q)) (N := tokOf q :: N) (h' := h.upd (tokOf q) (some (.cells (P.cellsOf e) v.cells.toList))) (obj := .rows (P.cellsOf e) rows)
    (fun b hb _ => AH.upd_ne _ (fun e => hb (by rw [e]; exact htok)) _)
    (fun b hb => by
      unfold AH.upd at hb
      split at hb
      · rename_i e1
        exact .inr (e1 ▸ hu' _ (tokOf_under q))
      · exact hsr.dom b hb)
    (by
      rw [List.nodup_cons]
      refine ⟨fun hm => ?_, b2⟩
      obtain ⟨k', _, e1⟩ := b3 _ hm
      exact (hsr.mine _ _ e1).2.2.1 htok)
    (fun b hb => by
      rcases List.mem_cons.1 hb with rfl | hb
      · exact ⟨hu' _ (tokOf_under q), h0n, by rw [AH.upd_same]; simp, hfn, .inl htok⟩
      · obtain ⟨k', hk', e2⟩ := b3 b hb
        obtain ⟨m1, m2, m3, _⟩ := hsr.mine b k' e2
        refine ⟨m1, m2, ?_, ?_, .inr ⟨k', hk', e2⟩⟩
        · rw [AH.upd_ne _ (fun e => by rw [e] at m3; exact m3 htok)]; exact m3
        · cases hh : hf b with
          | none => rfl
          | some o => rw [(hsr.fro _ _ hh).2] at e2; cases e2)
    (by
      refine .rows (AH.upd_same _ _ _) (tok_odd q) hlr (by rw [hrl]; simp only [Array.length_toList] at hcl ⊢; omega) ?_
      rw [hrl, List.take_of_length_le (by simp only [Array.length_toList] at hcl ⊢; omega)]
      refine b1.mono (fun _ _ e => e) (fun b hb => ?_)
      obtain ⟨k', _, e2⟩ := b3 b hb
      exact AH.upd_ne _ (fun e => by rw [e] at e2; exact (hsr.mine _ _ e2).2.2.1 htok) _)
  refine ⟨_, _, _, own', hx', Dom.new _ _ _, σnew _, g1, ?_, fun b hb _ => AH.upd_ne _ (fun e => hb (by rw [e]; exact htok)) _, g2⟩
  have := V.os (σ := fun k => if k = nx then some (tokOf q) else σ k) (hf := hf) (nx := nx + 1) (a := tokOf q) (P.cellsOf e) nx 0 1 1 (by omega) (by simp) (by omega)
  rwa [Nat.zero_mul] at this
/-- Trees of zero cells. -/
def Z0 (ts : List T) (vs : List Value) : Prop := ∀ hf h, SL hf h ts vs []
theorem Z0.nil : Z0 [] [] := fun _ _ => .nil
theorem Z0.int {k : IntKind} {n : Int} {ts : List T} {vs : List Value} (h : Z0 ts vs) : Z0 (.int k n :: ts) (.int k n :: vs) := fun hf H => SL.cons (N := []) (.fz (.int k n)) (h hf H)
theorem Z0.bool {b : Bool} {ts : List T} {vs : List Value} (h : Z0 ts vs) : Z0 (.bool b :: ts) (.bool b :: vs) := fun hf H => SL.cons (N := []) (.fz (.bool b)) (h hf H)
theorem Z0.str {b : ByteArray} {ts : List T} {vs : List Value} (h : Z0 ts vs) : Z0 (.str b :: ts) (.string b :: vs) := fun hf H => SL.cons (N := []) (.fz (.str b)) (h hf H)
theorem Z0.sl {sz : Nat} {ts : List T} {vs : List Value} (h : Z0 ts vs) : Z0 (.sl true sz [] :: ts) (.slice none 0 0 :: vs) := fun hf H => SL.cons (N := []) (.ow0 sz) (h hf H)
theorem Z0.app {ts us : List T} {vs ws : List Value} (h : Z0 ts vs) (h2 : Z0 us ws) : Z0 (ts ++ us) (vs ++ ws) := fun hf H => (h hf H).append (h2 hf H)
theorem Z0.rep {ts : List T} {vs : List Value} (h : Z0 ts vs) : ∀ n, Z0 (List.replicate n ts).flatten (List.replicate n vs).flatten
  | 0 => .nil
  | n + 1 => by
    rw [List.replicate_succ, List.replicate_succ, List.flatten_cons, List.flatten_cons]
    exact h.app (Z0.rep h n)
theorem cyc_flatten {z : List Value} (hz : 0 < z.length) (n : Nat) : cyc z (n * z.length) = (List.replicate n z).flatten := by
  have hlen : ∀ r ∈ List.replicate n z, r.length = z.length := fun r hr => by rw [List.eq_of_mem_replicate hr]
  have hfl := flatten_len hlen
  rw [List.length_replicate] at hfl
  refine List.ext_getElem? fun i => ?_
  rcases Nat.lt_or_ge i (n * z.length) with hi | hi
  · have h1 := cyc_getD (z := z) hi
    have hq : i / z.length < n := Nat.div_lt_of_lt_mul (by rwa [Nat.mul_comm] at hi)
    have h2 := flatten_row hlen (i := i / z.length) (row := z) (by rw [List.getElem?_replicate, if_pos hq])
    have hqq : i / z.length * z.length + i % z.length = i := by rw [Nat.mul_comm]; exact Nat.div_add_mod i z.length
    have h3 : (List.replicate n z).flatten[i]? = z[i % z.length]? := by
      rw [← hqq]
      have := congrArg (·[i % z.length]?) h2
      simp only [List.getElem?_take, List.getElem?_drop, if_pos (Nat.mod_lt i hz)] at this
      rw [this, Nat.mul_add_mod_self_right, Nat.mod_mod]
    rw [h3, List.getElem?_eq_getElem (by rw [cyc_length]; exact hi), List.getElem?_eq_getElem (Nat.mod_lt i hz)]
    rw [List.getD_eq_getElem?_getD, List.getD_eq_getElem?_getD, List.getElem?_eq_getElem (by rw [cyc_length]; exact hi), List.getElem?_eq_getElem (Nat.mod_lt i hz)] at h1
    exact congrArg some h1
  · rw [List.getElem?_eq_none (by rw [cyc_length]; exact hi), List.getElem?_eq_none (by omega)]
theorem B.makeZ {n m : Nat} {zr : List T} {z : Value} {j : Int} {rows : List (List T)} (hx : VEv E x (.int .i64 j)) (hy : VEv E y (.int .i64 j)) (hj : j = n) (hu : P.underlying tt = some (.slice e)) (hz : zeroOf P e = some z) (hcl : closedV z = true) (hs : z.cells.size = P.cellsOf e) (hp : 0 < P.cellsOf e) (hn : n ≤ lim) (hb : P.bytesOf e ≤ 256) (hzr : Z0 zr z.cells.toList) (hsz : P.cellsOf e = sz) (hr : List.replicate n zr = rows) (hm : n = m) :
    OM call P E nx ⟨d, .makeSlice tt x y, ty, ps, af, g⟩ (.os sz nx 0 m) (.rows sz rows) := fun q σ hf Ea he => by
  subst hj
  subst hsz
  subst hr
  subst hm
  obtain ⟨v, h1, h2⟩ := hx σ hf nx Ea he
  obtain ⟨v', h3, h4⟩ := hy σ hf nx Ea he
  obtain rfl := h2.intInv
  obtain rfl := h4.intInv
  have hall : z.cells.all closed1 = true := by
    cases z <;> first | exact hcl | (simp only [Value.cells]; simpa [closedV] using hcl) | simp [closedV, closed1] at hcl
  have hbl : (P.bytesOf e : Int) * n ≤ 281474976710656 := by
    have h2 : P.bytesOf e * n ≤ 281474976710656 := Nat.le_trans (Nat.mul_le_mul hb hn) (by unfold lim; omega)
    have h3 : ((P.bytesOf e * n : Nat) : Int) ≤ 281474976710656 := by omega
    rwa [Int.natCast_mul] at h3
  have h4' : (n : Int) ≤ 9223372036854775807 := by
    have : lim = 1099511627776 := rfl
    omega
  have hmk : ∀ h : AH, amake P q tt h (.int .i64 n) (.int .i64 n) = some (.val (.slice (some ⟨tokOf q, 0, none⟩) n (if n = 0 then 0 else 1)) (h.upd (tokOf q) (some (.cells (P.cellsOf e) (cyc z.cells.toList (n * P.cellsOf e)))))) := fun h => by
    simp only [amake, hu, hz]
    rw [if_pos ⟨by omega, trivial, h4', hbl, hall, hs, hp⟩]
    simp
  have hzl := (hzr (fun _ => none) (fun _ => none)).length
  simp only [Array.length_toList] at hzl
  by_cases hn0 : n = 0
  · subst hn0
    refine ⟨_, _, none, [], fun h => X.makeSlice h1 h3 (hmk h), .inr ⟨rfl, rfl⟩, ?_, fun h => .none _⟩
    exact .ose _ nx _ 0 (by omega) (by simp)
  · refine ⟨_, _, some (tokOf q), [tokOf q], fun h => X.makeSlice h1 h3 (hmk h), .inl ⟨rfl, rfl⟩, ?_, fun h => ?_⟩
    · have := V.os (σ := fun k => if k = nx then some (tokOf q) else σ k) (hf := hf) (nx := nx + 1) (a := tokOf q) (P.cellsOf e) nx 0 n 1 (by omega) (by simp) (by omega)
      rw [Nat.zero_mul] at this
      rw [if_neg hn0]
      exact this
    · refine .rows (N := []) (AH.upd_same _ _ _) (tok_odd q) (fun r hr => by rw [List.eq_of_mem_replicate hr]; omega) (by rw [List.length_replicate, cyc_length]; omega) ?_
      rw [List.length_replicate, List.take_of_length_le (by rw [cyc_length]; omega)]
      have e1 : z.cells.toList.length = P.cellsOf e := by simpa using hs
      rw [← e1, cyc_flatten (by omega)]
      exact (hzr.rep n) _ _
end
end Go.Proofs.Ythdnjihmjdbdkaa.AE
