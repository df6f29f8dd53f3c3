/- One word an operation, over trees: literals, new rows, parts of slices, bytes. Conditions: none. -/
import Derived.Test.YthdnjihmjdbdkaaVlOps3
namespace Go.Proofs.Ythdnjihmjdbdkaa.AE
open Go Go.RowKit
set_option linter.unusedVariables false
set_option linter.unusedSimpArgs false
theorem fold_set : ∀ (vs : List Value) (k off : Nat) (cells : Array Value), off + k + vs.length ≤ cells.size → ((vs.zipIdx k).foldl (fun cs (x : Value × Nat) => cs.setIfInBounds (off + x.2) x.1) cells).toList = splice cells.toList (off + k) vs
  | [], k, off, cells, h => by simp [splice]
  | v :: r, k, off, cells, h => by
    simp only [List.length_cons] at h
    rw [List.zipIdx_cons, List.foldl_cons, fold_set r (k + 1) off _ (by simp; omega)]
    simp only [Array.toList_setIfInBounds, splice, List.length_cons]
    have hsz : cells.toList.length = cells.size := by simp
    have hl : off + k < cells.toList.length := by omega
    rw [show off + (k + 1) = off + k + 1 by omega]
    have e1 : (cells.toList.set (off + k) v).take (off + k + 1) = cells.toList.take (off + k) ++ [v] := by
      rw [List.take_succ_eq_append_getElem (by simpa using hl), List.take_set_of_le (Nat.le_refl _), List.getElem_set_self]
    rw [e1]
    rw [List.drop_set_of_lt (show off + k < off + k + 1 + r.length by omega)]
    simp only [List.append_assoc, List.cons_append, List.nil_append]
    rw [show off + k + 1 + r.length = off + k + (r.length + 1) by omega]
theorem fold_set0 (v : Value) (off : Nat) (cells : Array Value) (h : off + v.cells.size ≤ cells.size) : (v.cells.zipIdx.foldl (fun cs (x : Value × Nat) => cs.setIfInBounds (off + x.2) x.1) cells).toList = splice cells.toList off v.cells.toList := by
  have := fold_set v.cells.toList 0 off cells (by simpa using h)
  rw [Nat.add_zero] at this
  rw [← this, ← Array.foldl_toList]
  simp [Array.toList_zipIdx]
def VLP (σ : Nat → Option Nat) (hf : AH) (nx : Nat) (ps : List (Nat × T)) (qs : List (Nat × Value)) : Prop := ps.map (·.1) = qs.map (·.1) ∧ VL σ hf nx (ps.map (·.2)) (qs.map (·.2))
def tfill (place : Nat → Option (Nat × Nat)) (cells : List T) : List (Nat × T) → Option (List T)
  | [] => some cells
  | (i, v) :: rest =>
    match place i with
    | none => none
    | some (off, size) => if (tcells v).length = size ∧ off + (tcells v).length ≤ cells.length then tfill place (spl cells off (tcells v)) rest else none
theorem tfill_sound {σ : Nat → Option Nat} {hf : AH} {nx : Nat} {place : Nat → Option (Nat × Nat)} : ∀ {ps : List (Nat × T)} {qs : List (Nat × Value)} {cells out : List T} {cs : Array Value}, VLP σ hf nx ps qs → (∀ x ∈ ps, x.2 ≠ .any) → VL σ hf nx cells cs.toList → tfill place cells ps = some out → ∃ o, Instr.fill place cs qs = some o ∧ VL σ hf nx out o.toList
  | [], qs, cells, out, cs, hp, hne, hc, h => by
    have hq : qs = [] := by
      have := hp.1
      simpa using this.symm
    subst hq
    obtain rfl := Option.some.inj h
    exact ⟨cs, rfl, hc⟩
  | (i, v) :: rest, [], cells, out, cs, hp, hne, hc, h => by
    have := hp.1
    simp at this
  | (i, v) :: rest, (j, w) :: qs, cells, out, cs, hp, hne, hc, h => by
    have h1 := hp.1
    simp only [List.map_cons, List.cons.injEq] at h1
    obtain ⟨rfl, h2⟩ := h1
    obtain ⟨_, _, e, h3, h4⟩ := hp.2.tail
    simp only [List.map_cons, List.cons.injEq] at e
    obtain ⟨rfl, rfl⟩ := e
    unfold tfill at h
    unfold Instr.fill
    cases hpl : place i with
    | none => rw [hpl] at h; cases h
    | some x =>
      obtain ⟨off, size⟩ := x
      rw [hpl] at h
      dsimp only at h ⊢
      have h5 := h3.cells (hne (i, v) (by simp))
      split at h
      · rename_i hc2
        have hl := hc.1
        have hl5 := h5.1
        simp only [Array.length_toList] at hl hl5
        have hfit : off + w.cells.size ≤ cs.size := by omega
        rw [if_neg (by simp; omega)]
        exact tfill_sound ⟨h2, h4⟩ (fun x hx => hne x (by simp [hx])) (by rw [fold_set0 w off cs hfit]; exact hc.splice h5 (by omega)) h
      · cases h
section
variable {call : CallT} {P : Program} {E : Env} {O : Objs} {d : Option Tmp} {ty tt s e xt : TypeId} {ps : String} {af : Array Edge} {g : Option (Nat × Bool)} {x y z : Operand} {t u w : T} {nx sz : Nat} {rows rows2 : List (List T)} {ks ks2 : List Nat}
def VEvp (E : Env) (xs : List (Nat × Operand)) (ts : List (Nat × T)) : Prop := ∀ (σ : Nat → Option Nat) (hf : AH) (nx : Nat) (Ea : Nat → Value), (∀ t, V σ hf nx (gE E t) (Ea t)) → ∃ vs, evp Ea xs = some vs ∧ VLP σ hf nx ts vs
theorem VEvp.nil : VEvp E [] [] := fun σ hf nx Ea he => ⟨[], rfl, rfl, VL.nil _ _ _⟩
theorem VEvp.cons {i : Nat} {xs : List (Nat × Operand)} {ts : List (Nat × T)} (h : VEv E x t) (hr : VEvp E xs ts) : VEvp E ((i, x) :: xs) ((i, t) :: ts) := fun σ hf nx Ea he => by
  obtain ⟨v, h1, h2⟩ := h σ hf nx Ea he
  obtain ⟨vs, h3, h4⟩ := hr σ hf nx Ea he
  exact ⟨(i, v) :: vs, by simp only [evp, h1, h3], by simp [h4.1], by simpa using VL.cons h2 h4.2⟩
/-- A struct's literal. -/
theorem OF.build {pp : Array (Nat × Operand)} {l : List (Nat × T)} {fs : Array Field} {zs out : List T} {z : Value} (hx : VEvp E pp.toList l) (hne : ∀ x ∈ l, x.2 ≠ .any) (hu : P.underlying tt = some (.struct fs)) (hz : zeroOf P tt = some z) (hzc : ∀ hf, RL hf zs z.cells.toList) (hall : (fs.all (fun f => (P.info? f.type).isSome) && z.cells.all closed1) = true) (hfl : tfill (placesOf P fs) zs l = some out) :
    OF call P E ⟨d, .build tt pp, ty, ps, af, g⟩ (.agg out) := fun p σ hf nx Ea h he => by
  obtain ⟨q, h1, h2⟩ := hx σ hf nx Ea he
  obtain ⟨o, h3, h4⟩ := tfill_sound h2 hne (cs := z.cells) (hzc hf).toVL hfl
  refine ⟨.agg o, X.build h1 ?_, ?_⟩
  · simp only [abuild, hu, hz, hall, if_true, h3, Option.map_some]
  · simpa using h4.toAgg
theorem cyc_getD {z : List Value} {n i : Nat} (hi : i < n) : (cyc z n).getD i undef = z.getD (i % z.length) undef := by
  simp [cyc, List.getD_eq_getElem?_getD, hi]
theorem flatten_replicate_getD {zr : List T} {n i : Nat} (hi : i < n * zr.length) : (List.replicate n zr).flatten.getD i .any = zr.getD (i % zr.length) .any := by
  have hz : 0 < zr.length := by
    rcases Nat.eq_zero_or_pos zr.length with h | h
    · rw [h] at hi; omega
    · exact h
  have hlen : ∀ r ∈ List.replicate n zr, r.length = zr.length := fun r hr => by rw [List.eq_of_mem_replicate hr]
  have hq : i / zr.length < n := Nat.div_lt_of_lt_mul (by rwa [Nat.mul_comm] at hi)
  have := flatten_getD hlen (i := i / zr.length) (j := i % zr.length) (row := zr) (by rw [List.getElem?_replicate, if_pos hq]) (Nat.mod_lt _ hz)
  rw [show i / zr.length * zr.length + i % zr.length = i by rw [Nat.mul_comm]; exact Nat.div_add_mod i zr.length] at this
  exact this
/-- make([]T, n). -/
theorem OM.makeSlice {n : Nat} {zr : List T} {z : Value} {j : Int} (hx : VEv E x (.int .i64 j)) (hy : VEv E y (.int .i64 j)) (hj : j = n) (hu : P.underlying tt = some (.slice e)) (hz : zeroOf P e = some z) (hcl : closedV z = true) (hs : z.cells.size = P.cellsOf e) (hp : 0 < P.cellsOf e) (hn : n ≤ lim) (hb : P.bytesOf e ≤ 256) (hzr : ∀ hf, RL hf zr z.cells.toList) (hsz : P.cellsOf e = sz) :
    OM call P E nx ⟨d, .makeSlice tt x y, ty, ps, af, g⟩ (.os sz nx 0 n) (.rows sz (List.replicate n zr)) := fun q σ hf Ea he => by
  subst hj
  subst hsz
  obtain ⟨v, h1, h2⟩ := hx σ hf nx Ea he
  obtain ⟨v', h3, h4⟩ := hy σ hf nx Ea he
  obtain rfl := h2.intInv
  obtain rfl := h4.intInv
  have hall : z.cells.all closed1 = true := by
    cases z <;> first | exact hcl | (simp only [Value.cells]; simpa [closedV] using hcl) | simp [closedV, closed1] at hcl
  have hbl : (P.bytesOf e : Int) * n ≤ 281474976710656 := by
    have h2 : P.bytesOf e * n ≤ 281474976710656 := Nat.le_trans (Nat.mul_le_mul hb hn) (by unfold lim; omega)
    have h3 : ((P.bytesOf e * n : Nat) : Int) ≤ 281474976710656 := by omega
    rwa [Int.natCast_mul] at h3
  have h4' : (n : Int) ≤ 9223372036854775807 := by
    have : lim = 1099511627776 := rfl
    omega
  have hmk : ∀ h : AH, amake P q tt h (.int .i64 n) (.int .i64 n) = some (.val (.slice (some ⟨tokOf q, 0, none⟩) n (if n = 0 then 0 else 1)) (h.upd (tokOf q) (some (.cells (P.cellsOf e) (cyc z.cells.toList (n * P.cellsOf e)))))) := fun h => by
    simp only [amake, hu, hz]
    rw [if_pos ⟨by omega, trivial, h4', hbl, hall, hs, hp⟩]
    simp
  have hzl := (hzr hf).1
  simp only [Array.length_toList] at hzl
  by_cases hn0 : n = 0
  · subst hn0
    refine ⟨_, _, none, [], fun h => X.makeSlice h1 h3 (hmk h), .inr ⟨rfl, rfl⟩, ?_, fun h => .none _⟩
    exact .ose _ nx _ 0 (by omega) (by simp)
  · refine ⟨_, _, some (tokOf q), [tokOf q], fun h => X.makeSlice h1 h3 (hmk h), .inl ⟨rfl, rfl⟩, ?_, fun h => ?_⟩
    · have := V.os (σ := fun k => if k = nx then some (tokOf q) else σ k) (hf := hf) (nx := nx + 1) (a := tokOf q) (P.cellsOf e) nx 0 n 1 (by omega) (by simp) (by omega)
      rw [Nat.zero_mul] at this
      rw [if_neg hn0]
      exact this
    · refine .rows (N := []) (AH.upd_same _ _ _) (tok_odd q) (fun r hr => by rw [List.eq_of_mem_replicate hr]; omega) (by rw [List.length_replicate, cyc_length]; omega) ?_
      rw [List.length_replicate, List.take_of_length_le (by rw [cyc_length]; omega)]
      have hlen : ∀ r ∈ List.replicate n zr, r.length = P.cellsOf e := fun r hr => by rw [List.eq_of_mem_replicate hr]; omega
      have hfl := flatten_len hlen
      rw [List.length_replicate] at hfl
      refine RL.toSL ⟨by rw [cyc_length, hfl], fun i hi => ?_⟩
      rw [hfl] at hi
      rw [cyc_getD hi, flatten_replicate_getD (by rw [hzl, hs]; exact hi)]
      have := (hzr hf).2 (i % zr.length) (Nat.mod_lt _ (by omega))
      rw [hzl] at this ⊢
      simpa using this
theorem splAll {a b : List T} (h : a.length = b.length) : spl a 0 b = b := by
  simp [spl, ← h]
/-- []T{..}: of one or no part. -/
theorem OM.slice0 {z : Value} (hu : P.underlying tt = some (.slice e)) (hz : zeroOf P e = some z) (hall : z.cells.all closed1 = true) (hs : z.cells.size = P.cellsOf e) (hp : 0 < P.cellsOf e) (hsz : P.cellsOf e = sz) : OM call P E nx ⟨d, .buildSlice tt 0 #[], ty, ps, af, g⟩ (.os sz nx 0 0) (.rows sz []) := fun q σ hf Ea he => by
  subst hsz
  refine ⟨.slice (some ⟨tokOf q, 0, none⟩) 0 0, .cells (P.cellsOf e) [], none, [], fun h => X.buildSlice (q := []) rfl ?_, .inr ⟨rfl, rfl⟩, ?_, fun h => .none _⟩
  · simp only [abuildSlice, hu, hz]
    rw [if_pos ⟨hp, by omega, hall, hs⟩]
    simp [Instr.fill, cyc]
  · exact .ose _ nx _ 0 (by omega) (by simp)
def fillRows (sz : Nat) (l : List T) : List (List T) := l.map tcells
theorem tfill_rows {sz : Nat} : ∀ (l : List T) (k : Nat) (pre post : List T), (∀ t ∈ l, (tcells t).length = sz) → pre.length = k * sz → post.length = l.length * sz → tfill (fun i => some (i * sz, sz)) (pre ++ post) (l.zipIdx k |>.map fun x => (x.2, x.1)) = some (pre ++ (l.map tcells).flatten)
  | [], k, pre, post, h, hpre, hpost => by
    have : post = [] := List.eq_nil_of_length_eq_zero (by simpa using hpost)
    subst this
    simp [tfill]
  | t :: r, k, pre, post, h, hpre, hpost => by
    have ht := h t (by simp)
    simp only [List.length_cons, Nat.add_mul, Nat.one_mul] at hpost
    simp only [List.zipIdx_cons, List.map_cons, tfill]
    rw [if_pos ⟨ht, by rw [List.length_append]; omega⟩]
    have e1 : spl (pre ++ post) (k * sz) (tcells t) = (pre ++ tcells t) ++ post.drop sz := by
      unfold spl
      rw [← hpre, List.take_left', ht, List.drop_length_add_append]
      rfl
    rw [e1, tfill_rows r (k + 1) (pre ++ tcells t) (post.drop sz) (fun x hx => h x (by simp [hx])) (by rw [List.length_append, hpre, ht, Nat.add_mul]; omega) (by rw [List.length_drop]; omega)]
    simp only [List.flatten_cons, List.append_assoc]
theorem OM.buildSlice {n : Nat} {pp : Array (Nat × Operand)} {l : List T} {z : Value} (hx : VEvp E pp.toList (l.zipIdx.map fun x => (x.2, x.1))) (hl : l.length = n) (hpos : 0 < n) (hne : ∀ t ∈ l, t ≠ .any) (hpl : ∀ t ∈ l, ∀ c ∈ tcells t, isPl c = true) (hlen : ∀ t ∈ l, (tcells t).length = sz) (hu : P.underlying tt = some (.slice e)) (hz : zeroOf P e = some z) (hall : z.cells.all closed1 = true) (hs : z.cells.size = P.cellsOf e) (hp : 0 < P.cellsOf e) (hsz : P.cellsOf e = sz) (hb : n * sz ≤ 16777216) :
    OM call P E nx ⟨d, .buildSlice tt n pp, ty, ps, af, g⟩ (.os sz nx 0 n) (.rows sz (l.map tcells)) := fun q σ hf Ea he => by
  subst hsz
  subst hl
  obtain ⟨vs, h1, h2⟩ := hx σ hf nx Ea he
  -- trees of the zero cells are of no matter: all is filled
  obtain ⟨zs, hzs⟩ : ∃ zs : List T, VL σ hf nx zs (cyc z.cells.toList (l.length * P.cellsOf e)) := ⟨List.replicate (l.length * P.cellsOf e) .any, by simp [cyc_length], fun i hi => by
    rw [List.length_replicate] at hi
    rw [List.getD_eq_getElem?_getD, List.getElem?_replicate, if_pos hi]
    exact .any _⟩
  have hzl := hzs.1
  rw [cyc_length] at hzl
  have hfill := tfill_rows l 0 [] zs hlen (by simp) hzl
  rw [List.nil_append, List.nil_append] at hfill
  obtain ⟨o, h3, h4⟩ := tfill_sound (cs := (cyc z.cells.toList (l.length * P.cellsOf e)).toArray) h2 (fun x hx => by
    obtain ⟨y, hy, rfl⟩ := List.mem_map.1 hx
    exact hne _ (List.fst_mem_of_mem_zipIdx hy)) (by simpa using hzs) hfill
  have hrows : ∀ r ∈ l.map tcells, r.length = P.cellsOf e := fun r hr => by
    obtain ⟨x, hx, rfl⟩ := List.mem_map.1 hr
    exact hlen x hx
  have hrl : RL hf (l.map tcells).flatten o.toList := h4.pl fun c hc => by
    obtain ⟨r, hr, hcr⟩ := List.mem_flatten.1 hc
    obtain ⟨x, hx, rfl⟩ := List.mem_map.1 hr
    exact hpl x hx c hcr
  refine ⟨.slice (some ⟨tokOf q, 0, none⟩) l.length 1, .cells (P.cellsOf e) o.toList, some (tokOf q), [tokOf q], fun h => X.buildSlice h1 ?_, .inl ⟨rfl, rfl⟩, ?_, fun h => ?_⟩
  · simp only [abuildSlice, hu, hz]
    rw [if_pos ⟨hp, hb, hall, hs⟩, h3, if_neg (by omega)]
    rfl
  · have := V.os (σ := fun k => if k = nx then some (tokOf q) else σ k) (hf := hf) (nx := nx + 1) (a := tokOf q) (P.cellsOf e) nx 0 l.length 1 (by omega) (by simp) (by omega)
    rwa [Nat.zero_mul] at this
  · have hfl := flatten_len hrows
    have hol := hrl.1
    rw [hfl] at hol
    refine .rows (N := []) (AH.upd_same _ _ _) (tok_odd q) hrows (by omega) ?_
    rw [List.take_of_length_le (by omega)]
    exact hrl.toSL
/-! ### parts of strings and slices -/
theorem OL.sliceS {st : ByteArray} {a b : Int} {i j : Nat} {ka kb : IntKind} (hx : VEv E x (.str st)) (hy : VEv E y (.int ka a)) (hz : VEv E z (.int kb b)) (ha : a = i) (hb : b = j) (h1 : i ≤ j) (h2 : j ≤ st.size) (hu : P.underlying tt = some .string) : OL call P E O ⟨d, .slice tt x (some y) (some z) none, ty, ps, af, g⟩ (.str (st.extract i j)) := fun q p h0 σ hf own nx Ea h hs => by
  subst ha
  subst hb
  obtain ⟨v, e1, e2⟩ := hx σ hf nx Ea hs.env
  obtain ⟨v', e3, e4⟩ := hy σ hf nx Ea hs.env
  obtain ⟨v'', e5, e6⟩ := hz σ hf nx Ea hs.env
  obtain rfl := e2.strInv
  obtain rfl := e4.intInv
  obtain rfl := e6.intInv
  refine ⟨_, X.sliceBoth e1 e3 e5 ?_, .fz (.str _)⟩
  simp [aslice, hu, bnd, h1, h2]
theorem OL.sliceSLo {st : ByteArray} {a : Int} {i : Nat} {ka : IntKind} (hx : VEv E x (.str st)) (hy : VEv E y (.int ka a)) (ha : a = i) (h1 : i ≤ st.size) (hu : P.underlying tt = some .string) : OL call P E O ⟨d, .slice tt x (some y) none none, ty, ps, af, g⟩ (.str (st.extract i st.size)) := fun q p h0 σ hf own nx Ea h hs => by
  subst ha
  obtain ⟨v, e1, e2⟩ := hx σ hf nx Ea hs.env
  obtain ⟨v', e3, e4⟩ := hy σ hf nx Ea hs.env
  obtain rfl := e2.strInv
  obtain rfl := e4.intInv
  refine ⟨_, X.sliceLo e1 e3 ?_, .fz (.str _)⟩
  simp [aslice, hu, bnd, h1]
theorem OL.sliceSHi {st : ByteArray} {b : Int} {j : Nat} {kb : IntKind} (hx : VEv E x (.str st)) (hz : VEv E z (.int kb b)) (hb : b = j) (h2 : j ≤ st.size) (hu : P.underlying tt = some .string) : OL call P E O ⟨d, .slice tt x none (some z) none, ty, ps, af, g⟩ (.str (st.extract 0 j)) := fun q p h0 σ hf own nx Ea h hs => by
  subst hb
  obtain ⟨v, e1, e2⟩ := hx σ hf nx Ea hs.env
  obtain ⟨v'', e5, e6⟩ := hz σ hf nx Ea hs.env
  obtain rfl := e2.strInv
  obtain rfl := e6.intInv
  refine ⟨_, X.sliceHi e1 e5 ?_, .fz (.str _)⟩
  simp [aslice, hu, bnd, h2]
/-- A part of a slice that is read, its bounds in range. -/
theorem slice_part {hf H : AH} {v : Value} {lo hi : Option Value} {i j : Nat} (hm : ∀ a o, hf a = some o → H a = some o) (hr : R hf (.sl false sz rows) v) (hl0 : bnd 0 lo = some i) (hh : bnd rows.length hi = some j) (hh0 : hi = none ∨ ∀ n, bnd n hi = some j) (h1 : i ≤ j) (h2 : j ≤ rows.length) (hu : P.underlying tt = some (.slice e)) (hsz : P.cellsOf e = sz) (hif : (P.info? e).isSome = true) :
    ∃ w, aslice P tt H v lo hi = some w ∧ R hf (.sl false sz ((rows.drop i).take (j - i))) w := by
  have hb0 : rows = [] → bnd 0 hi = some 0 := fun e => by
    subst e
    obtain rfl : j = 0 := by simpa using h2
    exact hh
  generalize hT : T.sl false sz rows = tr at hr
  cases hr <;> first | cases hT | skip
  · obtain rfl : j = 0 := by simpa using h2
    obtain rfl : i = 0 := by omega
    exact ⟨_, by simp only [aslice, hu, hl0, hb0 rfl]; rw [if_pos ⟨trivial, trivial, hif⟩], by simpa using R.sl0 sz⟩
  · obtain rfl : j = 0 := by simpa using h2
    obtain rfl : i = 0 := by omega
    exact ⟨_, by simp only [aslice, hu, hl0, hb0 rfl, if_true]; rw [if_pos ⟨trivial, trivial, hif⟩], by simpa using R.sle sz _ _ _⟩
  · rename_i a es cs o m hm1 hk hes hlen hfit h3
    by_cases hr0 : rows.length = 0
    · obtain rfl := List.eq_nil_of_length_eq_zero hr0
      obtain rfl : j = 0 := by simpa using h2
      obtain rfl : i = 0 := by omega
      exact ⟨_, by simp only [aslice, hu, hl0, hb0 rfl, List.length_nil, if_true]; rw [if_pos ⟨trivial, trivial, hif⟩], by simpa using R.sle sz _ _ _⟩
    · refine ⟨.slice (some ⟨a, o + i * P.cellsOf e, none⟩) (j - i) 1, ?_, ?_⟩
      · simp only [aslice, hu, if_neg hr0, hl0, hh, hm _ _ hk]
        rw [if_pos ⟨h1, h2, hif, by rw [hsz]; exact hes⟩]
      · have hl2 : ((rows.drop i).take (j - i)).length = j - i := by rw [List.length_take, List.length_drop]; omega
        have hmem : ∀ r ∈ (rows.drop i).take (j - i), r.length = sz := fun r hr => hlen r (List.mem_of_mem_drop (List.mem_of_mem_take hr))
        rw [hsz]
        have hmul : j * sz ≤ rows.length * sz := Nat.mul_le_mul_right _ h2
        have hmul2 : (j - i) * sz + i * sz = j * sz := by rw [← Nat.add_mul]; congr 1; omega
        have key : R hf (.sl false sz ((rows.drop i).take (j - i))) (.slice (some ⟨a, o + i * sz, none⟩) ((rows.drop i).take (j - i)).length 1) := ?_
        · rwa [hl2] at key
        refine .sl sz _ (o + i * sz) 1 (by omega) hk hes hmem (by rw [hl2]; omega) (fun q hq => ?_)
        rw [hl2] at hq
        have hszp : 0 < sz := by
          rcases Nat.eq_zero_or_pos sz with h | h
          · rw [h] at hq; omega
          · exact h
        have hqd : q / sz < j - i := Nat.div_lt_of_lt_mul (by rwa [Nat.mul_comm] at hq)
        have hqq : q / sz * sz + q % sz = q := by rw [Nat.mul_comm]; exact Nat.div_add_mod q sz
        have hlt : i + q / sz < rows.length := by omega
        have e1 := flatten_getD hlen (i := i + q / sz) (j := q % sz) (List.getElem?_eq_getElem hlt) (Nat.mod_lt _ hszp)
        have e2 := flatten_getD hmem (i := q / sz) (j := q % sz) (row := rows[i + q / sz]) (by rw [List.getElem?_take, if_pos hqd, List.getElem?_drop, List.getElem?_eq_getElem hlt]) (Nat.mod_lt _ hszp)
        rw [hqq] at e2
        rw [e2, ← e1, Nat.add_mul, Nat.add_assoc (i * sz), hqq]
        have := h3 (i * sz + q) (by omega)
        rw [show o + i * sz + q = o + (i * sz + q) by omega]
        exact this
theorem bnd_int {n i : Nat} {k : IntKind} : bnd n (some (.int k (i : Int))) = some i := by simp [bnd]
theorem OL.sliceR {a b : Int} {i j : Nat} {ka kb : IntKind} (hx : VEv E x (.sl false sz rows)) (hy : VEv E y (.int ka a)) (hz : VEv E z (.int kb b)) (ha : a = i) (hb : b = j) (h1 : i ≤ j) (h2 : j ≤ rows.length) (hu : P.underlying tt = some (.slice e)) (hsz : P.cellsOf e = sz) (hif : (P.info? e).isSome = true) :
    OL call P E O ⟨d, .slice tt x (some y) (some z) none, ty, ps, af, g⟩ (.sl false sz ((rows.drop i).take (j - i))) := fun q p h0 σ hf own nx Ea h hs => by
  subst ha
  subst hb
  obtain ⟨v, e1, e2⟩ := hx σ hf nx Ea hs.env
  obtain ⟨v', e3, e4⟩ := hy σ hf nx Ea hs.env
  obtain ⟨v'', e5, e6⟩ := hz σ hf nx Ea hs.env
  obtain rfl := e4.intInv
  obtain rfl := e6.intInv
  obtain ⟨w, f1, f2⟩ := slice_part (fun a o ho => (hs.fro a o ho).1) e2.slInv (lo := some (.int ka i)) (hi := some (.int kb j)) bnd_int bnd_int (.inr fun _ => bnd_int) h1 h2 hu hsz hif
  exact ⟨w, X.sliceBoth e1 e3 e5 f1, .fz f2⟩
theorem OL.sliceRLo {a : Int} {i : Nat} {ka : IntKind} (hx : VEv E x (.sl false sz rows)) (hy : VEv E y (.int ka a)) (ha : a = i) (h1 : i ≤ rows.length) (hu : P.underlying tt = some (.slice e)) (hsz : P.cellsOf e = sz) (hif : (P.info? e).isSome = true) :
    OL call P E O ⟨d, .slice tt x (some y) none none, ty, ps, af, g⟩ (.sl false sz (rows.drop i)) := fun q p h0 σ hf own nx Ea h hs => by
  subst ha
  obtain ⟨v, e1, e2⟩ := hx σ hf nx Ea hs.env
  obtain ⟨v', e3, e4⟩ := hy σ hf nx Ea hs.env
  obtain rfl := e4.intInv
  obtain ⟨w, f1, f2⟩ := slice_part (fun a o ho => (hs.fro a o ho).1) e2.slInv (lo := some (.int ka i)) (hi := none) (j := rows.length) bnd_int rfl (.inl rfl) h1 (Nat.le_refl _) hu hsz hif
  rw [List.take_of_length_le (by rw [List.length_drop]; omega)] at f2
  exact ⟨w, X.sliceLo e1 e3 f1, .fz f2⟩
theorem OL.sliceRHi {b : Int} {j : Nat} {kb : IntKind} (hx : VEv E x (.sl false sz rows)) (hz : VEv E z (.int kb b)) (hb : b = j) (h2 : j ≤ rows.length) (hu : P.underlying tt = some (.slice e)) (hsz : P.cellsOf e = sz) (hif : (P.info? e).isSome = true) :
    OL call P E O ⟨d, .slice tt x none (some z) none, ty, ps, af, g⟩ (.sl false sz (rows.take j)) := fun q p h0 σ hf own nx Ea h hs => by
  subst hb
  obtain ⟨v, e1, e2⟩ := hx σ hf nx Ea hs.env
  obtain ⟨v'', e5, e6⟩ := hz σ hf nx Ea hs.env
  obtain rfl := e6.intInv
  obtain ⟨w, f1, f2⟩ := slice_part (fun a o ho => (hs.fro a o ho).1) e2.slInv (lo := none) (hi := some (.int kb j)) (i := 0) rfl bnd_int (.inr fun _ => bnd_int) (Nat.zero_le _) h2 hu hsz hif
  rw [List.drop_zero, Nat.sub_zero] at f2
  exact ⟨w, X.sliceHi e1 e5 f1, .fz f2⟩
end
end Go.Proofs.Ythdnjihmjdbdkaa.AE
