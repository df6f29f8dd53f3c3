/- Aggregates built, maps, and all operations together: what the abstract evaluator does at one operation, and that the machine does the same. Conditions: none. -/
import Derived.Test.YthdnjihmjdbdkaaAeOps3
namespace Go.Proofs.Ythdnjihmjdbdkaa.AE
open Go Go.RowKit
set_option linter.unusedVariables false
set_option linter.unusedSimpArgs false

/-! ### aggregates -/
def AL (ρ : Ren) (cs cs' : Array Value) : Prop := cs.size = cs'.size ∧ ∀ i, i < cs.size → VR ρ (cs.getD i undef) (cs'.getD i undef)
theorem AL.set {ρ : Ren} {cs cs' : Array Value} {v v' : Value} (h : AL ρ cs cs') (hv : VR ρ v v') (k : Nat) : AL ρ (cs.setIfInBounds k v) (cs'.setIfInBounds k v') := by
  refine ⟨by simp [h.1], fun i hi => ?_⟩
  have hi' : i < cs.size := by simpa using hi
  by_cases hk : k = i
  · subst hk
    simp [Array.getD_eq_getD_getElem?, hi', show k < cs'.size by rw [← h.1]; exact hi', hv]
  · simpa [Array.getD_eq_getD_getElem?, Array.getElem?_setIfInBounds_ne hk] using h.2 i hi'
theorem fold_AL {ρ : Ren} {off : Nat} : ∀ (l : List (Value × Nat)) (l' : List (Value × Nat)) {cs cs' : Array Value}, l.length = l'.length → (∀ (i : Nat) (v : Value) (k : Nat), l[i]? = some (v, k) → ∃ v', l'[i]? = some (v', k) ∧ VR ρ v v') → AL ρ cs cs' →
    AL ρ (l.foldl (fun cs (x : Value × Nat) => cs.setIfInBounds (off + x.2) x.1) cs) (l'.foldl (fun cs (x : Value × Nat) => cs.setIfInBounds (off + x.2) x.1) cs')
  | [], [], cs, cs', _, _, h => h
  | (v, k) :: l, (v', k') :: l', cs, cs', hl, hv, h => by
    obtain ⟨u, hu, hvu⟩ := hv 0 v k rfl
    simp only [List.getElem?_cons_zero, Option.some.injEq, Prod.mk.injEq] at hu
    obtain ⟨rfl, rfl⟩ := hu
    exact fold_AL l l' (by simpa using hl) (fun i v k hi => hv (i + 1) v k hi) (h.set hvu _)
theorem cells_AL {ρ : Ren} {v v' : Value} (h : VR ρ v v') : AL ρ v.cells v'.cells := by
  have hc := h.cells
  refine ⟨by simpa using hc.1, fun i hi => ?_⟩
  simpa [Array.getD_eq_getD_getElem?, List.getD_eq_getElem?_getD] using hc.2 i (by simpa using hi)
theorem zip_rel {ρ : Ren} {cs cs' : Array Value} (h : AL ρ cs cs') : cs.zipIdx.toList.length = cs'.zipIdx.toList.length ∧ ∀ (i : Nat) (v : Value) (k : Nat), cs.zipIdx.toList[i]? = some (v, k) → ∃ v', cs'.zipIdx.toList[i]? = some (v', k) ∧ VR ρ v v' := by
  refine ⟨by simp [h.1], fun i v k hi => ?_⟩
  have h1 : i < cs.size := by
    have := (List.getElem?_eq_some_iff.1 hi).1
    simpa using this
  have h2 : i < cs'.size := by rw [← h.1]; exact h1
  simp [h1] at hi
  obtain ⟨rfl, rfl⟩ := hi
  have := h.2 i h1
  refine ⟨cs'[i], by simp [h2], ?_⟩
  simpa [Array.getD_eq_getD_getElem?, h1, h2] using this
def PL (ρ : Ren) (a b : List (Nat × Value)) : Prop := a.length = b.length ∧ ∀ (i : Nat) (k : Nat) (v : Value), a[i]? = some (k, v) → ∃ v', b[i]? = some (k, v') ∧ VR ρ v v'
theorem fill_sound {ρ : Ren} {place : Nat → Option (Nat × Nat)} : ∀ (ps ps' : List (Nat × Value)) {cs cs' out : Array Value}, PL ρ ps ps' → AL ρ cs cs' → Instr.fill place cs ps = some out → ∃ out', Instr.fill place cs' ps' = some out' ∧ AL ρ out out'
  | [], [], cs, cs', out, _, h, hf => by
    simp only [Instr.fill, Option.some.injEq] at hf
    subst hf
    exact ⟨cs', rfl, h⟩
  | (k, v) :: ps, (k', v') :: ps', cs, cs', out, hp, h, hf => by
    obtain ⟨u, hu, hvu⟩ := hp.2 0 k v rfl
    simp only [List.getElem?_cons_zero, Option.some.injEq, Prod.mk.injEq] at hu
    obtain ⟨rfl, rfl⟩ := hu
    have hcs := cells_AL hvu
    unfold Instr.fill at hf ⊢
    cases hpl : place k' with
    | none => simp [hpl] at hf
    | some q =>
      obtain ⟨off, size⟩ := q
      simp only [hpl] at hf ⊢
      rw [← hcs.1, ← h.1]
      split at hf
      · cases hf
      · rename_i hc
        rw [if_neg hc]
        have hz := zip_rel hcs
        have hfold := fold_AL (off := off) _ _ hz.1 hz.2 h
        refine fill_sound ps ps' ⟨by simpa using hp.1, fun i k v hi => hp.2 (i + 1) k v hi⟩ ?_ hf
        rw [Array.foldl_toList, Array.foldl_toList] at hfold
        exact hfold
  | [], _ :: _, _, _, _, hp, _, _ => by simp [PL] at hp
  | _ :: _, [], _, _, _, hp, _, _ => by simp [PL] at hp
def placesOf (P : Program) (fs : Array Field) : Nat → Option (Nat × Nat) := fun i => (fs[i]?).map fun f => (f.offset, P.cellsOf f.type)
def abuild (P : Program) (t : TypeId) (ps : List (Nat × Value)) : Option Value :=
  match P.underlying t, zeroOf P t with
  | some (.struct fs), some z => if fs.all (fun f => (P.info? f.type).isSome) && z.cells.all closed1 then (Instr.fill (placesOf P fs) z.cells ps).map .agg else none
  | _, _ => none
theorem closed_AL {ρ : Ren} {cs : Array Value} (h : cs.all closed1 = true) : AL ρ cs cs := ⟨rfl, fun i hi => .closed1 (getD_all h hi)⟩
theorem mapM_places {P : Program} {W : World} : ∀ (l : List Field), (∀ f ∈ l, (P.info? f.type).isSome = true) → (l.mapM (fun f => do pure (f.offset, ← sizeOf f.type) : Field → Sem (Nat × Nat))).run P W = .ok (l.map fun f => (f.offset, P.cellsOf f.type)) W
  | [], _ => by simp
  | f :: l, h => by
    obtain ⟨i, hi⟩ := Option.isSome_iff_exists.1 (h f (by simp))
    have := mapM_places (W := W) l (fun g hg => h g (by simp [hg]))
    simp only [List.mapM_cons, Sem.run_bind, run_size hi, Result.andThen_ok, Sem.run_pure, this, List.map_cons]
theorem abuild_sound {P : Program} {ρ : Ren} {W : World} {t : TypeId} {ps : List (Nat × Value)} {ps' : Array (Nat × Value)} {v : Value} (h : abuild P t ps = some v) (hp : PL ρ ps ps'.toList) : ∃ v', (Instr.build t ps').run P W = .ok v' W ∧ VR ρ v v' := by
  unfold abuild at h
  split at h
  · rename_i fs z hu hz
    split at h
    · rename_i hc
      rw [Bool.and_eq_true] at hc
      obtain ⟨out, ho, rfl⟩ := Option.map_eq_some_iff.1 h
      obtain ⟨out', ho', hal⟩ := fill_sound ps ps'.toList hp (closed_AL hc.2) ho
      have hm := mapM_places (P := P) (W := W) fs.toList (fun f hf => by
        have hh := hc.1
        rw [← Array.all_toList] at hh
        exact List.all_eq_true.1 hh f hf)
      have hpl : (fun i => ((fs.toList.map fun f => (f.offset, P.cellsOf f.type)).toArray)[i]?) = placesOf P fs := by
        funext i
        simp [placesOf]
      refine ⟨.agg out', ?_, .agg _ _ hal.1 hal.2⟩
      have hm2 : (fs.mapM (fun f => do pure (f.offset, ← sizeOf f.type) : Field → Sem (Nat × Nat))).run P W = .ok (fs.toList.map fun f => (f.offset, P.cellsOf f.type)).toArray W := by
        rw [Array.mapM_eq_mapM_toList, Sem.run_map, hm]
        rfl
      simp only [Instr.build, Sem.run_bind, run_zero hz, Result.andThen_ok, run_underlying hu, hm2, hpl, ho', Sem.run_pure]
    · cases h
  · cases h
def abuildSlice (P : Program) (p : Nat) (t : TypeId) (len : Nat) (H : AH) (ps : List (Nat × Value)) : Option AR :=
  match P.underlying t with
  | some (.slice e) =>
    match zeroOf P e with
    | some z =>
      if 0 < P.cellsOf e ∧ len * P.cellsOf e ≤ 16777216 ∧ z.cells.all closed1 = true ∧ z.cells.size = P.cellsOf e then
        (Instr.fill (fun i => some (i * P.cellsOf e, P.cellsOf e)) (cyc z.cells.toList (len * P.cellsOf e)).toArray ps).map fun out => .val (.slice (some ⟨tokOf p, 0, none⟩) len (if len = 0 then 0 else 1)) (H.upd (tokOf p) (some (.cells (P.cellsOf e) out.toList)))
      else none
    | none => none
  | _ => none
theorem abuildSlice_sound {P : Program} {b0 p : Nat} {ρ : Ren} {H : AH} {W : World} {t : TypeId} {len : Nat} {ps : List (Nat × Value)} {ps' : Array (Nat × Value)} {r : AR} (h : abuildSlice P p t len H ps = some r) (hps : PL ρ ps ps'.toList) (hR : Rel b0 ρ H W) (hf : ∀ t, Under p t → ρ t = none) (hp : p % 2 = 1) :
    ∃ v H' u W' ρ', r = .val v H' ∧ (Instr.buildSlice t len ps').run P W = .ok u W' ∧ Stp b0 p ρ H W ρ' H' W' ∧ VR ρ' v u := by
  unfold abuildSlice at h
  split at h
  · rename_i e hu
    split at h
    · rename_i z hz
      split at h
      · rename_i hc
        obtain ⟨hpos, hb, hz1, hz2⟩ := hc
        obtain ⟨out, ho, rfl⟩ := Option.map_eq_some_iff.1 h
        obtain ⟨i, hi, hiz⟩ := Option.bind_eq_some_iff.1 hz
        have hcs : ∀ v ∈ z.cells.toList, closed1 v = true := fun v hv => by
          have hh := hz1
          rw [← Array.all_toList] at hh
          exact List.all_eq_true.1 hh v hv
        have hzl : 0 < z.cells.toList.length := by simp; omega
        have hcyc := cyc_LR (ρ := ρ) hcs (len * P.cellsOf e) (.inr hzl)
        have hal : AL ρ (cyc z.cells.toList (len * P.cellsOf e)).toArray (cyc z.cells.toList (len * P.cellsOf e)).toArray := ⟨rfl, fun i hi => by simpa [Array.getD_eq_getD_getElem?, List.getD_eq_getElem?_getD] using hcyc.2 i (by simpa using hi)⟩
        obtain ⟨out', ho', hal'⟩ := fill_sound ps ps'.toList hps hal ho
        have hsz : P.cellsOf e = i.size := by simp [Program.cellsOf, hi]
        have fsize : ∀ (ps : List (Nat × Value)) (cs out : Array Value) (pl : Nat → Option (Nat × Nat)), Instr.fill pl cs ps = some out → out.size = cs.size := by
          intro ps
          induction ps with
          | nil => intro cs out pl h; simp only [Instr.fill, Option.some.injEq] at h; rw [← h]
          | cons q ps ih =>
            intro cs out pl h
            obtain ⟨k, v⟩ := q
            unfold Instr.fill at h
            split at h
            · cases h
            · split at h
              · cases h
              · rw [ih _ _ _ h]
                have : ∀ (l : List (Value × Nat)) (c : Array Value) (o : Nat), (l.foldl (fun cs (x : Value × Nat) => cs.setIfInBounds (o + x.2) x.1) c).size = c.size := by
                  intro l
                  induction l with
                  | nil => intro c o; rfl
                  | cons x l ih2 => intro c o; rw [List.foldl_cons, ih2]; simp
                rw [← Array.foldl_toList]
                exact this _ _ _
        have hos : out'.size = len * P.cellsOf e := by rw [fsize _ _ _ _ ho']; simp [cyc]
        have hlr : LR ρ out.toList out'.toList := ⟨by simpa using hal'.1, fun i hi => by simpa [Array.getD_eq_getD_getElem?, List.getD_eq_getElem?_getD] using hal'.2 i (by simpa using hi)⟩
        obtain ⟨ρ', h1, h2⟩ := Stp.fresh (es := P.cellsOf e) (ty := e) hR hf hp hlr (len * P.cellsOf e) (by simpa using hos.symm)
        refine ⟨_, _, .slice (some ⟨W.heap.size, 0, none⟩) len len, _, ρ', rfl, ?_, h2, ?_⟩
        · have hcy : (Array.range (len * i.size)).map (fun x => z.cells[x % z.cells.size]!) = (cyc z.cells.toList (len * P.cellsOf e)).toArray := by
            rw [hsz]
            apply Array.ext
            · simp [cyc]
            · intro j h3 h4
              have hj : j % z.cells.size < z.cells.size := Nat.mod_lt _ (by omega)
              simp [cyc, List.getD_eq_getElem?_getD, hj]
          have hnb : ¬ (len * i.size > 2 ^ 24) := by rw [← hsz]; omega
          rw [hsz] at ho' hcy
          by_cases hn0 : len * i.size = 0
          · have hcy0 : (Array.range 0).map (fun x => (#[] : Array Value)[x % (#[] : Array Value).size]!) = (cyc z.cells.toList 0).toArray := by simp [cyc, Array.range]
            rw [hn0] at ho'
            have h20 : ¬ (0 > 2 ^ 24) := by omega
            simp only [Instr.buildSlice, Sem.run_bind, run_underlying hu, Result.andThen_ok, run_size hi, hsz, hn0, h20, if_false, if_true, Sem.run_pure]
            rw [show (Array.map (fun x => (#[] : Array Value)[x % (#[] : Array Value).size]!) (Array.range 0)) = (cyc z.cells.toList 0).toArray from hcy0, ho']
            simp [newRow]
          · simp only [Instr.buildSlice, Sem.run_bind, run_underlying hu, Result.andThen_ok, run_size hi, hsz, hnb, if_false, hn0, Sem.run_pure, run_zero hz]
            rw [hcy, ho']
            simp [newRow]
        · by_cases hl0 : len = 0
          · subst hl0
            simp only [if_true]
            exact VR.sle (s := ⟨W.heap.size, 0, 0 * P.cellsOf e, P.cellsOf e⟩) 0 0 _ 0 none (by simpa using h1) (.inr (by simp)) (fun _ => rfl) (.inl rfl)
          · have := VR.sl (ρ := ρ') (s := ⟨W.heap.size, 0, len * P.cellsOf e, P.cellsOf e⟩) 0 len 1 len h1 (Nat.le_refl _) (.inr (by simp)) (by simp)
            simpa [hl0] using this
      · cases h
    · cases h
  · cases h
end Go.Proofs.Ythdnjihmjdbdkaa.AE
