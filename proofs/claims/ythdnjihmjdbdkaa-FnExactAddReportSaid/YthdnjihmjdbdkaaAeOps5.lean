/- Maps keyed by whole numbers, and all operations together: what the abstract evaluator does at one operation, and that the machine does the same. Conditions: none. -/
import Derived.Test.YthdnjihmjdbdkaaAeOps4
namespace Go.Proofs.Ythdnjihmjdbdkaa.AE
open Go Go.RowKit
set_option linter.unusedVariables false
set_option linter.unusedSimpArgs false

/-! ### maps -/
def mpos (k : IntKind) (n : Int) : List (Value × Value) → Option (Option (Nat × Value))
  | [] => some none
  | (.int k' m, v) :: r => if k = k' then (if n == m then some (some (0, v)) else (mpos k n r).map (fun o => o.map fun x => (x.1 + 1, x.2))) else none
  | _ :: _ => none
def ML (ρ : Ren) (es : List (Value × Value)) (el : List MapEntry) : Prop := es.length = el.length ∧ ∀ i, i < es.length → VR ρ (es.getD i (undef, undef)).1 (el.getD i default).key ∧ VR ρ (es.getD i (undef, undef)).2 (el.getD i default).val
theorem ML.tail {ρ : Ren} {e : Value × Value} {m : MapEntry} {es : List (Value × Value)} {el : List MapEntry} (h : ML ρ (e :: es) (m :: el)) : (VR ρ e.1 m.key ∧ VR ρ e.2 m.val) ∧ ML ρ es el :=
  ⟨by simpa using h.2 0 (by simp), by simpa using h.1, fun i hi => by simpa using h.2 (i + 1) (by simpa using hi)⟩
theorem mpos_sound {ρ : Ren} {kk k : IntKind} {n : Int} : ∀ {es : List (Value × Value)} {el : List MapEntry} {r : Option (Nat × Value)} (i : Nat), mpos k n es = some r → ML ρ es el →
    ∃ r', Instr.findNow (.int kk) (.int k n) el i = some r' ∧ (match r, r' with | none, none => True | some (j, v), some (j', v') => j' = i + j ∧ VR ρ v v' ∧ j < es.length ∧ (el.getD j default).key = .int k n | _, _ => False)
  | [], el, r, i, h, hm => by
    obtain rfl : none = r := by simpa [mpos] using h
    have : el = [] := by have := hm.1; simp at this; exact List.eq_nil_of_length_eq_zero this.symm
    subst this
    exact ⟨none, rfl, trivial⟩
  | e :: es, [], r, i, h, hm => by have := hm.1; simp at this
  | e :: es, m :: el, r, i, h, hm => by
    obtain ⟨⟨h1, h2⟩, ht⟩ := hm.tail
    obtain ⟨ek, ev⟩ := e
    cases ek with
    | int k' n' =>
      simp only [mpos] at h
      split at h
      · rename_i hk
        subst hk
        simp only at h1
        have hkey : m.key = .int k n' := h1.eq1 rfl
        by_cases hn : (n == n') = true
        · rw [if_pos hn] at h
          obtain rfl := Option.some.inj h
          have hn' : n = n' := by simpa using hn
          subst hn'
          refine ⟨some (i, m.val), by simp [Instr.findNow, hkey, Instr.sameNow], rfl, h2, by simp, by simpa using hkey⟩
        · rw [if_neg hn] at h
          obtain ⟨r0, hr0, rfl⟩ := Option.map_eq_some_iff.1 h
          obtain ⟨r', h3, h4⟩ := mpos_sound (kk := kk) (i + 1) hr0 ht
          have hn2 : ¬ n = n' := by simpa using hn
          refine ⟨r', by simp only [Instr.findNow, hkey, Instr.sameNow, if_true]; rw [show (n == n') = false by simpa using hn]; exact h3, ?_⟩
          cases r0 with
          | none =>
            cases r' with
            | none => trivial
            | some y => exact h4.elim
          | some x =>
            cases r' with
            | none => simp at h4
            | some y =>
              obtain ⟨j, v⟩ := x
              obtain ⟨j', v'⟩ := y
              simp only [Option.map_some] at h4 ⊢
              obtain ⟨h5, h6, h7, h8⟩ := h4
              exact ⟨by omega, h6, by simp; omega, by simpa using h8⟩
      · cases h
    | _ => simp [mpos] at h
def alookup (P : Program) (t : TypeId) (H : AH) (x ix : Value) (ok : Bool) : Option Value :=
  match P.underlying t, x, ix with
  | some (.map kt et), .map (some k), .int kd n =>
    (match P.underlying kt, H k, zeroOf P et with
     | some (.int _), some (.map es), some z =>
       if closedV z = true ∧ ok = false then
         (mpos kd n es).map (fun o => (o.map (·.2)).getD z)
       else none
     | _, _, _ => none)
  | _, _, _ => none
theorem tok_map {b0 : Nat} {ρ : Ren} {W : World} {k : Nat} {es : List (Value × Value)} {s : Slot} (hs : ρ k = some s) (h : TokRel b0 ρ W k (.map es)) : ∃ arr clock, W.heap[s.b]? = some (.map arr clock) ∧ ML ρ es arr.toList ∧ k % 2 = 1 ∧ b0 ≤ s.b := by
  obtain ⟨s', hs', arr, clock, ha, hl, hv, ho, hb⟩ := h
  rw [hs] at hs'
  cases hs'
  exact ⟨arr, clock, ha, ⟨by simpa using hl.symm, fun i hi => by simpa [List.getD_eq_getElem?_getD, Array.getD_eq_getD_getElem?] using hv i hi⟩, ho, hb⟩
theorem checkKey_int {P : Program} {W : World} {b : Bool} {n : Nat} {t : TypeId} {k : IntKind} {v : Value} (h : P.underlying t = some (.int k)) : (Instr.checkKey b (n + 1) t v).run P W = .ok () W := by
  unfold Instr.checkKey
  simp only [Sem.run_bind, run_underlying h, Result.andThen_ok]
  rfl
theorem alookup_sound {P : Program} {b0 : Nat} {ρ : Ren} {H : AH} {W : World} {t : TypeId} {x x' ix ix' v : Value} {ok : Bool} (h : alookup P t H x ix ok = some v) (hx : VR ρ x x') (hi : VR ρ ix ix') (hR : Rel b0 ρ H W) : ∃ v', (Instr.lookup t x' ix' ok).run P W = .ok v' W ∧ VR ρ v v' := by
  unfold alookup at h
  split at h
  · rename_i kt et k kd n hu
    split at h
    · rename_i kk es z hk hH hz
      split at h
      · rename_i hc
        obtain ⟨hcz, rfl⟩ := hc
        obtain ⟨r, hr, rfl⟩ := Option.map_eq_some_iff.1 h
        cases hi
        cases hx with
        | @map _ s hs =>
          obtain ⟨arr, clock, ha, hml, _⟩ := tok_map hs (hR.tok k _ hH)
          obtain ⟨r', h3, h4⟩ := mpos_sound (kk := kk) 0 hr hml
          have hg : (getObj s.b).run P W = .ok (.map arr clock) W := by simp [getObj, Sem.run, ha]
          have hck : (Instr.checkKey arr.isEmpty 10000 kt (.int kd n)).run P W = .ok () W := checkKey_int hk
          have hfk : (Instr.findKey kt (.int kd n) arr.toList).run P W = .ok r' W := by simp [Instr.findKey, run_underlying hk, h3]
          cases r with
          | none =>
            cases r' with
            | some y => simp at h4
            | none =>
              refine ⟨z, ?_, by simpa using VR.closedV hcz⟩
              simp [Instr.lookup, run_underlying hu, hg, hck, hfk, run_zero hz]
          | some q =>
            cases r' with
            | none => simp at h4
            | some y =>
              obtain ⟨j, v⟩ := q
              obtain ⟨j', v'⟩ := y
              simp only at h4
              refine ⟨v', ?_, by simpa using h4.2.1⟩
              simp [Instr.lookup, run_underlying hu, hg, hck, hfk]
      · cases h
    · cases h
  · cases h
def amapset (P : Program) (t : TypeId) (H : AH) (x ix v : Value) : Option AH :=
  match P.underlying t, x, ix with
  | some (.map kt _), .map (some k), .int kd n =>
    (match P.underlying kt, H k with
     | some (.int _), some (.map es) =>
       (match mpos kd n es with
        | some (some (j, _)) => some (H.upd k (some (.map (es.set j (.int kd n, v)))))
        | some none => some (H.upd k (some (.map (es ++ [(.int kd n, v)]))))
        | none => none)
     | _, _ => none)
  | _, _, _ => none
/-- A map's entries are written. -/
theorem Stp.mapset {b0 p k : Nat} {ρ : Ren} {H : AH} {W : World} {es es2 : List (Value × Value)} {arr2 : Array MapEntry} {clock2 : Nat} {s : Slot} (hR : Rel b0 ρ H W) (hk : H k = some (.map es)) (hs : ρ k = some s) (hml : ML ρ es2 arr2.toList) :
    Stp b0 p ρ H W ρ (H.upd k (some (.map es2))) { W with heap := W.heap.setIfInBounds s.b (.map arr2 clock2) } := by
  obtain ⟨arr, clock, ha, _, hodd, hb0⟩ := tok_map hs (hR.tok k _ hk)
  have hlt : s.b < W.heap.size := (Array.getElem?_eq_some_iff.1 ha).1
  have hother : ∀ c, c ≠ s.b → (W.heap.setIfInBounds s.b (.map arr2 clock2))[c]? = W.heap[c]? := fun c hc => Array.getElem?_setIfInBounds_ne (Ne.symm hc)
  have hsame : ∀ u : Nat, (H.upd k (some (.map es2)) u ≠ none) → H u ≠ none := by
    intro u hu
    unfold AH.upd at hu
    by_cases hku : u = k
    · rw [hku, hk]; simp
    · rwa [if_neg hku] at hu
  refine ⟨.refl _ _, ⟨fun u obj hu => ?_, ?_, ?_⟩, ?_, fun b hb hn => ?_, ?_, fun u hu => .inl (hsame u hu), ⟨rfl, rfl, rfl⟩⟩
  · unfold AH.upd at hu
    by_cases hku : u = k
    · rw [if_pos hku] at hu
      obtain rfl := Option.some.inj hu
      subst hku
      refine ⟨s, hs, arr2, clock2, by simp [hlt], by simpa using hml.1.symm, fun i hi => ?_, hodd, hb0⟩
      simpa [List.getD_eq_getElem?_getD, Array.getD_eq_getD_getElem?] using hml.2 i hi
    · rw [if_neg hku] at hu
      have h1 := hR.tok u obj hu
      refine h1.mono (fun _ _ e => e) (fun s2 hs2 => hother _ (fun hbe => hku ?_))
      exact hR.same (by rw [hk]; simp) hodd hs (by rw [hu]; simp) hs2 hbe
  · intro u u' s1 s2 h1 h2 h3 h4 h5 h6 h7
    exact hR.inj u u' s1 s2 h1 h2 (hsame u h3) (hsame u' h4) h5 h6 h7
  · simpa using hR.le
  · simp
  · exact hother b (fun hbe => hn ⟨k, s, hodd, by rw [hk]; simp, hs, hbe.symm⟩)
  · rintro b ⟨u, s1, h1, h2, h3, h4⟩
    exact .inl ⟨u, s1, h1, hsame u h2, h3, h4⟩
theorem amapset_sound {P : Program} {b0 p : Nat} {ρ : Ren} {H H' : AH} {W : World} {t : TypeId} {x x' ix ix' v v' : Value} (h : amapset P t H x ix v = some H') (hx : VR ρ x x') (hi : VR ρ ix ix') (hv : VR ρ v v') (hR : Rel b0 ρ H W) :
    ∃ W', (Instr.mapUpdate t x' ix' v').run P W = .ok () W' ∧ Stp b0 p ρ H W ρ H' W' := by
  unfold amapset at h
  split at h
  · rename_i kt et k kd n hu
    split at h
    · rename_i kk es hk hH
      cases hi
      cases hx with
      | @map _ s hs =>
        obtain ⟨arr, clock, ha, hml, _⟩ := tok_map hs (hR.tok k _ hH)
        have hg : (getObj s.b).run P W = .ok (.map arr clock) W := by simp [getObj, Sem.run, ha]
        have hck : (Instr.checkKey false 10000 kt (.int kd n)).run P W = .ok () W := checkKey_int hk
        have hset : ∀ o : Obj, (setObj s.b o).run P W = .ok () { W with heap := W.heap.setIfInBounds s.b o } := by intro o; simp [setObj, Sem.run, ha]
        split at h
        · rename_i j v0 hp
          obtain rfl := Option.some.inj h
          obtain ⟨r', h3, h4⟩ := mpos_sound (kk := kk) 0 hp hml
          have hfk : (Instr.findKey kt (.int kd n) arr.toList).run P W = .ok r' W := by simp [Instr.findKey, run_underlying hk, h3]
          cases r' with
          | none => simp at h4
          | some y =>
            obtain ⟨j', v1⟩ := y
            simp only at h4
            obtain ⟨h5, h6, h7, h8⟩ := h4
            have hjj : j' = j := by omega
            subst hjj
            have hjs : j' < arr.size := by have := hml.1; simp at this; omega
            have hkey : ((arr[j']?).map (·.key)).getD (.int kd n) = .int kd n := by
              simp only [List.getD_eq_getElem?_getD] at h8
              simp [hjs] at h8 ⊢
              exact h8
            have hks : (Instr.keyThatStays (.int kd n) (.int kd n)).run P W = .ok (.int kd n) W := by simp [Instr.keyThatStays, Instr.sameBits]
            refine ⟨_, ?_, Stp.mapset (arr2 := arr.modify j' fun e => { e with key := .int kd n, val := v' }) (clock2 := clock) hR hH hs ⟨by simpa using hml.1, fun i hi => ?_⟩⟩
            · simp only [Instr.mapUpdate, Sem.run_bind, run_underlying hu, Result.andThen_ok, hg, hck, hfk, hkey, hks, hset]
            · have hi' : i < es.length := by simpa using hi
              have h9 := hml.2 i hi'
              have his : i < arr.size := by have := hml.1; simp at this; omega
              simp only [List.getD_eq_getElem?_getD, List.getElem?_set, Array.getElem?_toList, Array.getElem?_modify] at h9 ⊢
              by_cases hij : j' = i
              · subst hij
                simp [hi', his]
                exact ⟨.int _ _, hv⟩
              · simp [hij, his] at h9 ⊢
                simpa using h9
        · rename_i hp
          obtain rfl := Option.some.inj h
          obtain ⟨r', h3, h4⟩ := mpos_sound (kk := kk) 0 hp hml
          have hfk : (Instr.findKey kt (.int kd n) arr.toList).run P W = .ok r' W := by simp [Instr.findKey, run_underlying hk, h3]
          cases r' with
          | some y => simp at h4
          | none =>
            refine ⟨_, ?_, Stp.mapset (arr2 := arr.push { key := .int kd n, val := v', born := clock }) (clock2 := clock + 1) hR hH hs ⟨by simpa using hml.1, fun i hi => ?_⟩⟩
            · simp only [Instr.mapUpdate, Sem.run_bind, run_underlying hu, Result.andThen_ok, hg, hck, hfk, hset]
            · have hl := hml.1
              simp at hl
              by_cases hi' : i < es.length
              · have h9 := hml.2 i hi'
                have his : i < arr.size := by omega
                simp only [List.getD_eq_getElem?_getD, List.getElem?_append_left hi', Array.toList_push, List.getElem?_append_left (show i < arr.toList.length by simpa using his)] at h9 ⊢
                exact h9
              · have hie : i = es.length := by simp at hi; omega
                subst hie
                simp only [List.getD_eq_getElem?_getD, Array.toList_push, hl]
                simp
                rw [← hl]
                simp
                exact ⟨.int _ _, hv⟩
        · cases h
    · cases h
  · cases h
theorem Stp.newMap {b0 p : Nat} {ρ : Ren} {H : AH} {W : World} (hR : Rel b0 ρ H W) (hf : ∀ t, Under p t → ρ t = none) (hp : p % 2 = 1) :
    ∃ ρ' : Ren, ρ' (tokOf p) = some ⟨W.heap.size, 0, 0, 0⟩ ∧ Stp b0 p ρ H W ρ' (H.upd (tokOf p) (some (.map []))) { W with heap := W.heap.push (.map #[] 0) } := by
  have hn : ρ (tokOf p) = none := hf _ (.step 0 .refl)
  have hρ : ∀ u s, ρ u = some s → (fun u => if u = tokOf p then some (⟨W.heap.size, 0, 0, 0⟩ : Slot) else ρ u) u = some s := by
    intro u s e
    have : u ≠ tokOf p := fun he => by rw [he, hn] at e; cases e
    simp only [if_neg this]
    exact e
  have hold : ∀ b, b < W.heap.size → (W.heap.push (.map #[] 0))[b]? = W.heap[b]? := fun b hb => by rw [Array.getElem?_push_lt hb, Array.getElem?_eq_getElem hb]
  have hup : ∀ u, u ≠ tokOf p → H.upd (tokOf p) (some (.map [])) u = H u := fun u hu => by unfold AH.upd; rw [if_neg hu]
  refine ⟨fun u => if u = tokOf p then some ⟨W.heap.size, 0, 0, 0⟩ else ρ u, by simp, ⟨hρ, fun u he => ?_⟩, ⟨fun u o ho => ?_, ?_, ?_⟩, ?_, fun b hb _ => hold b hb, ?_, fun u hu => ?_, ⟨rfl, rfl, rfl⟩⟩
  · by_cases hut : u = tokOf p
    · exact .inr (by rw [hut]; exact .step 0 .refl)
    · simp only [if_neg hut] at he
      exact .inl he
  · by_cases hut : u = tokOf p
    · subst hut
      simp only [AH.upd, if_true] at ho
      obtain rfl := Option.some.inj ho
      exact ⟨⟨W.heap.size, 0, 0, 0⟩, by simp, #[], 0, by simp, rfl, fun i hi => by simp at hi, child_odd _ _, hR.le⟩
    · rw [hup u hut] at ho
      have h1 := hR.tok u o ho
      obtain ⟨s0, hs0, hlt, _⟩ := h1.slot
      exact h1.mono hρ (fun s hs => hold s.b (by rw [hs] at hs0; cases hs0; exact hlt))
  · intro u u' s s' h1 h2 h3 h4 h5 h6 h7
    by_cases hut : u = tokOf p <;> by_cases hut' : u' = tokOf p
    · rw [hut, hut']
    · simp only [if_pos hut, Option.some.injEq] at h5
      rw [hup u' hut'] at h4
      simp only [if_neg hut'] at h6
      obtain ⟨o', ho'⟩ := Option.ne_none_iff_exists'.1 h4
      obtain ⟨s0, hs0, hlt, _⟩ := (hR.tok u' o' ho').slot
      rw [hs0] at h6
      cases h6
      rw [← h5] at h7
      simp at h7
      omega
    · simp only [if_pos hut', Option.some.injEq] at h6
      rw [hup u hut] at h3
      simp only [if_neg hut] at h5
      obtain ⟨o', ho'⟩ := Option.ne_none_iff_exists'.1 h3
      obtain ⟨s0, hs0, hlt, _⟩ := (hR.tok u o' ho').slot
      rw [hs0] at h5
      cases h5
      rw [← h6] at h7
      simp at h7
      omega
    · rw [hup u hut] at h3
      rw [hup u' hut'] at h4
      simp only [if_neg hut] at h5
      simp only [if_neg hut'] at h6
      exact hR.inj u u' s s' h1 h2 h3 h4 h5 h6 h7
  · have := hR.le
    simp
    omega
  · simp
  · rintro b ⟨u, s, h1, h2, h3, h4⟩
    by_cases hut : u = tokOf p
    · simp only [if_pos hut, Option.some.injEq] at h3
      right
      rw [← h3] at h4
      simp at h4
      omega
    · rw [hup u hut] at h2
      simp only [if_neg hut] at h3
      exact .inl ⟨u, s, h1, h2, h3, h4⟩
  · by_cases hut : u = tokOf p
    · exact .inr (by rw [hut]; exact .step 0 .refl)
    · rw [hup u hut] at hu
      exact .inl hu
end Go.Proofs.Ythdnjihmjdbdkaa.AE
