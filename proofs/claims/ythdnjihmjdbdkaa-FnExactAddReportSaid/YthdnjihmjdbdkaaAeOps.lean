/- The abstract evaluator's operations, each with the law that the machine's operation does the same. Conditions: none. -/
import Derived.Test.YthdnjihmjdbdkaaAeBase
namespace Go.Proofs.Ythdnjihmjdbdkaa.AE
open Go Go.RowKit
set_option linter.unusedVariables false
set_option linter.unusedSimpArgs false

def closed1 : Value → Bool
  | .bool _ | .int _ _ | .string _ | .pointer none | .slice none 0 0 | .map none | .nilFunc => true
  | _ => false
def closedV : Value → Bool
  | .agg cs => cs.all closed1
  | v => closed1 v
theorem VR.closed1 {ρ : Ren} {v : Value} (h : AE.closed1 v = true) : VR ρ v v := by
  unfold AE.closed1 at h
  split at h
  · exact .bool _
  · exact .int _ _
  · exact .str _
  · exact .ptr0
  · exact .sl0
  · exact .map0
  · exact .fn0
  · cases h
theorem getD_all {p : Value → Bool} {cs : Array Value} (h : cs.all p = true) {i : Nat} (hi : i < cs.size) : p (cs.getD i undef) = true := by
  have := (Array.all_eq_true.1 h) i hi
  simpa [Array.getD_eq_getD_getElem?, Array.getElem?_eq_getElem hi] using this
theorem VR.closedV {ρ : Ren} {v : Value} (h : AE.closedV v = true) : VR ρ v v := by
  unfold AE.closedV at h
  split at h
  · exact .agg _ _ rfl (fun i hi => .closed1 (getD_all h hi))
  · exact .closed1 h
/-- A closed value is related to itself alone. -/
theorem VR.eq1 {ρ : Ren} {v v' : Value} (h : VR ρ v v') (hc : AE.closed1 v = true) : v' = v := by
  cases h <;> first | rfl | (simp [AE.closed1] at hc)
theorem VR.eq {ρ : Ren} {v v' : Value} (h : VR ρ v v') (hc : AE.closedV v = true) : v' = v := by
  cases h with
  | agg cs cs' hs h =>
    simp only [AE.closedV] at hc
    congr 1
    apply Array.ext hs.symm
    intro i h1 h2
    have := (h i h2).eq1 (getD_all hc h2)
    simpa [Array.getD_eq_getD_getElem?, Array.getElem?_eq_getElem h1, Array.getElem?_eq_getElem h2] using this
  | bool b => rfl
  | int k n => rfl
  | str s => rfl
  | ptr0 => rfl
  | ptr o h => simp [AE.closedV, AE.closed1] at hc
  | sl0 => rfl
  | sl o n m c h hn hf hm => simp [AE.closedV, AE.closed1] at hc
  | sle o o' m c sp h hf hm hsp => simp [AE.closedV, AE.closed1] at hc
  | map0 => rfl
  | map h => simp [AE.closedV, AE.closed1] at hc
  | fn f cs cs' hs h => simp [AE.closedV, AE.closed1] at hc
  | fn0 => rfl
  | tuple cs cs' hs h => simp [AE.closedV, AE.closed1] at hc

def evo (E : Nat → Value) : Operand → Option Value
  | .tmp t => some (E t)
  | .const v => if closedV v then some v else none
  | .func f => some (.func (.func f) #[] #[])
  | .global _ => none
def EnvR (ρ : Ren) (E : Nat → Value) (a : Act) : Prop := ∀ t, VR ρ (E t) (a.tmps.getD t undef)
theorem evo_sound {ρ : Ren} {E : Nat → Value} {a : Act} (hE : EnvR ρ E a) {x : Operand} {v : Value} (h : evo E x = some v) : VR ρ v (a.eval x) := by
  cases x with
  | tmp t =>
    simp only [evo, Option.some.injEq] at h
    rw [← h]
    exact hE t
  | const u =>
    simp only [evo] at h
    split at h
    · rename_i hc
      obtain rfl := Option.some.inj h
      exact .closedV hc
    · cases h
  | func f =>
    simp only [evo, Option.some.injEq] at h
    rw [← h]
    exact .fn f #[] #[] rfl (fun i hi => by simp at hi)
  | global g => simp [evo] at h

inductive AR
  | val (v : Value) (h : AH)
  | skip (h : AH)
  | enter (f : FuncId) (args : List Value)
def Good (b0 p : Nat) (ρ : Ren) (H : AH) (W : World) (r : Result Next) : AR → Prop
  | .val v H' => ∃ v' W' ρ', r = .ok (.value v') W' ∧ Stp b0 p ρ H W ρ' H' W' ∧ VR ρ' v v'
  | .skip H' => ∃ W' ρ', r = .ok .skip W' ∧ Stp b0 p ρ H W ρ' H' W'
  | .enter f args => ∃ args' : Array Value, r = .ok (.enter f args') W ∧ LR ρ args args'.toList
theorem Good.pure {b0 p : Nat} {ρ : Ren} {H : AH} {W : World} {r : Result Next} {v v' : Value} (hR : Rel b0 ρ H W) (hr : r = .ok (.value v') W) (hv : VR ρ v v') : Good b0 p ρ H W r (.val v H) :=
  ⟨v', W, ρ, hr, .refl hR, hv⟩

/-! ### what the heap is not asked for -/
def isStruct (P : Program) (t : TypeId) : Option Bool :=
  match P.underlying t with
  | some (.struct _) => some true
  | some (.array _ _) => none
  | some _ => some false
  | none => none
theorem underlying_info {P : Program} {t : TypeId} {d : TypeDesc} (h : P.underlying t = some d) : ∃ i, P.info? t = some i := by
  unfold Program.underlying at h
  split at h
  · exact ⟨_, by assumption⟩
  · exact ⟨_, by assumption⟩
  · cases h
theorem run_size {P : Program} {t : TypeId} {i : TypeInfo} (h : P.info? t = some i) (w : World) : (sizeOf t).run P w = .ok (P.cellsOf t) w := by
  simp [sizeOf, typeInfo, h, Program.cellsOf]
theorem run_isAgg {P : Program} {t : TypeId} {b : Bool} (h : isStruct P t = some b) (w : World) : (isAgg t).run P w = .ok b w := by
  unfold isStruct at h
  cases hu : P.underlying t with
  | none => simp [hu] at h
  | some d =>
    simp only [isAgg, Sem.run_bind, run_underlying hu, Result.andThen_ok]
    rw [hu] at h
    cases d <;> simp at h <;> (try subst h) <;> rfl
theorem isStruct_info {P : Program} {t : TypeId} {b : Bool} (h : isStruct P t = some b) : ∃ i, P.info? t = some i := by
  unfold isStruct at h
  cases hu : P.underlying t with
  | none => simp [hu] at h
  | some d => exact underlying_info hu
theorem add_none (b o n : Nat) : (⟨b, o, none⟩ : Addr).add n = ⟨b, o + n, none⟩ := by
  unfold Addr.add
  split <;> simp_all

/-! ### loads -/
def aload (P : Program) (t : TypeId) (h : AH) : Value → Option Value
  | .pointer (some ⟨k, o, none⟩) =>
    match h k with
    | some (.cells _ cs) =>
      match isStruct P t with
      | some true => if o + P.cellsOf t ≤ cs.length then some (.agg ((cs.drop o).take (P.cellsOf t)).toArray) else none
      | some false => cs[o]?
      | none => none
    | _ => none
  | _ => none
theorem tok_cell {b0 : Nat} {ρ : Ren} {W : World} {k es o : Nat} {cs : List Value} {s : Slot} (hs : ρ k = some s) (h : TokRel b0 ρ W k (.cells es cs)) (ho : o < cs.length) :
    ∃ u, W.cell? ⟨s.b, s.base + o, none⟩ = some u ∧ VR ρ (cs.getD o undef) u := by
  obtain ⟨s', hs', _, arr, ty, fr, ha, hl, hv, _, _⟩ := h
  rw [hs] at hs'
  cases hs'
  have hlt : s.base + o < arr.size := by omega
  refine ⟨arr[s.base + o], ?_, ?_⟩
  · simp [World.cell?, ha, hlt]
  · simpa [Array.getD_eq_getD_getElem?, Array.getElem?_eq_getElem hlt] using hv o ho
theorem tok_cells {b0 : Nat} {ρ : Ren} {W : World} {k es o n : Nat} {cs : List Value} {s : Slot} (hs : ρ k = some s) (h : TokRel b0 ρ W k (.cells es cs)) (ho : o + n ≤ cs.length) :
    ∃ us : List Value, us.length = n ∧ (∀ P : Program, (loadCells ⟨s.b, s.base + o, none⟩ n).run P W = .ok us.toArray W) ∧ LR ρ ((cs.drop o).take n) us := by
  obtain ⟨s', hs', he, arr, ty, fr, ha, hl, hv, hrest⟩ := h
  rw [hs] at hs'
  cases hs'
  have hlen : ((arr.toList.drop (s.base + o)).take n).length = n := by
    rw [List.length_take, List.length_drop, Array.length_toList]
    omega
  refine ⟨(arr.toList.drop (s.base + o)).take n, hlen, fun P => ?_, ?_, fun i hi => ?_⟩
  · have h1 := run_loadCells_list (P := P) (w := W) ⟨s.b, s.base + o, none⟩ ((arr.toList.drop (s.base + o)).take n) (fun j v hj => by
      rw [add_none]
      rw [List.getElem?_take] at hj
      split at hj
      · rw [List.getElem?_drop] at hj
        simpa [World.cell?, ha] using hj
      · cases hj)
    rw [hlen] at h1
    exact h1
  · rw [hlen, List.length_take, List.length_drop]
    omega
  · have hi' : i < n := by rw [List.length_take, List.length_drop] at hi; omega
    have h1 := hv (o + i) (by omega)
    have e1 : ((cs.drop o).take n).getD i undef = cs.getD (o + i) undef := by
      simp [List.getD_eq_getElem?_getD, List.getElem?_take, hi', List.getElem?_drop]
    have e2 : ((arr.toList.drop (s.base + o)).take n).getD i undef = arr.getD (s.base + (o + i)) undef := by
      simp [List.getD_eq_getElem?_getD, List.getElem?_take, hi', List.getElem?_drop, Array.getD_eq_getD_getElem?, Nat.add_assoc]
    rw [e1, e2]
    exact h1
theorem aload_sound {P : Program} {b0 : Nat} {ρ : Ren} {H : AH} {W : World} {t : TypeId} {x x' v : Value} (h : aload P t H x = some v) (hx : VR ρ x x') (hR : Rel b0 ρ H W) :
    ∃ v', (Instr.loadAt t x').run P W = .ok v' W ∧ VR ρ v v' := by
  unfold aload at h
  split at h
  · rename_i k o
    split at h
    · rename_i es cs hk
      cases hx with
      | @ptr _ s _ hs =>
        have ht := hR.tok k _ hk
        cases hb : isStruct P t with
        | none => simp [hb] at h
        | some b =>
          rw [hb] at h
          obtain ⟨i, hi⟩ := isStruct_info hb
          cases b with
          | true =>
            simp only at h
            split at h
            · rename_i hle
              obtain rfl := Option.some.inj h
              obtain ⟨us, hus, hrun, hlr⟩ := tok_cells hs ht hle
              refine ⟨.agg us.toArray, ?_, .of_cells hlr⟩
              simp [Instr.loadAt, Instr.sureAddr, loadVar, run_isAgg hb, run_size hi, hrun]
            · cases h
          | false =>
            simp only at h
            have ho : o < cs.length := (List.getElem?_eq_some_iff.1 h).1
            obtain ⟨u, hu, hv⟩ := tok_cell hs ht ho
            refine ⟨u, ?_, ?_⟩
            · simp [Instr.loadAt, Instr.sureAddr, loadVar, run_isAgg hb, hu]
            · simpa [List.getD_eq_getElem?_getD, h] using hv
    · cases h
  · cases h

/-! ### stores -/
def splice (cs : List Value) (o : Nat) (vs : List Value) : List Value := cs.take o ++ vs ++ cs.drop (o + vs.length)
def astore (P : Program) (t : TypeId) (h : AH) (x v : Value) : Option AH :=
  match x with
  | .pointer (some ⟨k, o, none⟩) =>
    if k % 2 = 1 then
      match h k with
      | some (.cells es cs) =>
        if (P.info? t).isSome ∧ v.cells.size = P.cellsOf t ∧ o + v.cells.size ≤ cs.length ∧ v.cells.all (·.oneCell') = true then some (h.upd k (some (.cells es (splice cs o v.cells.toList)))) else none
      | _ => none
    else none
  | _ => none
theorem setCells_heap (b : Nat) : ∀ (vs : List Value) (o : Nat) (W : World) (arr : Array Value) (ty : TypeId) (fr : Nat × Nat), W.heap[b]? = some (.cells arr ty fr) → o + vs.length ≤ arr.size →
    ∃ arr', (W.setCells b o vs).heap[b]? = some (.cells arr' ty fr) ∧ arr'.size = arr.size ∧ ∀ i, arr'.getD i undef = if o ≤ i ∧ i < o + vs.length then vs.getD (i - o) undef else arr.getD i undef
  | [], o, W, arr, ty, fr, h, hl => ⟨arr, h, rfl, fun i => by rw [if_neg (fun hh => by have := hh.1; have := hh.2; simp at this; omega)]⟩
  | v :: r, o, W, arr, ty, fr, h, hl => by
    have h1 : (W.setCell ⟨b, o, none⟩ v).heap[b]? = some (.cells (arr.setIfInBounds o v) ty fr) := by simp [World.setCell, Array.getElem?_modify, h]
    obtain ⟨arr', h2, h3, h4⟩ := setCells_heap b r (o + 1) (W.setCell ⟨b, o, none⟩ v) _ ty fr h1 (by simp at hl ⊢; omega)
    refine ⟨arr', h2, by simpa using h3, fun i => ?_⟩
    rw [h4 i]
    have hlt : o < arr.size := by simp at hl; omega
    by_cases hio : i = o
    · subst hio
      rw [if_neg (by omega), if_pos (by simp)]
      simp [Array.getD_eq_getD_getElem?, hlt]
    · by_cases hin : o + 1 ≤ i ∧ i < o + 1 + r.length
      · rw [if_pos hin, if_pos (by simp; omega)]
        obtain ⟨m, hm⟩ : ∃ m, i - o = m + 1 := ⟨i - o - 1, by omega⟩
        rw [hm, show i - (o + 1) = m by omega]
        rfl
      · rw [if_neg hin, if_neg (by simp; omega)]
        simp [Array.getD_eq_getD_getElem?, Array.getElem?_setIfInBounds_ne (Ne.symm hio)]
theorem setCells_size (b : Nat) : ∀ (vs : List Value) (o : Nat) (W : World), (W.setCells b o vs).heap.size = W.heap.size
  | [], _, _ => rfl
  | v :: r, o, W => by
    have := setCells_size b r (o + 1) (W.setCell ⟨b, o, none⟩ v)
    rw [World.setCells, this]
    simp [World.setCell]
theorem setCells_other (b : Nat) : ∀ (vs : List Value) (o : Nat) (W : World) (c : Nat), c ≠ b → (W.setCells b o vs).heap[c]? = W.heap[c]?
  | [], _, _, _, _ => rfl
  | v :: r, o, W, c, hc => by
    rw [World.setCells, setCells_other b r (o + 1) _ c hc]
    simp [World.setCell, Array.getElem?_modify, Ne.symm hc]
theorem splice_length {cs vs : List Value} {o : Nat} (h : o + vs.length ≤ cs.length) : (splice cs o vs).length = cs.length := by
  unfold splice
  simp
  omega
theorem splice_getD {cs vs : List Value} {o : Nat} (h : o + vs.length ≤ cs.length) (i : Nat) : (splice cs o vs).getD i undef = if o ≤ i ∧ i < o + vs.length then vs.getD (i - o) undef else cs.getD i undef := by
  unfold splice
  simp only [List.getD_eq_getElem?_getD]
  by_cases h1 : i < o
  · rw [if_neg (by omega), List.append_assoc, List.getElem?_append_left (by simp; omega), List.getElem?_take, if_pos h1]
  · rw [List.append_assoc, List.getElem?_append_right (by simp; omega)]
    have hl : (cs.take o).length = o := by simp; omega
    rw [hl]
    by_cases h2 : i < o + vs.length
    · rw [if_pos ⟨by omega, h2⟩, List.getElem?_append_left (by omega)]
    · rw [if_neg (by omega), List.getElem?_append_right (by omega), List.getElem?_drop]
      congr 2
      omega
/-- Two names of one block are one, where one of them is ours. -/
theorem Rel.same {b0 k u : Nat} {ρ : Ren} {H : AH} {W : World} {s s2 : Slot} (hR : Rel b0 ρ H W) (hk : H k ≠ none) (hodd : k % 2 = 1) (hs : ρ k = some s) (hu : H u ≠ none) (hs2 : ρ u = some s2) (he : s2.b = s.b) : u = k := by
  obtain ⟨o1, h1⟩ := Option.ne_none_iff_exists'.1 hk
  obtain ⟨o2, h2⟩ := Option.ne_none_iff_exists'.1 hu
  obtain ⟨s3, e3, _, hb3, _⟩ := (hR.tok k o1 h1).slot
  obtain ⟨s4, e4, _, _, hb4⟩ := (hR.tok u o2 h2).slot
  rw [hs] at e3
  rw [hs2] at e4
  cases e3
  cases e4
  rcases Nat.mod_two_eq_zero_or_one u with h0 | h0
  · have := hb4 h0
    have := hb3 hodd
    omega
  · exact hR.inj u k s2 s h0 hodd hu hk hs2 hs he
/-- A token's cells are written. -/
theorem setCells_same (b : Nat) : ∀ (vs : List Value) (o : Nat) (W : World), Same W (W.setCells b o vs)
  | [], o, W => ⟨rfl, rfl, rfl⟩
  | v :: r, o, W => by
    have h := setCells_same b r (o + 1) (W.setCell ⟨b, o, none⟩ v)
    exact ⟨h.1, h.2.1, h.2.2⟩
theorem Stp.write {b0 p k es : Nat} {ρ : Ren} {H : AH} {W : World} {cs : List Value} {vs vs' : List Value} {o : Nat} {s : Slot} (hR : Rel b0 ρ H W) (hk : H k = some (.cells es cs)) (hodd : k % 2 = 1) (hs : ρ k = some s)
    (hl : o + vs.length ≤ cs.length) (hv : LR ρ vs vs') :
    Stp b0 p ρ H W ρ (H.upd k (some (.cells es (splice cs o vs)))) (W.setCells s.b (s.base + o) vs') := by
  have ht := hR.tok k _ hk
  obtain ⟨s', hs', he, arr, ty, fr, ha, hal, hav, hw, hev⟩ := ht
  rw [hs] at hs'
  cases hs'
  obtain ⟨hb0, hsz, hfr⟩ := hw hodd
  have hvl := hv.1
  obtain ⟨arr', ha', hsz', hg⟩ := setCells_heap s.b vs' (s.base + o) W arr ty fr ha (by omega)
  have hother : ∀ c, c ≠ s.b → (W.setCells s.b (s.base + o) vs').heap[c]? = W.heap[c]? := fun c hc => setCells_other _ _ _ _ _ hc
  have hsame : ∀ u : Nat, (H.upd k (some (.cells es (splice cs o vs))) u ≠ none) → H u ≠ none := by
    intro u hu
    unfold AH.upd at hu
    by_cases hku : u = k
    · rw [hku, hk]; simp
    · rwa [if_neg hku] at hu
  refine ⟨.refl _ _, ⟨fun u obj hu => ?_, ?_, ?_⟩, ?_, fun b hb hn => ?_, ?_, fun u hu => .inl (hsame u hu), setCells_same _ _ _ _⟩
  · unfold AH.upd at hu
    by_cases hku : u = k
    · rw [if_pos hku] at hu
      obtain rfl := Option.some.inj hu
      subst hku
      have hsl := splice_length hl
      refine ⟨s, hs, he, arr', ty, fr, ha', by omega, fun i hi => ?_, fun _ => ⟨hb0, by omega, fun off hoff => ?_⟩, hev⟩
      · rw [hg, splice_getD hl]
        by_cases hin : o ≤ i ∧ i < o + vs.length
        · rw [if_pos hin, if_pos (by omega), show s.base + i - (s.base + o) = i - o by omega]
          exact hv.2 (i - o) (by omega)
        · rw [if_neg hin, if_neg (by omega)]
          exact hav i (by omega)
      · rw [World.frozen?_setCells]
        exact hfr off (by omega)
    · rw [if_neg hku] at hu
      have h1 := hR.tok u obj hu
      refine h1.mono (fun _ _ e => e) (fun s2 hs2 => hother _ (fun hbe => hku ?_))
      exact hR.same (by rw [hk]; simp) hodd hs (by rw [hu]; simp) hs2 hbe
  · intro u u' s1 s2 h1 h2 h3 h4 h5 h6 h7
    exact hR.inj u u' s1 s2 h1 h2 (hsame u h3) (hsame u' h4) h5 h6 h7
  · rw [setCells_size]
    exact hR.le
  · rw [setCells_size]
    exact Nat.le_refl _
  · exact hother b (fun hbe => hn ⟨k, s, hodd, by rw [hk]; simp, hs, hbe.symm⟩)
  · rintro b ⟨u, s1, h1, h2, h3, h4⟩
    exact .inl ⟨u, s1, h1, hsame u h2, h3, h4⟩
theorem oneCell_all {ρ : Ren} {v v' : Value} (h : VR ρ v v') (ha : v.cells.all (·.oneCell') = true) : ∀ u ∈ v'.cells.toList, u.oneCell' = true := by
  intro u hu
  have hc := h.cells
  obtain ⟨i, hi⟩ := List.getElem?_of_mem hu
  have hlt : i < v'.cells.toList.length := (List.getElem?_eq_some_iff.1 hi).1
  have h1 := hc.2 i (by rw [hc.1]; exact hlt)
  have h2 := h1.oneCell
  rw [List.getD_eq_getElem?_getD, hi, Option.getD_some] at h2
  rw [h2]
  have := getD_all (p := (·.oneCell')) ha (i := i) (by have := hc.1; simp at this hlt ⊢; omega)
  simpa [List.getD_eq_getElem?_getD, Array.getD_eq_getD_getElem?] using this
theorem astore_sound {P : Program} {b0 p : Nat} {ρ : Ren} {H H' : AH} {W : World} {t : TypeId} {x x' v v' : Value} (h : astore P t H x v = some H') (hx : VR ρ x x') (hv : VR ρ v v') (hR : Rel b0 ρ H W) :
    ∃ W', (Instr.storeAt t x' v').run P W = .ok () W' ∧ Stp b0 p ρ H W ρ H' W' := by
  unfold astore at h
  split at h
  · rename_i k o
    split at h
    · rename_i hodd
      split at h
      · rename_i es cs hk
        split at h
        · rename_i hc
          obtain ⟨hinfo, hsz, hle, hone⟩ := hc
          obtain rfl := Option.some.inj h
          obtain ⟨i, hi⟩ := Option.isSome_iff_exists.1 hinfo
          cases hx with
          | @ptr _ s _ hs =>
            have hcl := hv.cells
            have hsz' : v'.cells.size = P.cellsOf t := by have := hcl.1; simp at this; omega
            have hst : Stp b0 p ρ H W ρ _ _ := Stp.write (vs := v.cells.toList) (vs' := v'.cells.toList) hR hk hodd hs (by simpa using hle) hcl
            refine ⟨_, ?_, hst⟩
            obtain ⟨s', hs', he, arr, ty, fr, ha, hal, hav, hw, hev⟩ := hR.tok k _ hk
            rw [hs] at hs'
            cases hs'
            obtain ⟨hb0, hsz2, hfr⟩ := hw hodd
            have hrun := run_storeCells_cells (P := P) s.b (s.base + o) v'.cells.toList 0 W (fun j hj => by
              have : s.base + o + j < arr.size := by simp at hj; omega
              simp [World.cell?, ha, this]) (fun j hj => hfr _ (by simp at hj; omega)) (oneCell_all hv hone)
            simp only [Nat.add_zero] at hrun
            simp [Instr.storeAt, Instr.sureAddr, storeVar, run_size hi, hsz', hrun]
        · cases h
      · cases h
    · cases h
  · cases h

/-! ### new blocks -/
def zeroOf (P : Program) (t : TypeId) : Option Value := (P.info? t).bind (·.zero)
theorem run_zero {P : Program} {t : TypeId} {z : Value} (h : zeroOf P t = some z) (w : World) : (zeroValue t).run P w = .ok z w := by
  unfold zeroOf at h
  obtain ⟨i, hi, hz⟩ := Option.bind_eq_some_iff.1 h
  simp [zeroValue, typeInfo, hi, hz]
def tokOf (p : Nat) : Nat := child p 0
def abox (p : Nat) (H : AH) (v : Value) : AR := .val (.pointer (some ⟨tokOf p, 0, none⟩)) (H.upd (tokOf p) (some (.cells 0 v.cells.toList)))
/-- A new block of related cells. -/
theorem Stp.fresh {b0 p es : Nat} {ρ : Ren} {H : AH} {W : World} {cs cs' : List Value} {ty : TypeId} (hR : Rel b0 ρ H W) (hf : ∀ t, Under p t → ρ t = none) (hp : p % 2 = 1) (hv : LR ρ cs cs') (n : Nat) (hn : n = cs'.length) :
    ∃ ρ' : Ren, ρ' (tokOf p) = some ⟨W.heap.size, 0, n, es⟩ ∧ Stp b0 p ρ H W ρ' (H.upd (tokOf p) (some (.cells es cs))) { W with heap := W.heap.push (.cells cs'.toArray ty (0, 0)) } := by
  refine ⟨_, ?_, Stp.new (sz := n) (arr := cs'.toArray) (ty := ty) (fr := (0, 0)) hR hf hp rfl rfl (by simp [hv.1]) (fun i hi => by simpa [Array.getD_eq_getD_getElem?, List.getD_eq_getElem?_getD] using hv.2 i hi) (by simp [hn]) (fun off _ => by omega)⟩
  simp [tokOf]
theorem abox_sound {P : Program} {b0 p : Nat} {ρ : Ren} {H : AH} {W : World} {e : TypeId} {v v' : Value} (hv : VR ρ v v') (hR : Rel b0 ρ H W) (hf : ∀ t, Under p t → ρ t = none) (hp : p % 2 = 1) :
    ∃ u W' ρ', (Instr.box e v').run P W = .ok u W' ∧ Stp b0 p ρ H W ρ' (H.upd (tokOf p) (some (.cells 0 v.cells.toList))) W' ∧ VR ρ' (.pointer (some ⟨tokOf p, 0, none⟩)) u := by
  obtain ⟨ρ', h1, h2⟩ := Stp.fresh (es := 0) (ty := e) hR hf hp hv.cells _ rfl
  refine ⟨_, _, ρ', ?_, h2, VR.ptr 0 h1⟩
  simp [Instr.box, newVar, newRow]
theorem aalloc_sound {P : Program} {b0 p : Nat} {ρ : Ren} {H : AH} {W : World} {e : TypeId} {z : Value} (hz : zeroOf P e = some z) (hc : closedV z = true) (hR : Rel b0 ρ H W) (hf : ∀ t, Under p t → ρ t = none) (hp : p % 2 = 1) :
    ∃ u W' ρ', (Instr.alloc e true (.tuple #[])).run P W = .ok u W' ∧ Stp b0 p ρ H W ρ' (H.upd (tokOf p) (some (.cells 0 z.cells.toList))) W' ∧ VR ρ' (.pointer (some ⟨tokOf p, 0, none⟩)) u := by
  obtain ⟨ρ', h1, h2⟩ := Stp.fresh (es := 0) (ty := e) hR hf hp (VR.closedV (ρ := ρ) hc).cells _ rfl
  refine ⟨_, _, ρ', ?_, h2, VR.ptr 0 h1⟩
  simp [Instr.alloc, run_zero hz, newVar, newRow]

/-! ### slices made -/
def cyc (z : List Value) (n : Nat) : List Value := (List.range n).map fun i => z.getD (i % z.length) undef
theorem cyc_LR {ρ : Ren} {z : List Value} (h : ∀ v ∈ z, closed1 v = true) (n : Nat) (hn : n = 0 ∨ 0 < z.length) : LR ρ (cyc z n) (cyc z n) := by
  refine ⟨rfl, fun i hi => ?_⟩
  have hi' : i < n := by simpa [cyc] using hi
  have hz : i % z.length < z.length := Nat.mod_lt _ (by omega)
  have e : (cyc z n).getD i undef = z[i % z.length] := by
    simp [cyc, List.getD_eq_getElem?_getD, hi', List.getElem?_eq_getElem hz]
  rw [e]
  exact .closed1 (h _ (List.getElem_mem _))
def amake (P : Program) (p : Nat) (t : TypeId) (H : AH) (l c : Value) : Option AR :=
  match P.underlying t, l, c with
  | some (.slice e), .int .i64 n, .int .i64 m =>
    match zeroOf P e with
    | some z =>
      if 0 ≤ n ∧ m = n ∧ n ≤ 9223372036854775807 ∧ (P.bytesOf e : Int) * n ≤ 281474976710656 ∧ z.cells.all closed1 = true ∧ z.cells.size = P.cellsOf e ∧ 0 < P.cellsOf e then
        some (.val (.slice (some ⟨tokOf p, 0, none⟩) n.toNat (if n = 0 then 0 else 1)) (H.upd (tokOf p) (some (.cells (P.cellsOf e) (cyc z.cells.toList (n.toNat * P.cellsOf e))))))
      else none
    | none => none
  | _, _, _ => none
theorem wrap_id {n : Int} (h0 : 0 ≤ n) (h1 : n ≤ 9223372036854775807) : IntKind.i64.wrap n = n := by
  simp [IntKind.wrap, IntKind.signed, IntKind.bits]
  omega
theorem amake_sound {P : Program} {b0 p : Nat} {ρ : Ren} {H : AH} {W : World} {t : TypeId} {l l' c c' : Value} {r : AR} (h : amake P p t H l c = some r) (hl : VR ρ l l') (hc : VR ρ c c') (hR : Rel b0 ρ H W) (hf : ∀ t, Under p t → ρ t = none) (hp : p % 2 = 1) :
    ∃ v H' u W' ρ', r = .val v H' ∧ (Instr.makeSlice t l' c').run P W = .ok u W' ∧ Stp b0 p ρ H W ρ' H' W' ∧ VR ρ' v u := by
  unfold amake at h
  split at h
  · rename_i e n m hu
    split at h
    · rename_i z hz
      split at h
      · rename_i hcond
        obtain ⟨h0, rfl, hmax, hb, hz1, hz2, hz3⟩ := hcond
        obtain rfl := Option.some.inj h
        cases hl
        cases hc
        obtain ⟨i, hi, hiz⟩ := Option.bind_eq_some_iff.1 hz
        have hcs : ∀ v ∈ z.cells.toList, closed1 v = true := fun v hv => by
          obtain ⟨j, hj⟩ := List.getElem?_of_mem hv
          have hlt := (List.getElem?_eq_some_iff.1 hj).1
          have := getD_all hz1 (i := j) (by simpa using hlt)
          simpa [Array.getD_eq_getD_getElem?, List.getElem?_eq_getElem hlt] using (by
            have e2 : z.cells.getD j undef = v := by
              have : z.cells[j]? = some v := by simpa using hj
              simp [Array.getD_eq_getD_getElem?, this]
            rw [e2] at this
            exact this)
        have hzl : 0 < z.cells.toList.length := by simp; omega
        obtain ⟨ρ', h1, h2⟩ := Stp.fresh (es := P.cellsOf e) (ty := e) hR hf hp (cyc_LR (ρ := ρ) hcs (m.toNat * P.cellsOf e) (.inr hzl)) (m.toNat * P.cellsOf e) (by simp [cyc])
        refine ⟨_, _, .slice (some ⟨W.heap.size, 0, none⟩) m.toNat m.toNat, _, ρ', rfl, ?_, h2, ?_⟩
        · have hby : P.bytesOf e = i.bytes := by simp [Program.bytesOf, hi]
          have hsz : P.cellsOf e = i.size := by simp [Program.cellsOf, hi]
          have hw := wrap_id h0 hmax
          rw [hby] at hb
          have hnb : ¬ (m < 0) := by omega
          have hnb2 : ¬ ((i.bytes : Int) * m > 2 ^ 48) := by omega
          have hcy : (Array.range (m.toNat * i.size)).map (fun x => z.cells[x % z.cells.size]!) = (cyc z.cells.toList (m.toNat * P.cellsOf e)).toArray := by
            rw [hsz]
            apply Array.ext
            · simp [cyc]
            · intro j h3 h4
              have hj : j % z.cells.size < z.cells.size := Nat.mod_lt _ (by omega)
              simp [cyc, List.getD_eq_getElem?_getD, hj]
          have hn0 : m.toNat * i.size = 0 ∨ ¬ (m.toNat * i.size = 0) := Classical.em _
          rcases hn0 with hn0 | hn0
          · simp only [Instr.makeSlice, Sem.run_bind, run_underlying hu, Result.andThen_ok, asInt, asIntOf, typeInfo, run_program, hi, hw, Sem.run_pure, hnb, hnb2, decide_false, Bool.or_false, Bool.false_eq_true, Int.lt_irrefl, gt_iff_lt, if_false, run_askRoom, run_size hi, hsz, hn0, if_true]
            simp [newRow, cyc, Array.range]
          · simp only [Instr.makeSlice, Sem.run_bind, run_underlying hu, Result.andThen_ok, asInt, asIntOf, typeInfo, run_program, hi, hw, Sem.run_pure, hnb, hnb2, decide_false, Bool.or_false, Bool.false_eq_true, Int.lt_irrefl, gt_iff_lt, if_false, run_askRoom, run_size hi, run_zero hz]
            rw [hsz] at hcy
            simp only [hsz, hn0, if_false, Sem.run_bind, run_zero hz, Result.andThen_ok, Sem.run_pure, newRow, run_newObj, hcy]
        · by_cases hm0 : m = 0
          · subst hm0
            simp only [Int.toNat_zero]
            exact VR.sle (s := ⟨W.heap.size, 0, 0 * P.cellsOf e, P.cellsOf e⟩) 0 0 _ 0 none (by simpa using h1) (.inr (by simp)) (fun _ => rfl) (.inl rfl)
          · have := VR.sl (ρ := ρ') (s := ⟨W.heap.size, 0, m.toNat * P.cellsOf e, P.cellsOf e⟩) 0 m.toNat 1 m.toNat h1 (Nat.le_refl _) (.inr (by simp)) (by simp)
            simpa [hm0] using this
      · cases h
    · cases h
  · cases h

/-! ### addresses and parts -/
def afieldAddr (P : Program) (s : TypeId) (x : Value) (f : Nat) : Option Value :=
  match P.underlying s, x with
  | some (.struct fs), .pointer (some ⟨k, o, none⟩) =>
    match fs[f]? with
    | some fd => if (P.info? fd.type).isSome ∧ P.cellsOf fd.type ≠ 0 then some (.pointer (some ⟨k, o + fd.offset, none⟩)) else none
    | none => none
  | _, _ => none
theorem afieldAddr_sound {P : Program} {ρ : Ren} {W : World} {s : TypeId} {x x' v : Value} {f : Nat} (h : afieldAddr P s x f = some v) (hx : VR ρ x x') : ∃ v', (Instr.fieldAt s x' f).run P W = .ok v' W ∧ VR ρ v v' := by
  unfold afieldAddr at h
  split at h
  · rename_i fs k o hu
    split at h
    · rename_i fd hfd
      split at h
      · rename_i hc
        obtain ⟨hi, hz⟩ := hc
        obtain rfl := Option.some.inj h
        obtain ⟨i, hi⟩ := Option.isSome_iff_exists.1 hi
        cases hx with
        | @ptr _ sl _ hs =>
          refine ⟨.pointer (some ⟨sl.b, sl.base + (o + fd.offset), none⟩), ?_, .ptr _ hs⟩
          simp [Instr.fieldAt, run_underlying hu, hfd, Instr.sureAddr, fieldPlace, run_size hi, hz, add_none, Nat.add_assoc]
      · cases h
    · cases h
  · cases h
def aindexAddr (P : Program) (t : TypeId) (x ix : Value) : Option Value :=
  match P.underlying t, x, ix with
  | some (.slice e), .slice (some ⟨k, o, none⟩) n _, .int _ i => if (P.info? e).isSome ∧ 0 ≤ i ∧ i < n then some (.pointer (some ⟨k, o + i.toNat * P.cellsOf e, none⟩)) else none
  | _, _, _ => none
theorem aindexAddr_sound {P : Program} {ρ : Ren} {W : World} {t : TypeId} {x x' ix ix' v : Value} (h : aindexAddr P t x ix = some v) (hx : VR ρ x x') (hi : VR ρ ix ix') : ∃ v', (Instr.indexAt t x' ix').run P W = .ok v' W ∧ VR ρ v v' := by
  unfold aindexAddr at h
  split at h
  · rename_i e k o n m kd i hu
    split at h
    · rename_i hc
      obtain ⟨hinfo, h0, h1⟩ := hc
      obtain rfl := Option.some.inj h
      obtain ⟨inf, hinf⟩ := Option.isSome_iff_exists.1 hinfo
      cases hi
      cases hx with
      | @sl _ sl _ _ _ c hs hn hf hm =>
        refine ⟨.pointer (some ⟨sl.b, sl.base + (o + i.toNat * P.cellsOf e), none⟩), ?_, .ptr _ hs⟩
        simp [Instr.indexAt, asIntOf, run_underlying hu, h0, h1, run_size hinf, add_none, Nat.add_assoc]
      | sle _ _ _ _ _ hs hf hm hsp => omega
    · cases h
  · cases h
def aindex (P : Program) (t : TypeId) (x ix : Value) : Option Value :=
  match P.underlying t, x, ix with
  | some .string, .string s, .int _ i => if h : 0 ≤ i ∧ i.toNat < s.size then some (.int .u8 ((s[i.toNat]'h.2).toNat : Int)) else none
  | _, _, _ => none
theorem aindex_sound {P : Program} {ρ : Ren} {W : World} {t : TypeId} {x x' ix ix' v : Value} (h : aindex P t x ix = some v) (hx : VR ρ x x') (hi : VR ρ ix ix') : ∃ v', (Instr.index t x' ix').run P W = .ok v' W ∧ VR ρ v v' := by
  unfold aindex at h
  split at h
  · rename_i s kd i hu
    split at h
    · rename_i hc
      obtain rfl := Option.some.inj h
      cases hi
      cases hx
      refine ⟨_, ?_, .int _ _⟩
      have e : s[i.toNat]? = some (s[i.toNat]'hc.2) := by simp [hc.2]
      simp [Instr.index, asIntOf, run_underlying hu, hc.1, e]
    · cases h
  · cases h
/-- A part of a struct's cells. -/
def apart (P : Program) (t : TypeId) (cs : Array Value) (off : Nat) : Option Value :=
  match isStruct P t with
  | some true => if off + P.cellsOf t ≤ cs.size then some (.agg (cs.extract off (off + P.cellsOf t))) else none
  | some false => cs[off]?
  | none => none
theorem apart_sound {P : Program} {ρ : Ren} {W : World} {t : TypeId} {cs cs' : Array Value} {off : Nat} {v : Value} (h : apart P t cs off = some v) (hs : cs.size = cs'.size) (hv : ∀ i, i < cs.size → VR ρ (cs.getD i undef) (cs'.getD i undef)) :
    ∃ v', (part t cs' off).run P W = .ok v' W ∧ VR ρ v v' := by
  unfold apart at h
  cases hb : isStruct P t with
  | none => simp [hb] at h
  | some b =>
    rw [hb] at h
    obtain ⟨i, hi⟩ := isStruct_info hb
    cases b with
    | true =>
      simp only at h
      split at h
      · rename_i hle
        obtain rfl := Option.some.inj h
        refine ⟨.agg (cs'.extract off (off + P.cellsOf t)), by simp [part, run_isAgg hb, run_size hi], .agg _ _ (by simp [hs]) (fun j hj => ?_)⟩
        have hj' : off + j < cs.size := by simp at hj; omega
        have := hv (off + j) hj'
        have hj2 : j < min (off + P.cellsOf t) cs.size - off := by simpa using hj
        have e3 : (cs.extract off (off + P.cellsOf t)).getD j undef = cs.getD (off + j) undef := by
          simp only [Array.getD_eq_getD_getElem?, Array.getElem?_extract, hj2, if_true]
        have e4 : (cs'.extract off (off + P.cellsOf t)).getD j undef = cs'.getD (off + j) undef := by
          simp only [Array.getD_eq_getD_getElem?, Array.getElem?_extract, show j < min (off + P.cellsOf t) cs'.size - off by omega, if_true]
        rw [e3, e4]
        exact this
      · cases h
    | false =>
      simp only at h
      have ho : off < cs.size := (Array.getElem?_eq_some_iff.1 h).1
      have h1 := hv off ho
      have e1 : cs.getD off undef = v := by simp [Array.getD_eq_getD_getElem?, h]
      have e2 : cs'[off]? = some (cs'[off]'(by omega)) := Array.getElem?_eq_getElem (by omega)
      refine ⟨cs'[off]'(by omega), by simp [part, run_isAgg hb, e2], ?_⟩
      rw [e1] at h1
      simpa [Array.getD_eq_getD_getElem?, e2] using h1
def afield (P : Program) (t : TypeId) (x : Value) (f : Nat) : Option Value :=
  match P.underlying t, x with
  | some (.struct fs), .agg cs =>
    match fs[f]? with
    | some fd => apart P fd.type cs fd.offset
    | none => none
  | _, _ => none
theorem afield_sound {P : Program} {ρ : Ren} {W : World} {t : TypeId} {x x' v : Value} {f : Nat} (h : afield P t x f = some v) (hx : VR ρ x x') : ∃ v', (Instr.field t x' f).run P W = .ok v' W ∧ VR ρ v v' := by
  unfold afield at h
  split at h
  · rename_i fs cs hu
    split at h
    · rename_i fd hfd
      cases hx with
      | agg _ cs' hs hv =>
        obtain ⟨v', h1, h2⟩ := apart_sound (W := W) h hs hv
        exact ⟨v', by simp [Instr.field, run_underlying hu, hfd, asAgg, h1], h2⟩
    · cases h
  · cases h
def aextract (x : Value) (i : Nat) : Option Value :=
  match x with
  | .tuple vs => vs[i]?
  | _ => none
theorem aextract_sound {P : Program} {ρ : Ren} {W : World} {x x' v : Value} {i : Nat} (h : aextract x i = some v) (hx : VR ρ x x') : ∃ v', (Instr.extract x' i).run P W = .ok v' W ∧ VR ρ v v' := by
  unfold aextract at h
  split at h
  · rename_i vs
    cases hx with
    | tuple _ cs' hs hv =>
      have ho : i < vs.size := (Array.getElem?_eq_some_iff.1 h).1
      have h1 := hv i ho
      have e2 : cs'[i]? = some (cs'[i]'(by omega)) := Array.getElem?_eq_getElem (by omega)
      refine ⟨cs'[i]'(by omega), by simp [Instr.extract, e2], ?_⟩
      have e1 : vs.getD i undef = v := by simp [Array.getD_eq_getD_getElem?, h]
      rw [e1] at h1
      simpa [Array.getD_eq_getD_getElem?, e2] using h1
  · cases h

/-! ### slicing -/
def bnd (d : Nat) : Option Value → Option Nat
  | none => some d
  | some (.int _ i) => if 0 ≤ i then some i.toNat else none
  | some _ => none
def aslice (P : Program) (t : TypeId) (H : AH) (x : Value) (lo hi : Option Value) : Option Value :=
  match P.underlying t, x with
  | some .string, .string s =>
    match bnd 0 lo, bnd s.size hi with
    | some l, some h => if l ≤ h ∧ h ≤ s.size then some (.string (s.extract l h)) else none
    | _, _ => none
  | some (.slice e), .slice none 0 0 =>
    match bnd 0 lo, bnd 0 hi with
    | some l, some h => if l = 0 ∧ h = 0 ∧ (P.info? e).isSome then some (.slice none 0 0) else none
    | _, _ => none
  | some (.slice e), .slice (some ⟨k, o, none⟩) n _ =>
    if n = 0 then
      match bnd 0 lo, bnd 0 hi with
      | some l, some h => if l = 0 ∧ h = 0 ∧ (P.info? e).isSome then some (.slice (some ⟨k, o, none⟩) 0 1) else none
      | _, _ => none
    else
    match bnd 0 lo, bnd n hi, H k with
    | some l, some h, some (.cells es _) => if l ≤ h ∧ h ≤ n ∧ (P.info? e).isSome ∧ (es = 0 ∨ es = P.cellsOf e) then some (.slice (some ⟨k, o + l * P.cellsOf e, none⟩) (h - l) 1) else none
    | _, _, _ => none
  | _, _ => none
theorem bnd_run {P : Program} {W : World} {ρ : Ren} {d : Nat} {v v' : Value} {n y : Nat} {code : BoundsCode} (h : bnd d (some v) = some n) (hv : VR ρ v v') (hy : n ≤ y) : (Instr.sliceBound v' y code).run P W = .ok n W := by
  unfold bnd at h
  split at h
  · cases ‹some v = none›
  · rename_i k i hvi
    obtain rfl := Option.some.inj hvi
    split at h
    · rename_i h0
      obtain rfl := Option.some.inj h
      cases hv
      have : i ≤ y := by omega
      simp [Instr.sliceBound, asIntOf, h0, this]
    · cases h
  · cases h
def OR (ρ : Ren) : Option Value → Option Value → Prop
  | none, none => True
  | some v, some v' => VR ρ v v'
  | _, _ => False
theorem bounds_run {P : Program} {W : World} {ρ : Ren} {lo lo' hi hi' : Option Value} {isS : Bool} {len cap l h : Nat} (hl : bnd 0 lo = some l) (hh : bnd len hi = some h) (hlo : OR ρ lo lo') (hhi : OR ρ hi hi') (h1 : l ≤ h) (h2 : h ≤ len) (h3 : len ≤ cap) :
    (Instr.sliceBounds isS len cap lo' hi' none).run P W = .ok (l, h, cap) W := by
  cases lo with
  | none =>
    cases lo' with
    | some _ => cases hlo
    | none =>
      obtain rfl : 0 = l := by simpa [bnd] using hl
      cases hi with
      | none =>
        cases hi' with
        | some _ => cases hhi
        | none =>
          obtain rfl : len = h := by simpa [bnd] using hh
          simp [Instr.sliceBounds]
      | some v =>
        cases hi' with
        | none => cases hhi
        | some v' =>
          have := bnd_run (P := P) (W := W) (code := if isS then .sliceAcap else .sliceAlen) hh hhi (show h ≤ cap by omega)
          simp [Instr.sliceBounds, this]
  | some u =>
    cases lo' with
    | none => cases hlo
    | some u' =>
      have hu := bnd_run (P := P) (W := W) (code := .sliceB) hl hlo h1
      cases hi with
      | none =>
        cases hi' with
        | some _ => cases hhi
        | none =>
          obtain rfl : len = h := by simpa [bnd] using hh
          simp [Instr.sliceBounds, hu]
      | some v =>
        cases hi' with
        | none => cases hhi
        | some v' =>
          have := bnd_run (P := P) (W := W) (code := if isS then .sliceAcap else .sliceAlen) hh hhi (show h ≤ cap by omega)
          simp [Instr.sliceBounds, this, hu]
theorem aslice_sound {P : Program} {b0 : Nat} {ρ : Ren} {H : AH} {W : World} {t : TypeId} {x x' v : Value} {lo lo' hi hi' : Option Value} (h : aslice P t H x lo hi = some v) (hx : VR ρ x x') (hlo : OR ρ lo lo') (hhi : OR ρ hi hi') (hR : Rel b0 ρ H W) :
    ∃ v', (Instr.sliceAt t x' lo' hi' none).run P W = .ok v' W ∧ VR ρ v v' := by
  unfold aslice at h
  split at h
  · rename_i s hu
    split at h
    · rename_i l hh hl hhh
      split at h
      · rename_i hc
        obtain rfl := Option.some.inj h
        cases hx
        have hb := bounds_run (P := P) (W := W) (isS := false) hl hhh hlo hhi hc.1 hc.2 (Nat.le_refl _)
        exact ⟨_, by simp [Instr.sliceAt, Instr.slice, run_underlying hu, hb], .str _⟩
      · cases h
    · cases h
  · rename_i e hu
    split at h
    · rename_i l hh hl hhh
      split at h
      · rename_i hc
        obtain ⟨rfl, rfl, hinf⟩ := hc
        obtain rfl := Option.some.inj h
        obtain ⟨i, hi⟩ := Option.isSome_iff_exists.1 hinf
        cases hx
        have hb := bounds_run (P := P) (W := W) (isS := true) hl hhh hlo hhi (Nat.le_refl _) (Nat.le_refl _) (Nat.le_refl _)
        exact ⟨_, by simp [Instr.sliceAt, Instr.slice, run_underlying hu, hb, run_size hi], .sl0⟩
      · cases h
    · cases h
  · rename_i e k o n m hu
    split at h
    · rename_i hn0
      subst hn0
      split at h
      · rename_i l hh hl hhh
        split at h
        · rename_i hc
          obtain ⟨rfl, rfl, hinf⟩ := hc
          obtain rfl := Option.some.inj h
          obtain ⟨i, hi⟩ := Option.isSome_iff_exists.1 hinf
          cases hx with
          | @sl _ s2 _ _ _ c hs2 hn hf hm =>
            have hb := bounds_run (P := P) (W := W) (isS := true) (cap := c) hl hhh hlo hhi (Nat.le_refl _) (Nat.le_refl _) (Nat.zero_le _)
            exact ⟨.slice (some ⟨s2.b, s2.base + o, none⟩) 0 c, by simp [Instr.sliceAt, Instr.slice, run_underlying hu, hb, run_size hi, add_none], VR.sle _ _ _ _ none hs2 hf (by simp) (.inl rfl)⟩
          | @sle _ s2 _ o' _ c sp hs2 hf hm hsp =>
            have hb := bounds_run (P := P) (W := W) (isS := true) (cap := c) hl hhh hlo hhi (Nat.le_refl _) (Nat.le_refl _) (Nat.zero_le _)
            refine ⟨.slice (some ⟨s2.b, o', sp⟩) 0 c, ?_, VR.sle _ _ _ _ sp hs2 hf (by simp) hsp⟩
            rcases hsp with rfl | rfl
            · simp [Instr.sliceAt, Instr.slice, run_underlying hu, hb, run_size hi, add_none]
            · simp [Instr.sliceAt, Instr.slice, run_underlying hu, hb, run_size hi]
        · cases h
      · cases h
    · rename_i hn0
      split at h
      · rename_i l hh es cs hl hhh hk
        split at h
        · rename_i hc
          obtain ⟨h1, h2, hinf, hes⟩ := hc
          obtain rfl := Option.some.inj h
          obtain ⟨i, hi⟩ := Option.isSome_iff_exists.1 hinf
          have ht := hR.tok k _ hk
          obtain ⟨s, hs, hse, _⟩ := ht
          cases hx with
          | @sl _ s2 _ _ _ c hs2 hn hf hm =>
            rw [hs] at hs2
            cases hs2
            have hb := bounds_run (P := P) (W := W) (isS := true) (cap := c) hl hhh hlo hhi h1 h2 hn
            have hf' : s.es = 0 ∨ s.base + (o + l * P.cellsOf e) + (c - l) * s.es ≤ s.sz := by
              rcases hf with hf | hf
              · exact .inl hf
              · rcases hes with h0 | h0
                · exact .inl (hse.trans h0)
                · right
                  rw [hse, h0] at hf ⊢
                  have : l * P.cellsOf e + (c - l) * P.cellsOf e = c * P.cellsOf e := by rw [← Nat.add_mul]; congr 1; omega
                  omega
            by_cases hcl : c = l
            · subst hcl
              refine ⟨.slice (some ⟨s.b, s.base + o, none⟩) (hh - c) (c - c), by simp [Instr.sliceAt, Instr.slice, run_underlying hu, hb, run_size hi], ?_⟩
              have e1 : hh - c = 0 := by omega
              rw [e1, Nat.sub_self]
              refine VR.sle _ _ _ _ none hs ?_ (by simp) (.inl rfl)
              rcases hf with hf | hf
              · exact .inl hf
              · exact .inr (by simp; omega)
            · refine ⟨.slice (some ⟨s.b, s.base + (o + l * P.cellsOf e), none⟩) (hh - l) (c - l), by simp [Instr.sliceAt, Instr.slice, run_underlying hu, hb, run_size hi, hcl, add_none, Nat.add_assoc], ?_⟩
              exact VR.sl _ _ _ _ hs (by omega) hf' (by simp)
          | sle => exact absurd rfl hn0
        · cases h
      · cases h
  · cases h
end Go.Proofs.Ythdnjihmjdbdkaa.AE
