/- The start of the abstract evaluator: the heap of what came in, and plain data read in it. Conditions: none. -/
import Derived.Test.YthdnjihmjdbdkaaAeRun
import Derived.Deep.Slices
import Derived.ChangeArms
import Derived.ChangeSame
namespace Go.Proofs.Ythdnjihmjdbdkaa.AE
open Go Go.RowKit Go.ChangeShapes Go.WideShapes Go.Deep
set_option linter.unusedVariables false
set_option linter.unusedSimpArgs false

/-! ### plain data in an abstract heap -/
theorem Quiet.refl (h : AH) : Quiet h h := fun _ _ => rfl
theorem Quiet.trans {h h' h'' : AH} (a : Quiet h h') (b : Quiet h' h'') : Quiet h h'' := fun t ht => by
  have h1 := a t ht
  rw [b t (by rw [h1]; exact ht), h1]
theorem Quiet.get {h h' : AH} (q : Quiet h h') {t : Nat} {o : AObj} (ht : h t = some o) : h' t = some o := by rw [q t (by rw [ht]; simp), ht]
structure AK (α : Type) where
  sz : Nat
  R : AH → α → List Value → Prop
  mono : ∀ {h h' : AH} {a : α} {cs : List Value}, Quiet h h' → R h a cs → R h' a cs
  len : ∀ {h : AH} {a : α} {cs : List Value}, R h a cs → cs.length = sz
  one : ∀ {h : AH} {a : α} {cs : List Value}, R h a cs → ∀ v ∈ cs, v.oneCell' = true
def AK.int (k : IntKind) : AK Int := ⟨1, fun _ n cs => cs = [.int k n], fun _ h => h, fun h => by rw [h]; rfl, fun h v hv => by rw [h] at hv; obtain rfl := List.mem_singleton.1 hv; rfl⟩
def AK.bool : AK Bool := ⟨1, fun _ b cs => cs = [.bool b], fun _ h => h, fun h => by rw [h]; rfl, fun h v hv => by rw [h] at hv; obtain rfl := List.mem_singleton.1 hv; rfl⟩
def AK.string : AK ByteArray := ⟨1, fun _ s cs => cs = [.string s], fun _ h => h, fun h => by rw [h]; rfl, fun h v hv => by rw [h] at hv; obtain rfl := List.mem_singleton.1 hv; rfl⟩
def SlR {α : Type} (d : AK α) (h : AH) (l : List α) (v : Value) : Prop :=
  (l = [] ∧ (v = .slice none 0 0 ∨ ∃ t o m, v = .slice (some ⟨t, o, none⟩) 0 m)) ∨
  ∃ t o m es arr, v = .slice (some ⟨t, o, none⟩) l.length m ∧ 0 < m ∧ 0 < l.length ∧ h t = some (.cells es arr) ∧ (es = 0 ∨ es = d.sz) ∧ o + l.length * d.sz ≤ arr.length ∧ ∀ j a, l[j]? = some a → d.R h a ((arr.drop (o + j * d.sz)).take d.sz)
theorem SlR.mono {α : Type} {d : AK α} {h h' : AH} {l : List α} {v : Value} (q : Quiet h h') (hs : SlR d h l v) : SlR d h' l v := by
  rcases hs with hs | ⟨t, o, m, es, arr, h1, h2, h3, h4, he, h5, h6⟩
  · exact .inl hs
  · exact .inr ⟨t, o, m, es, arr, h1, h2, h3, q.get h4, he, h5, fun j a hj => d.mono q (h6 j a hj)⟩
def AK.slice {α : Type} (d : AK α) : AK (List α) := ⟨1, fun h l cs => ∃ v, cs = [v] ∧ SlR d h l v, fun q ⟨v, h1, h2⟩ => ⟨v, h1, h2.mono q⟩, fun ⟨v, h1, _⟩ => by rw [h1]; rfl, fun ⟨v, h1, h2⟩ w hw => by
    rw [h1] at hw
    obtain rfl := List.mem_singleton.1 hw
    rcases h2 with ⟨_, rfl | ⟨t, o, m, rfl⟩⟩ | ⟨t, o, m, es, arr, rfl, _⟩ <;> rfl⟩
def AK.pair {α β : Type} (d : AK α) (d' : AK β) : AK (α × β) := ⟨d.sz + d'.sz, fun h x cs => ∃ c c', cs = c ++ c' ∧ d.R h x.1 c ∧ d'.R h x.2 c', fun q ⟨c, c', h1, h2, h3⟩ => ⟨c, c', h1, d.mono q h2, d'.mono q h3⟩, fun ⟨c, c', h1, h2, h3⟩ => by rw [h1, List.length_append, d.len h2, d'.len h3], fun ⟨c, c', h1, h2, h3⟩ v hv => by
    rw [h1] at hv
    exact (List.mem_append.1 hv).elim (d.one h2 v) (d'.one h3 v)⟩
def AK.iso {α β : Type} (d : AK α) (f : β → α) : AK β := ⟨d.sz, fun h b cs => d.R h (f b) cs, fun q h => d.mono q h, fun h => d.len h, fun h => d.one h⟩

/-! ### what came in -/
def pr (b o : Nat) : Nat := 2 * ((b + o) * (b + o) + o)
theorem pr_even (b o : Nat) : pr b o % 2 = 0 := by unfold pr; omega
theorem pr_inj {b o b' o' : Nat} (h : pr b o = pr b' o') : b = b' ∧ o = o' := child_inj (p := b) (k := o) (q := b') (j := o') (by unfold pr at h; unfold child; omega)
def niceV : Value → Bool
  | .bool _ => true
  | .int _ _ => true
  | .string _ => true
  | .slice none 0 0 => true
  | .slice (some a) n c => (a.spot.isNone && decide (n ≤ c)) || (n == 0 && c == 0)
  | _ => false
def absV : Value → Value
  | .slice (some a) n c => .slice (some ⟨pr a.block a.off, 0, none⟩) n c
  | v => v
open Classical in
noncomputable def rho0 : Ren := fun t => if h : ∃ x : Nat × Nat, t = pr x.1 x.2 then some ⟨h.choose.1, h.choose.2, 0, 0⟩ else none
theorem rho0_pr (b o : Nat) : rho0 (pr b o) = some ⟨b, o, 0, 0⟩ := by
  have h : ∃ x : Nat × Nat, pr b o = pr x.1 x.2 := ⟨(b, o), rfl⟩
  unfold rho0
  rw [dif_pos h]
  obtain ⟨h1, h2⟩ := pr_inj h.choose_spec
  rw [← h1, ← h2]
theorem rho0_odd {t : Nat} (h : t % 2 = 1) : rho0 t = none := by
  unfold rho0
  rw [dif_neg]
  rintro ⟨x, rfl⟩
  rw [pr_even] at h
  cases h
theorem vr_nice {v : Value} (h : niceV v = true) : VR rho0 (absV v) v := by
  unfold niceV at h
  split at h
  · exact .bool _
  · exact .int _ _
  · exact .str _
  · exact .sl0
  · rename_i a n c
    obtain ⟨b, o, sp⟩ := a
    simp only [Bool.or_eq_true, Bool.and_eq_true, Option.isNone_iff_eq_none, decide_eq_true_eq, beq_iff_eq] at h
    rcases h with ⟨rfl, hn⟩ | ⟨rfl, rfl⟩
    · exact VR.sl (s := ⟨b, o, 0, 0⟩) 0 n c c (rho0_pr b o) hn (.inl rfl) (fun h => h)
    · exact VR.sle (s := ⟨b, o, 0, 0⟩) 0 o 0 0 sp (rho0_pr b o) (.inl rfl) (fun _ => rfl) (.inr rfl)
  · cases h
open Classical in
noncomputable def H0 (W : World) : AH := fun t => if h : ∃ x : Nat × Nat, t = pr x.1 x.2 then
  (match W.heap[h.choose.1]? with | some (.cells arr _ _) => if h.choose.2 ≤ arr.size then some (.cells 0 (((arr.toList.drop h.choose.2).takeWhile niceV).map absV)) else none | _ => none) else none
theorem H0_pr (W : World) (b o : Nat) : H0 W (pr b o) = (match W.heap[b]? with | some (.cells arr _ _) => if o ≤ arr.size then some (.cells 0 (((arr.toList.drop o).takeWhile niceV).map absV)) else none | _ => none) := by
  have h : ∃ x : Nat × Nat, pr b o = pr x.1 x.2 := ⟨(b, o), rfl⟩
  unfold H0
  rw [dif_pos h]
  obtain ⟨h1, h2⟩ := pr_inj h.choose_spec
  rw [← h1, ← h2]
theorem H0_some {W : World} {t : Nat} {x : AObj} (h : H0 W t = some x) : ∃ b o, t = pr b o := by
  unfold H0 at h
  split at h
  · rename_i hx
    exact ⟨_, _, hx.choose_spec⟩
  · cases h
theorem rel0 (W : World) : Rel W.heap.size rho0 (H0 W) W := by
  refine ⟨fun t x hx => ?_, fun t t' s s' ht _ h1 => ?_, Nat.le_refl _⟩
  · obtain ⟨b, o, rfl⟩ := H0_some hx
    rw [H0_pr] at hx
    split at hx
    · rename_i arr ty fr hb
      split at hx
      · rename_i ho
        obtain rfl := Option.some.inj hx
        have hlen : ((arr.toList.drop o).takeWhile niceV).length ≤ arr.size - o := by
          have := (List.takeWhile_sublist niceV (l := arr.toList.drop o)).length_le
          simpa using this
        refine ⟨_, rho0_pr b o, rfl, arr, ty, fr, hb, ?_, fun i hi => ?_, fun h => ?_, fun _ => (Array.getElem?_eq_some_iff.1 hb).1⟩
        · simp only [List.length_map]
          omega
        · simp only [List.length_map] at hi
          have h1 : ((arr.toList.drop o).takeWhile niceV)[i]? = some (((arr.toList.drop o).takeWhile niceV)[i]) := List.getElem?_eq_getElem hi
          generalize ((arr.toList.drop o).takeWhile niceV)[i] = v at h1
          have h2 : niceV v = true := by
            have := List.mem_of_getElem? h1
            have h3 := List.all_takeWhile (p := niceV) (l := arr.toList.drop o)
            exact List.all_eq_true.1 h3 v this
          have h4 : arr[o + i]? = some v := by
            obtain ⟨r, hr⟩ := List.takeWhile_prefix niceV (l := arr.toList.drop o)
            have h6 : (arr.toList.drop o)[i]? = some v := by
              rw [← hr, List.getElem?_append_left hi]
              exact h1
            simpa using h6
          rw [List.getD_eq_getElem?_getD, List.getElem?_map, h1, Array.getD_eq_getD_getElem?, h4]
          exact vr_nice h2
        · rw [pr_even] at h; cases h
      · cases hx
    · cases hx
  · obtain ⟨x, hx⟩ := Option.ne_none_iff_exists'.1 h1
    obtain ⟨b, o, rfl⟩ := H0_some hx
    rw [pr_even] at ht
    cases ht
theorem takeWhile_ge {p : Value → Bool} : ∀ {l : List Value} {n : Nat}, (∀ k, k < n → ∃ v, l[k]? = some v ∧ p v = true) → n ≤ (l.takeWhile p).length ∧ ∀ k, k < n → (l.takeWhile p)[k]? = l[k]?
  | l, 0, _ => ⟨Nat.zero_le _, fun k hk => by omega⟩
  | [], n + 1, h => by
    obtain ⟨v, hv, _⟩ := h 0 (by omega)
    simp at hv
  | x :: r, n + 1, h => by
    obtain ⟨v, hv, hp⟩ := h 0 (by omega)
    obtain rfl : x = v := by simpa using hv
    obtain ⟨h1, h2⟩ := takeWhile_ge (p := p) (l := r) (n := n) (fun k hk => by simpa using h (k + 1) (by omega))
    rw [List.takeWhile_cons_of_pos hp]
    refine ⟨by simpa using h1, fun k hk => ?_⟩
    cases k with
    | zero => rfl
    | succ k => simpa using h2 k (by omega)
/-- What is read at type t is of kind d, and meets G. -/
def AOpens {α : Type} (P : Program) (t : TypeId) (d : AK α) (G : α → Prop) : Prop :=
  ∀ (H : Type) (enc : TypeId × Value → H) (w : World) (n : Nat) (cs : List Value) (x : DataW H × List MemPlace),
    DataW.trod enc P w 0 (fun _ => true) true n t cs = some x → (∀ v ∈ cs, niceV v = true) ∧ ∃ a, d.R (H0 w) a (cs.map absV) ∧ G a
theorem aopens_int {P : Program} {t : TypeId} {k : IntKind} (ht : P.underlying t = some (.int k)) : AOpens P t (AK.int k) (fun n => (Lit.int k n).wf = true) := by
  intro H enc w n cs x h
  obtain ⟨m, rfl, _, hw⟩ := DataW.trod_int ht h
  exact ⟨fun v hv => by obtain rfl : v = _ := List.mem_singleton.1 hv; rfl, m, rfl, hw⟩
theorem aopens_bool {P : Program} {t : TypeId} (ht : P.underlying t = some .bool) : AOpens P t AK.bool (fun _ => True) := by
  intro H enc w n cs x h
  obtain ⟨m, rfl, _⟩ := DataW.trod_bool ht h
  exact ⟨fun v hv => by obtain rfl : v = _ := List.mem_singleton.1 hv; rfl, m, rfl, trivial⟩
theorem aopens_string {P : Program} {t : TypeId} (ht : P.underlying t = some .string) : AOpens P t AK.string (fun s => s.size ≤ maxLen) := by
  intro H enc w n cs x h
  obtain ⟨m, rfl, _, hw⟩ := DataW.trod_string ht h
  exact ⟨fun v hv => by obtain rfl : v = _ := List.mem_singleton.1 hv; rfl, m, rfl, hw⟩
theorem list_of {α : Type} {q : Nat → α → Prop} : ∀ (n : Nat), (∀ i, i < n → ∃ a, q i a) → ∃ l : List α, l.length = n ∧ ∀ j p, l[j]? = some p → q j p
  | 0, _ => ⟨[], rfl, fun j p h => by simp at h⟩
  | n + 1, h => by
    obtain ⟨l, hl, hq⟩ := list_of n (fun i hi => h i (Nat.lt_succ_of_lt hi))
    obtain ⟨a, ha⟩ := h n (Nat.lt_succ_self n)
    refine ⟨l ++ [a], by simp [hl], fun j p hp => ?_⟩
    rcases Nat.lt_or_ge j l.length with hj | hj
    · rw [List.getElem?_append_left hj] at hp
      exact hq j p hp
    · have hj2 : j = l.length := by
        have := (List.getElem?_eq_some_iff.1 hp).1
        simp at this
        omega
      subst hj2
      have : a = p := by simpa using hp
      subst this
      rw [hl]
      exact ha
theorem aopens_slice {α : Type} {P : Program} {t e : TypeId} {d : AK α} {G : α → Prop} (ht : P.underlying t = some (.slice e)) (hc : P.cellsOf e = d.sz) (hpos : 0 < d.sz) (ho : AOpens P e d G) :
    AOpens P t (AK.slice d) (fun l => l.length ≤ maxLen ∧ ∀ x ∈ l, G x) := by
  intro H enc w n cs x h
  rcases open_slice ht h with ⟨rfl, _⟩ | ⟨a, len, cap, m, n', D, Pl, rfl, _, hl, hm, hmm, _, hi⟩
  · exact ⟨fun v hv => by obtain rfl : v = _ := List.mem_singleton.1 hv; rfl, [], ⟨_, rfl, .inl ⟨rfl, .inl rfl⟩⟩, by simp, by simp⟩
  · simp only [if_true] at hmm
    subst hmm
    obtain ⟨b, o, sp⟩ := a
    have hel : ∀ i, i < m → ∃ cs' : List Value, cs'.length = d.sz ∧ (∀ j, j < d.sz → w.cell? ((Addr.mk b o sp).add (i * d.sz + j)) = cs'[j]?) ∧ (∀ v ∈ cs', niceV v = true) ∧ ∃ a', d.R (H0 w) a' (cs'.map absV) ∧ G a' := fun i him => by
      obtain ⟨cs', h1, h2⟩ := hi i him
      obtain ⟨h3, h4⟩ := ho H enc w n' cs' _ h2
      rw [hc] at h1
      obtain ⟨_, hcl, hat⟩ := World.cells?_some h1
      refine ⟨cs', hcl, fun j hj => ?_, h3, h4⟩
      have := hat j hj
      rwa [Go.Deep.add_add] at this
    by_cases hm0 : m = 0
    · subst hm0
      obtain rfl : len = 0 := by omega
      exact ⟨fun v hv => by obtain rfl : v = _ := List.mem_singleton.1 hv; simp [niceV], [], ⟨_, rfl, .inl ⟨rfl, .inr ⟨pr b o, 0, 0, rfl⟩⟩⟩, by simp, by simp⟩
    · obtain ⟨arr, ty, fr, hb, hsp⟩ : ∃ arr ty fr, w.heap[b]? = some (.cells arr ty fr) ∧ sp = none := by
        obtain ⟨cs', h1, h2, _⟩ := hel 0 (by omega)
        have h3 := h2 0 hpos
        rw [List.getElem?_eq_getElem (by omega)] at h3
        simp only [Nat.zero_mul, Nat.zero_add, Addr.add, if_true, World.cell?] at h3
        split at h3
        · rename_i arr ty fr hb
          refine ⟨arr, ty, fr, hb, ?_⟩
          cases sp with
          | none => rfl
          | some z => simp at h3
        · cases h3
      subst hsp
      have hcell : ∀ k, w.cell? ((Addr.mk b o none).add k) = arr[o + k]? := fun k => by
        unfold Addr.add
        split
        · rename_i hk
          subst hk
          simp [World.cell?, hb]
        · simp [World.cell?, hb]
      have hnice : ∀ k, k < m * d.sz → ∃ v, (arr.toList.drop o)[k]? = some v ∧ niceV v = true := fun k hk => by
        have hq : k / d.sz < m := Nat.div_lt_of_lt_mul (by rwa [Nat.mul_comm] at hk)
        obtain ⟨cs', h1, h2, h3, _⟩ := hel (k / d.sz) hq
        have hr : k % d.sz < d.sz := Nat.mod_lt _ hpos
        have h4 := h2 (k % d.sz) hr
        have h5 : k / d.sz * d.sz + k % d.sz = k := by rw [Nat.mul_comm]; exact Nat.div_add_mod k d.sz
        rw [h5, hcell, List.getElem?_eq_getElem (by omega)] at h4
        exact ⟨_, by simpa using h4, h3 _ (List.getElem_mem _)⟩
      obtain ⟨htl, htg⟩ := takeWhile_ge (p := niceV) (l := arr.toList.drop o) (n := m * d.sz) hnice
      have hlenm : len * d.sz ≤ m * d.sz := Nat.mul_le_mul_right _ hl
      obtain ⟨l, hll, hq⟩ := list_of (q := fun i a' => d.R (H0 w) a' ((((arr.toList.drop o).takeWhile niceV).map absV |>.drop (i * d.sz)).take d.sz) ∧ G a') len (fun i hil => by
        obtain ⟨cs', h1, h2, h3, a', h4, h5⟩ := hel i (by omega)
        refine ⟨a', ?_, h5⟩
        have he : (((arr.toList.drop o).takeWhile niceV).drop (i * d.sz)).take d.sz = cs' := by
          apply List.ext_getElem?
          intro j
          rw [List.getElem?_take]
          split
          · rename_i hj
            have hlt : i * d.sz + j < m * d.sz := by
              have : (i + 1) * d.sz ≤ m * d.sz := Nat.mul_le_mul_right _ (by omega)
              rw [Nat.add_mul] at this
              omega
            rw [List.getElem?_drop, htg _ hlt, ← h2 j hj, hcell]
            simp
          · rename_i hj
            rw [List.getElem?_eq_none (by omega)]
        rw [← List.map_drop, ← List.map_take, he]
        exact h4)
      have hlm : len ≤ maxLen := by omega
      refine ⟨fun v hv => by obtain rfl : v = _ := List.mem_singleton.1 hv; simp [niceV, hl], l, ⟨_, rfl, ?_⟩, by omega, fun y hy => ?_⟩
      · by_cases hl0 : len = 0
        · subst hl0
          exact .inl ⟨List.eq_nil_of_length_eq_zero hll, .inr ⟨pr b o, 0, m, rfl⟩⟩
        · have hsz : o ≤ arr.size := by
            obtain ⟨v, hv, _⟩ := hnice 0 (Nat.mul_pos (by omega) hpos)
            have := (List.getElem?_eq_some_iff.1 hv).1
            simp at this
            omega
          refine .inr ⟨pr b o, 0, m, 0, ((arr.toList.drop o).takeWhile niceV).map absV, by rw [hll]; rfl, by omega, by omega, ?_, .inl rfl, ?_, fun j a' hj => ?_⟩
          · rw [H0_pr, hb]
            simp [hsz]
          · rw [hll, List.length_map]
            omega
          · rw [Nat.zero_add]
            exact (hq j a' hj).1
      · obtain ⟨j, hj⟩ := List.getElem?_of_mem hy
        exact (hq j y hj).2
def AFieldsOpen {α : Type} (P : Program) (o : Nat) (fs : List Field) (d : AK α) (G : α → Prop) : Prop :=
  ∀ (H : Type) (enc : TypeId × Value → H) (w : World) (n : Nat) (cs : List Value),
    (∀ f ∈ fs, ∃ y, DataW.trod enc P w 0 (fun _ => true) true n f.type ((cs.drop f.offset).take (P.cellsOf f.type)) = some y) → o + d.sz ≤ cs.length →
      (∀ v ∈ (cs.drop o).take d.sz, niceV v = true) ∧ ∃ a, d.R (H0 w) a (((cs.drop o).take d.sz).map absV) ∧ G a
theorem afields_one {α : Type} {P : Program} {f : Field} {d : AK α} {G : α → Prop} {o : Nat} (ho : f.offset = o) (hc : P.cellsOf f.type = d.sz) (h : AOpens P f.type d G) : AFieldsOpen P o [f] d G := by
  intro H enc w n cs hf _
  obtain ⟨y, hy⟩ := hf f (by simp)
  rw [ho, hc] at hy
  exact h H enc w n _ _ hy
theorem afields_cons {α β : Type} {P : Program} {f : Field} {fs : List Field} {d : AK α} {d' : AK β} {G : α → Prop} {G' : β → Prop} {o : Nat} (ho : f.offset = o) (hc : P.cellsOf f.type = d.sz) (h : AOpens P f.type d G)
    (hr : AFieldsOpen P (o + d.sz) fs d' G') : AFieldsOpen P o (f :: fs) (AK.pair d d') (fun x => G x.1 ∧ G' x.2) := by
  intro H enc w n cs hf hl
  obtain ⟨y, hy⟩ := hf f (by simp)
  rw [ho, hc] at hy
  have hsz : (AK.pair d d').sz = d.sz + d'.sz := rfl
  obtain ⟨h1, a, hK, hG⟩ := h H enc w n _ _ hy
  obtain ⟨h2, b, hK', hG'⟩ := hr H enc w n cs (fun f hf' => hf f (by simp [hf'])) (by omega)
  have he : (cs.drop o).take (AK.pair d d').sz = (cs.drop o).take d.sz ++ (cs.drop (o + d.sz)).take d'.sz := by rw [hsz, List.take_add, List.drop_drop]
  rw [he]
  refine ⟨fun v hv => (List.mem_append.1 hv).elim (h1 v) (h2 v), (a, b), ⟨_, _, List.map_append .., hK, hK'⟩, hG, hG'⟩
theorem aopens_struct {α β : Type} {P : Program} {t : TypeId} {fs : Array Field} {d : AK α} {G : α → Prop} (f : β → α) (g : α → β) (hfg : ∀ a, f (g a) = a) (ht : P.underlying t = some (.struct fs)) (hc : P.cellsOf t = d.sz)
    (h : AFieldsOpen P 0 fs.toList d G) : AOpens P t (AK.iso d f) (fun b => G (f b)) := by
  intro H enc w n cs x hx
  obtain ⟨xs, n', hn', _, hl, hlen, hg⟩ := DataW.trod_struct ht hx
  obtain ⟨hn, a, hK, hG⟩ := h H enc w n' cs (fun f' hf' => by
    obtain ⟨j, hj⟩ := List.getElem?_of_mem hf'
    have hj2 : fs[j]? = some f' := by simpa using hj
    have hlt : j < fs.size := (Array.getElem?_eq_some_iff.1 hj2).1
    have := hg j f' hj2
    refine ⟨xs[j]'(by omega), ?_⟩
    rw [this]
    exact List.getElem?_eq_getElem _) (by omega)
  rw [List.drop_zero, List.take_of_length_le (by omega)] at hK hn
  exact ⟨hn, g a, by show d.R _ (f (g a)) _; rw [hfg]; exact hK, by show G (f (g a)); rw [hfg]; exact hG⟩
theorem aopens_mono {α : Type} {P : Program} {t : TypeId} {d : AK α} {G G' : α → Prop} (h : AOpens P t d G) (hg : ∀ a, G a → G' a) : AOpens P t d G' := by
  intro H enc w n cs x hx
  obtain ⟨hn, a, hK, hG⟩ := h H enc w n cs x hx
  exact ⟨hn, a, hK, hg a hG⟩
end Go.Proofs.Ythdnjihmjdbdkaa.AE
