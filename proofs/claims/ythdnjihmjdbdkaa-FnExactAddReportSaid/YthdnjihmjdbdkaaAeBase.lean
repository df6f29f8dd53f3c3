/- An abstract evaluator of the machine's code: values with abstract addresses, the relation to the machine's worlds, and its simplest laws. Conditions: none. -/
import Derived.Orders
import Derived.Laws.Sem
import Derived.Laws.Cells
import Derived.Laws.IdiomCopy
import Derived.Laws.Entries
import Derived.Below
namespace Go.Proofs.Ythdnjihmjdbdkaa.AE
open Go Go.RowKit
set_option linter.unusedVariables false
set_option linter.unusedSimpArgs false

/-! ### names of blocks: even for what came in, odd for what the call makes -/
def child (p k : Nat) : Nat := 2 * ((p + k) * (p + k) + k) + 1
theorem child_odd (p k : Nat) : child p k % 2 = 1 := by unfold child; omega
theorem child_inj {p k q j : Nat} (h : child p k = child q j) : p = q ∧ k = j := by
  unfold child at h
  have h1 : (p + k) * (p + k) + k = (q + j) * (q + j) + j := by omega
  have key : ∀ a b x y : Nat, x ≤ a → a < b → a * a + x < b * b + y := by
    intro a b x y hx hab
    have h2 : (a + 1) * (a + 1) ≤ b * b := Nat.mul_le_mul hab hab
    have h3 : (a + 1) * (a + 1) = a * a + 2 * a + 1 := by rw [Nat.add_mul, Nat.mul_add]; omega
    omega
  have hs : p + k = q + j := by
    rcases Nat.lt_trichotomy (p + k) (q + j) with hlt | he | hlt
    · have := key (p + k) (q + j) k j (by omega) hlt
      omega
    · exact he
    · have := key (q + j) (p + k) j k (by omega) hlt
      omega
  rw [hs] at h1
  omega
theorem lt_child (p k : Nat) : p < child p k := by
  unfold child
  have h1 : p + k ≤ (p + k) * (p + k) := Nat.le_mul_self _
  omega
inductive Under (p : Nat) : Nat → Prop
  | refl : Under p p
  | step {t : Nat} (k : Nat) (h : Under p t) : Under p (child t k)
theorem Under.le {p t : Nat} (h : Under p t) : p ≤ t := by
  induction h with
  | refl => exact Nat.le_refl _
  | step k _ ih => exact Nat.le_of_lt (Nat.lt_of_le_of_lt ih (lt_child _ _))
theorem Under.odd {p t : Nat} (h : Under p t) (hp : p % 2 = 1) : t % 2 = 1 := by
  cases h with
  | refl => exact hp
  | step k _ => exact child_odd _ _
theorem Under.trans {p q t : Nat} (h : Under p q) (h2 : Under q t) : Under p t := by
  induction h2 with
  | refl => exact h
  | step k _ ih => exact .step k ih
theorem Under.child {p t : Nat} {k : Nat} (h : Under (AE.child p k) t) : Under p t := (Under.step k .refl).trans h
theorem Under.apart {p k j t : Nat} (h : Under (AE.child p k) t) (h2 : Under (AE.child p j) t) : k = j := by
  induction h with
  | refl =>
    generalize he : AE.child p k = x at h2
    cases h2 with
    | refl => exact (child_inj he).2
    | @step s i hs =>
      obtain ⟨rfl, _⟩ := child_inj he
      have := hs.le
      have := lt_child p j
      omega
  | @step s i hs ih =>
    generalize he : AE.child s i = x at h2
    cases h2 with
    | refl =>
      obtain ⟨rfl, _⟩ := child_inj he
      have := hs.le
      have := lt_child s k
      omega
    | @step s' i' hs' =>
      obtain ⟨rfl, _⟩ := child_inj he
      exact ih hs'
theorem under_pos {p t : Nat} (h : Under p t) (hp : p % 2 = 1) : t % 2 = 1 := h.odd hp

/-! ### abstract heaps and the relation -/
inductive AObj
  | cells (es : Nat) (cs : List Value)
  | map (es : List (Value × Value))
abbrev AH := Nat → Option AObj
def AH.upd (h : AH) (t : Nat) (o : Option AObj) : AH := fun u => if u = t then o else h u
/-- Where a name's block lies: its block, the first cell, one past its last cell, an element's cells. -/
structure Slot where
  b : Nat
  base : Nat
  sz : Nat
  es : Nat
abbrev Ren := Nat → Option Slot
inductive VR (ρ : Ren) : Value → Value → Prop
  | bool (b : Bool) : VR ρ (.bool b) (.bool b)
  | int (k : IntKind) (n : Int) : VR ρ (.int k n) (.int k n)
  | str (s : ByteArray) : VR ρ (.string s) (.string s)
  | ptr0 : VR ρ (.pointer none) (.pointer none)
  | ptr {t : Nat} {s : Slot} (o : Nat) (h : ρ t = some s) : VR ρ (.pointer (some ⟨t, o, none⟩)) (.pointer (some ⟨s.b, s.base + o, none⟩))
  | sl0 : VR ρ (.slice none 0 0) (.slice none 0 0)
  | sl {t : Nat} {s : Slot} (o n m c : Nat) (h : ρ t = some s) (hn : n ≤ c) (hf : s.es = 0 ∨ s.base + o + c * s.es ≤ s.sz) (hm : m = 0 → c = 0) :
      VR ρ (.slice (some ⟨t, o, none⟩) n m) (.slice (some ⟨s.b, s.base + o, none⟩) n c)
  | sle {t : Nat} {s : Slot} (o o' m c : Nat) (sp : Option Nat) (h : ρ t = some s) (hf : s.es = 0 ∨ o' + c * s.es ≤ s.sz) (hm : m = 0 → c = 0) (hsp : sp = none ∨ c = 0) :
      VR ρ (.slice (some ⟨t, o, none⟩) 0 m) (.slice (some ⟨s.b, o', sp⟩) 0 c)
  | map0 : VR ρ (.map none) (.map none)
  | map {t : Nat} {s : Slot} (h : ρ t = some s) : VR ρ (.map (some t)) (.map (some s.b))
  | fn (f : FuncId) (cs cs' : Array Value) (hs : cs.size = cs'.size) (h : ∀ i, i < cs.size → VR ρ (cs.getD i undef) (cs'.getD i undef)) : VR ρ (.func (.func f) #[] cs) (.func (.func f) #[] cs')
  | fn0 : VR ρ .nilFunc .nilFunc
  | agg (cs cs' : Array Value) (hs : cs.size = cs'.size) (h : ∀ i, i < cs.size → VR ρ (cs.getD i undef) (cs'.getD i undef)) : VR ρ (.agg cs) (.agg cs')
  | tuple (cs cs' : Array Value) (hs : cs.size = cs'.size) (h : ∀ i, i < cs.size → VR ρ (cs.getD i undef) (cs'.getD i undef)) : VR ρ (.tuple cs) (.tuple cs')
def Ext (p : Nat) (ρ ρ' : Ren) : Prop := (∀ t s, ρ t = some s → ρ' t = some s) ∧ ∀ t, ρ' t ≠ none → ρ t ≠ none ∨ Under p t
theorem Ext.refl (p : Nat) (ρ : Ren) : Ext p ρ ρ := ⟨fun _ _ h => h, fun _ h => .inl h⟩
theorem Ext.trans {p : Nat} {ρ ρ1 ρ2 : Ren} (h : Ext p ρ ρ1) (h2 : Ext p ρ1 ρ2) : Ext p ρ ρ2 :=
  ⟨fun t s e => h2.1 t s (h.1 t s e), fun t e => (h2.2 t e).elim (h.2 t) .inr⟩
theorem Ext.wide {p q : Nat} {ρ ρ' : Ren} (h : Ext p ρ ρ') (hq : ∀ t, Under p t → Under q t) : Ext q ρ ρ' := ⟨h.1, fun t e => (h.2 t e).imp id (hq t)⟩
theorem VR.mono {ρ ρ' : Ren} (hρ : ∀ t s, ρ t = some s → ρ' t = some s) {v v' : Value} (h : VR ρ v v') : VR ρ' v v' := by
  induction h with
  | bool b => exact .bool b
  | int k n => exact .int k n
  | str s => exact .str s
  | ptr0 => exact .ptr0
  | ptr o h => exact .ptr o (hρ _ _ h)
  | sl0 => exact .sl0
  | sl o n m c h hn hf hm => exact .sl o n m c (hρ _ _ h) hn hf hm
  | sle o o' m c sp h hf hm hsp => exact .sle o o' m c sp (hρ _ _ h) hf hm hsp
  | map0 => exact .map0
  | map h => exact .map (hρ _ _ h)
  | fn f cs cs' hs _ ih => exact .fn f cs cs' hs ih
  | fn0 => exact .fn0
  | agg cs cs' hs _ ih => exact .agg cs cs' hs ih
  | tuple cs cs' hs _ ih => exact .tuple cs cs' hs ih
theorem VR.undef (ρ : Ren) : VR ρ undef undef := .tuple #[] #[] rfl (fun i h => by simp at h)
theorem VR.oneCell {ρ : Ren} {v v' : Value} (h : VR ρ v v') : v'.oneCell' = v.oneCell' := by cases h <;> rfl
/-- Cells, one by one. -/
def LR (ρ : Ren) (cs : List Value) (cs' : List Value) : Prop := cs.length = cs'.length ∧ ∀ i, i < cs.length → VR ρ (cs.getD i undef) (cs'.getD i undef)
theorem LR.mono {ρ ρ' : Ren} (hρ : ∀ t s, ρ t = some s → ρ' t = some s) {cs cs' : List Value} (h : LR ρ cs cs') : LR ρ' cs cs' := ⟨h.1, fun i hi => (h.2 i hi).mono hρ⟩
theorem LR.nil (ρ : Ren) : LR ρ [] [] := ⟨rfl, fun i h => by simp at h⟩
theorem LR.cons {ρ : Ren} {v v' : Value} {cs cs' : List Value} (h : VR ρ v v') (h2 : LR ρ cs cs') : LR ρ (v :: cs) (v' :: cs') :=
  ⟨by simp [h2.1], fun i hi => by
    cases i with
    | zero => simpa using h
    | succ i => simpa using h2.2 i (by simpa using hi)⟩
theorem LR.tail {ρ : Ren} {v v' : Value} {cs cs' : List Value} (h : LR ρ (v :: cs) (v' :: cs')) : VR ρ v v' ∧ LR ρ cs cs' :=
  ⟨by simpa using h.2 0 (by simp), by simpa using h.1, fun i hi => by simpa using h.2 (i + 1) (by simpa using hi)⟩
theorem LR.append {ρ : Ren} {a a' b b' : List Value} (h : LR ρ a a') (h2 : LR ρ b b') : LR ρ (a ++ b) (a' ++ b') := by
  refine ⟨by simp [h.1, h2.1], fun i hi => ?_⟩
  rw [List.length_append] at hi
  rcases Nat.lt_or_ge i a.length with hl | hl
  · have := h.2 i hl
    simpa [List.getD_eq_getElem?_getD, List.getElem?_append_left hl, List.getElem?_append_left (h.1 ▸ hl)] using this
  · have := h2.2 (i - a.length) (by omega)
    rw [List.getD_eq_getElem?_getD, List.getD_eq_getElem?_getD, List.getElem?_append_right hl, List.getElem?_append_right (h.1 ▸ hl), ← h.1]
    simpa [List.getD_eq_getElem?_getD] using this
theorem VR.cells {ρ : Ren} {v v' : Value} (h : VR ρ v v') : LR ρ v.cells.toList v'.cells.toList := by
  cases h with
  | agg cs cs' hs h => exact ⟨by simpa [Value.cells] using hs, fun i hi => by simpa [Value.cells, List.getD_eq_getElem?_getD] using h i (by simpa [Value.cells] using hi)⟩
  | tuple cs cs' hs h => exact LR.cons (.tuple cs cs' hs h) (LR.nil ρ)
  | bool b => exact LR.cons (.bool b) (LR.nil ρ)
  | int k n => exact LR.cons (.int k n) (LR.nil ρ)
  | str s => exact LR.cons (.str s) (LR.nil ρ)
  | ptr0 => exact LR.cons .ptr0 (LR.nil ρ)
  | ptr o h => exact LR.cons (.ptr o h) (LR.nil ρ)
  | sl0 => exact LR.cons .sl0 (LR.nil ρ)
  | sl o n m c h hn hf hm => exact LR.cons (.sl o n m c h hn hf hm) (LR.nil ρ)
  | sle o o' m c sp h hf hm hsp => exact LR.cons (.sle o o' m c sp h hf hm hsp) (LR.nil ρ)
  | map0 => exact LR.cons .map0 (LR.nil ρ)
  | map h => exact LR.cons (.map h) (LR.nil ρ)
  | fn f cs cs' hs h => exact LR.cons (.fn f cs cs' hs h) (LR.nil ρ)
  | fn0 => exact LR.cons .fn0 (LR.nil ρ)
theorem VR.of_cells {ρ : Ren} {cs cs' : List Value} (h : LR ρ cs cs') : VR ρ (.agg cs.toArray) (.agg cs'.toArray) :=
  .agg _ _ (by simpa using h.1) (fun i hi => by simpa [List.getD_eq_getElem?_getD] using h.2 i (by simpa using hi))

def TokRel (b0 : Nat) (ρ : Ren) (W : World) (t : Nat) : AObj → Prop
  | .cells es cs => ∃ s, ρ t = some s ∧ s.es = es ∧ ∃ arr ty fr, W.heap[s.b]? = some (.cells arr ty fr) ∧ s.base + cs.length ≤ arr.size ∧
      (∀ i, i < cs.length → VR ρ (cs.getD i undef) (arr.getD (s.base + i) undef)) ∧ (t % 2 = 1 → b0 ≤ s.b ∧ s.sz ≤ arr.size ∧ ∀ off, off < arr.size → W.frozen? ⟨s.b, off, none⟩ = false) ∧ (t % 2 = 0 → s.b < b0)
  | .map es => ∃ s, ρ t = some s ∧ ∃ arr clock, W.heap[s.b]? = some (.map arr clock) ∧ arr.size = es.length ∧
      (∀ i, i < es.length → VR ρ (es.getD i (undef, undef)).1 (arr.getD i default).key ∧ VR ρ (es.getD i (undef, undef)).2 (arr.getD i default).val) ∧ (t % 2 = 1 ∧ b0 ≤ s.b)
structure Rel (b0 : Nat) (ρ : Ren) (H : AH) (W : World) : Prop where
  tok : ∀ t o, H t = some o → TokRel b0 ρ W t o
  inj : ∀ t t' s s', t % 2 = 1 → t' % 2 = 1 → H t ≠ none → H t' ≠ none → ρ t = some s → ρ t' = some s' → s.b = s'.b → t = t'
  le : b0 ≤ W.heap.size
theorem TokRel.mono {b0 : Nat} {ρ ρ' : Ren} {W W' : World} {t : Nat} {o : AObj} (hρ : ∀ t s, ρ t = some s → ρ' t = some s) (h : TokRel b0 ρ W t o) (hW : ∀ s, ρ t = some s → W'.heap[s.b]? = W.heap[s.b]?) : TokRel b0 ρ' W' t o := by
  cases o with
  | cells es cs =>
    obtain ⟨s, hs, he, arr, ty, fr, ha, hl, hv, hw, hev⟩ := h
    have hb := hW s hs
    refine ⟨s, hρ _ _ hs, he, arr, ty, fr, hb.trans ha, hl, fun i hi => (hv i hi).mono hρ, fun ht => ?_, hev⟩
    obtain ⟨h1, h2, h3⟩ := hw ht
    refine ⟨h1, h2, fun off ho => ?_⟩
    have := h3 off ho
    simpa [World.frozen?, hb] using this
  | map es =>
    obtain ⟨s, hs, arr, clock, ha, hl, hv, ho, hb0⟩ := h
    exact ⟨s, hρ _ _ hs, arr, clock, (hW s hs).trans ha, hl, fun i hi => ⟨(hv i hi).1.mono hρ, (hv i hi).2.mono hρ⟩, ho, hb0⟩
theorem TokRel.slot {b0 : Nat} {ρ : Ren} {W : World} {t : Nat} {o : AObj} (h : TokRel b0 ρ W t o) : ∃ s, ρ t = some s ∧ s.b < W.heap.size ∧ (t % 2 = 1 → b0 ≤ s.b) ∧ (t % 2 = 0 → s.b < b0) := by
  cases o with
  | cells es cs =>
    obtain ⟨s, hs, _, arr, ty, fr, ha, _, _, hw, hev⟩ := h
    exact ⟨s, hs, (Array.getElem?_eq_some_iff.1 ha).1, fun ht => (hw ht).1, hev⟩
  | map es =>
    obtain ⟨s, hs, arr, clock, ha, _, _, ho, hb0⟩ := h
    exact ⟨s, hs, (Array.getElem?_eq_some_iff.1 ha).1, fun _ => hb0, fun h0 => by omega⟩
def Own (ρ : Ren) (H : AH) (b : Nat) : Prop := ∃ t s, t % 2 = 1 ∧ H t ≠ none ∧ ρ t = some s ∧ s.b = b
def Same (W W' : World) : Prop := W'.os = W.os ∧ W'.tape = W.tape ∧ W'.output = W.output
/-- One step: what it may have changed. -/
structure Stp (b0 p : Nat) (ρ : Ren) (H : AH) (W : World) (ρ' : Ren) (H' : AH) (W' : World) : Prop where
  ext : Ext p ρ ρ'
  rel : Rel b0 ρ' H' W'
  size : W.heap.size ≤ W'.heap.size
  frame : ∀ b, b < W.heap.size → ¬ Own ρ H b → W'.heap[b]? = W.heap[b]?
  own : ∀ b, Own ρ' H' b → Own ρ H b ∨ W.heap.size ≤ b
  dom : ∀ t, H' t ≠ none → H t ≠ none ∨ Under p t
  same : Same W W'
theorem Stp.refl {b0 p : Nat} {ρ : Ren} {H : AH} {W : World} (h : Rel b0 ρ H W) : Stp b0 p ρ H W ρ H W := ⟨.refl _ _, h, Nat.le_refl _, fun _ _ _ => rfl, fun _ h => .inl h, fun _ h => .inl h, ⟨rfl, rfl, rfl⟩⟩
theorem Stp.trans {b0 p : Nat} {ρ ρ1 ρ2 : Ren} {H H1 H2 : AH} {W W1 W2 : World} (h : Stp b0 p ρ H W ρ1 H1 W1) (h2 : Stp b0 p ρ1 H1 W1 ρ2 H2 W2) : Stp b0 p ρ H W ρ2 H2 W2 :=
  ⟨h.ext.trans h2.ext, h2.rel, Nat.le_trans h.size h2.size,
    fun b hb hn => (h2.frame b (Nat.lt_of_lt_of_le hb h.size) (fun ho => (h.own b ho).elim hn (fun hge => by omega))).trans (h.frame b hb hn),
    fun b ho => (h2.own b ho).elim (h.own b) (fun hge => .inr (Nat.le_trans h.size hge)),
    fun t ht => (h2.dom t ht).elim (h.dom t) .inr, h2.same.1.trans h.same.1, h2.same.2.1.trans h.same.2.1, h2.same.2.2.trans h.same.2.2⟩
theorem Stp.wide {b0 p q : Nat} {ρ ρ1 : Ren} {H H1 : AH} {W W1 : World} (h : Stp b0 p ρ H W ρ1 H1 W1) (hq : ∀ t, Under p t → Under q t) : Stp b0 q ρ H W ρ1 H1 W1 := ⟨h.ext.wide hq, h.rel, h.size, h.frame, h.own, fun t ht => (h.dom t ht).imp id (hq t), h.same⟩
/-- A world that differs in what no cell tells. -/
theorem Rel.world {b0 : Nat} {ρ : Ren} {H : AH} {W W' : World} (h : Rel b0 ρ H W) (he : W'.heap = W.heap) : Rel b0 ρ H W' :=
  ⟨fun t o ht => (h.tok t o ht).mono (fun _ _ e => e) (fun s _ => by rw [he]), h.inj, by rw [he]; exact h.le⟩
theorem Stp.world {b0 p : Nat} {ρ : Ren} {H : AH} {W W' : World} (h : Rel b0 ρ H W) (he : W'.heap = W.heap) (hsm : Same W W' := by exact ⟨rfl, rfl, rfl⟩) : Stp b0 p ρ H W ρ H W' :=
  ⟨.refl _ _, h.world he, by rw [he]; exact Nat.le_refl _, fun _ _ _ => by rw [he], fun _ h => .inl h, fun _ h => .inl h, hsm⟩
/-- Nothing but a new block of one's own. -/
theorem Stp.new {b0 p t : Nat} {ρ : Ren} {H : AH} {W W' : World} {cs : List Value} {arr : Array Value} {ty : TypeId} {fr : Nat × Nat} {es sz : Nat} (h : Rel b0 ρ H W) (hf : ∀ t, Under p t → ρ t = none) (hp : p % 2 = 1) (ht : t = child p 0)
    (hW : W'.heap = W.heap.push (.cells arr ty fr)) (hc : cs.length ≤ arr.size) (hv : ∀ i, i < cs.length → VR ρ (cs.getD i undef) (arr.getD i undef)) (hsz : sz ≤ arr.size) (hfr : ∀ off, off < arr.size → ¬ (fr.1 ≤ off ∧ off < fr.2)) (hsm : Same W W' := by exact ⟨rfl, rfl, rfl⟩) :
    Stp b0 p ρ H W (fun u => if u = t then some ⟨W.heap.size, 0, sz, es⟩ else ρ u) (H.upd t (some (.cells es cs))) W' := by
  have hu : Under p t := by rw [ht]; exact .step 0 .refl
  have hn : ρ t = none := hf t hu
  have hρ : ∀ u s, ρ u = some s → (fun u => if u = t then some (⟨W.heap.size, 0, sz, es⟩ : Slot) else ρ u) u = some s := by
    intro u s e
    have : u ≠ t := fun he => by rw [he, hn] at e; cases e
    simp only [if_neg this]
    exact e
  have hold : ∀ b, b < W.heap.size → W'.heap[b]? = W.heap[b]? := fun b hb => by
    rw [hW, Array.getElem?_push_lt hb, Array.getElem?_eq_getElem hb]
  have hnew : W'.heap[W.heap.size]? = some (.cells arr ty fr) := by rw [hW]; simp
  refine ⟨⟨hρ, fun u he => ?_⟩, ⟨fun u o ho => ?_, ?_, ?_⟩, ?_, fun b hb _ => hold b hb, ?_, fun u hu2 => ?_, hsm⟩
  · by_cases hut : u = t
    · exact .inr (hut ▸ hu)
    · simp only [if_neg hut] at he
      exact .inl he
  · unfold AH.upd at ho
    by_cases hut : u = t
    · rw [if_pos hut] at ho
      obtain rfl := Option.some.inj ho
      subst hut
      refine ⟨⟨W.heap.size, 0, sz, es⟩, by simp, rfl, arr, ty, fr, hnew, by simpa using hc, fun i hi => ?_, fun _ => ⟨h.le, hsz, fun off ho => ?_⟩, fun h0 => ?_⟩
      · simpa using (hv i hi).mono hρ
      · simp only [World.frozen?, hnew]
        have := hfr off ho
        simp only [Bool.and_eq_false_iff, decide_eq_false_iff_not]
        omega
      · rw [ht] at h0
        have := child_odd p 0
        omega
    · rw [if_neg hut] at ho
      have h1 := h.tok u o ho
      obtain ⟨s0, hs0, hlt, _⟩ := h1.slot
      exact h1.mono hρ (fun s hs => hold s.b (by rw [hs] at hs0; cases hs0; exact hlt))
  · intro u u' s s' h1 h2 h3 h4 h5 h6 h7
    unfold AH.upd at h3 h4
    by_cases hut : u = t <;> by_cases hut' : u' = t
    · rw [hut, hut']
    · simp only [if_pos hut, Option.some.injEq] at h5
      rw [if_neg hut'] at h4
      simp only [if_neg hut'] at h6
      obtain ⟨o', ho'⟩ := Option.ne_none_iff_exists'.1 h4
      obtain ⟨s0, hs0, hlt, _⟩ := (h.tok u' o' ho').slot
      rw [hs0] at h6
      cases h6
      rw [← h5] at h7
      simp at h7
      omega
    · simp only [if_pos hut', Option.some.injEq] at h6
      rw [if_neg hut] at h3
      simp only [if_neg hut] at h5
      obtain ⟨o', ho'⟩ := Option.ne_none_iff_exists'.1 h3
      obtain ⟨s0, hs0, hlt, _⟩ := (h.tok u o' ho').slot
      rw [hs0] at h5
      cases h5
      rw [← h6] at h7
      simp at h7
      omega
    · rw [if_neg hut] at h3
      rw [if_neg hut'] at h4
      simp only [if_neg hut] at h5
      simp only [if_neg hut'] at h6
      exact h.inj u u' s s' h1 h2 h3 h4 h5 h6 h7
  · rw [hW]
    have := h.le
    simp
    omega
  · rw [hW]
    simp
  · rintro b ⟨u, s, h1, h2, h3, h4⟩
    unfold AH.upd at h2
    by_cases hut : u = t
    · simp only [if_pos hut, Option.some.injEq] at h3
      right
      rw [← h3] at h4
      simp at h4
      omega
    · rw [if_neg hut] at h2
      simp only [if_neg hut] at h3
      exact .inl ⟨u, s, h1, h2, h3, h4⟩
  · unfold AH.upd at hu2
    by_cases hut : u = t
    · exact .inr (hut ▸ hu)
    · rw [if_neg hut] at hu2
      exact .inl hu2
end Go.Proofs.Ythdnjihmjdbdkaa.AE
