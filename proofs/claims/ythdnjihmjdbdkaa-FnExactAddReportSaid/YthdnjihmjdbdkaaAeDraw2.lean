/- The abstract evaluator at a row of operations that come in an order not told: its trace and its law. Conditions: none. -/
import Derived.Test.YthdnjihmjdbdkaaAeDraw
namespace Go.Proofs.Ythdnjihmjdbdkaa.AE
open Go Go.RowKit
set_option linter.unusedVariables false
set_option linter.unusedSimpArgs false

inductive Cls | free | look | chain
  deriving DecidableEq
/-- What an operation asks of the heap: nothing, the cells that stood at the start, or its turn. -/
def cls (P : Program) : Op → Cls
  | .load .. => .look
  | .lookup .. => .look
  | .slice .. => .look
  | .store .. => .chain
  | .mapUpdate .. => .chain
  | .convert s _ _ => (match P.underlying s with | some (.slice _) => .look | _ => .free)
  | .call c => (match c.callee with | .builtin .len => .look | .builtin .max => .free | .builtin .min => .free | _ => .chain)
  | _ => .free
def binds (o : Oper) : List Nat := (o.after.toList.filter (Region.binds .any)).map (·.on)
/-- The operations before each. -/
def befs : List Oper → List (List Nat) → List (List Nat)
  | [], acc => acc
  | o :: r, acc => befs r (acc ++ [(binds o).foldl (fun s k => (k :: acc.getD k []).foldl (fun s x => if s.contains x then s else x :: s) s) []])
def okD (P : Program) (ops : Array Oper) (B : List (List Nat)) : Bool :=
  (List.range ops.size).all fun i => match ops[i]? with
    | none => true
    | some o =>
      (binds o).all (fun k => decide (k < i)) &&
      (B.getD i []).all (fun x => (binds o).any fun k => k == x || (B.getD k []).contains x) &&
      (o.dst.isNone || (List.range i).all fun j => !((ops[j]?).bind (·.dst) == o.dst)) &&
      (o.looksAt ops).all (fun t => (List.range ops.size).all fun j => !((ops[j]?).bind (·.dst) == some t) || (B.getD i []).contains j) &&
      (!(cls P o.op == .chain) || (List.range i).all fun j => !(((ops[j]?).map fun q => cls P q.op) == some .chain) || (B.getD i []).contains j)
structure DSt where
  E : Nat → Value
  C : AH
  al : List (Nat × AObj)
  fl : List Nat
def lay (π c : Nat) (cond : Nat → Bool) : List (Nat × AObj) → AH → AH
  | [], C => C
  | x :: r, C => if cond x.1 then (lay π c cond r C).upd (tokOf (child π (c + x.1))) (some x.2) else lay π c cond r C
def Quiet (base h : AH) : Prop := ∀ t, base t ≠ none → h t = base t
def allLook (P : Program) (ops : Array Oper) (l : List Nat) : Bool := (List.range ops.size).all fun j => !(((ops[j]?).map fun q => cls P q.op) == some .look) || l.contains j
section
variable (call : CallT) (P : Program) (π c : Nat) (ops : Array Oper) (B : List (List Nat)) (base : AH)
open Classical in
noncomputable def dstep (i : Nat) (o : Oper) (s : DSt) : Option DSt :=
  if awant ops s.E o then
    match cls P o.op with
    | .free => (aexec call P (child π (c + i)) s.E (fun _ => none) o).map fun r => ⟨putE s.E o.dst r.1, s.C, (match r.2 (tokOf (child π (c + i))) with | some x => s.al ++ [(i, x)] | none => s.al), s.fl⟩
    | .look => (match aexec call P (child π (c + i)) s.E base o with | some r => if Quiet base r.2 then some ⟨putE s.E o.dst r.1, s.C, s.al, s.fl⟩ else none | none => none)
    | .chain =>
      match aexec call P (child π (c + i)) s.E (lay π c (fun a => (B.getD i []).contains a && !s.fl.contains a) s.al s.C) o with
      | some r => if allLook P ops (B.getD i []) = true ∨ Quiet base r.2 then some ⟨putE s.E o.dst r.1, r.2, s.al, B.getD i [] ++ s.fl⟩ else none
      | none => none
  else some ⟨putE s.E o.dst undef, s.C, s.al, s.fl⟩
noncomputable def dseq : List Oper → Nat → DSt → Option DSt
  | [], _, s => some s
  | o :: r, i, s => (dstep call P π c ops B base i o s).bind (dseq r (i + 1))
noncomputable def adraw (s : St) : Option St :=
  let B := befs ops.toList []
  if okD P ops B then (dseq call P π s.c ops B s.h ops.toList 0 ⟨s.E, s.h, [], []⟩).map fun d => ⟨d.E, lay π s.c (fun a => !d.fl.contains a) d.al d.C, s.c + ops.size⟩ else none
theorem dseq_trace : ∀ (l : List Oper) (i : Nat) (s s' : DSt), dseq call P π c ops B base l i s = some s' →
    ∃ T : Nat → DSt, T i = s ∧ T (i + l.length) = s' ∧ ∀ j o, l[j]? = some o → dstep call P π c ops B base (i + j) o (T (i + j)) = some (T (i + j + 1))
  | [], i, s, s', h => ⟨fun _ => s, rfl, by simpa [dseq] using h, fun j o hj => by simp at hj⟩
  | o :: r, i, s, s', h => by
    simp only [dseq] at h
    obtain ⟨s1, h1, h2⟩ := Option.bind_eq_some_iff.1 h
    obtain ⟨T, t1, t2, t3⟩ := dseq_trace r (i + 1) s1 s' h2
    refine ⟨fun k => if k = i then s else T k, by simp, ?_, fun j q hj => ?_⟩
    · have : ¬ (i + (o :: r).length = i) := by simp
      simp only [if_neg this]
      rw [← t2]
      congr 1
      simp
      omega
    · cases j with
      | zero =>
        obtain rfl : o = q := by simpa using hj
        simp only [Nat.add_zero, if_true]
        rw [if_neg (by omega), t1]
        exact h1
      | succ j =>
        simp only []
        rw [if_neg (by omega), if_neg (by omega)]
        have := t3 j q (by simpa using hj)
        rw [show i + (j + 1) = i + 1 + j by omega]
        exact this
end
theorem lay_some {π c : Nat} {cond : Nat → Bool} {C : AH} {t : Nat} {o : AObj} : ∀ {al : List (Nat × AObj)}, lay π c cond al C t = some o → (∃ x ∈ al, cond x.1 = true ∧ t = tokOf (child π (c + x.1)) ∧ x.2 = o) ∨ C t = some o
  | [], h => .inr h
  | x :: r, h => by
    simp only [lay] at h
    split at h
    · rename_i hc
      unfold AH.upd at h
      split at h
      · rename_i ht
        exact .inl ⟨x, by simp, hc, ht, Option.some.inj h⟩
      · exact (lay_some h).imp (fun ⟨y, hy, hr⟩ => ⟨y, by simp [hy], hr⟩) id
    · exact (lay_some h).imp (fun ⟨y, hy, hr⟩ => ⟨y, by simp [hy], hr⟩) id

/-- What the check says. -/
structure OkD (P : Program) (ops : Array Oper) (B : List (List Nat)) : Prop where
  back : ∀ i o, ops[i]? = some o → ∀ e ∈ o.after, Region.binds .any e = true → e.on < i
  bef : ∀ i o, ops[i]? = some o → ∀ x, (B.getD i []).contains x = true → ∃ e ∈ o.after, Region.binds .any e = true ∧ (e.on = x ∨ (B.getD e.on []).contains x = true)
  dst : ∀ (i j : Nat) (o q : Oper) d, ops[i]? = some o → ops[j]? = some q → o.dst = some d → q.dst = some d → i = j
  reads : ∀ i o, ops[i]? = some o → ∀ t ∈ o.looksAt ops, ∀ j q, ops[j]? = some q → q.dst = some t → (B.getD i []).contains j = true
  chain : ∀ i o, ops[i]? = some o → cls P o.op = .chain → ∀ j q, j < i → ops[j]? = some q → cls P q.op = .chain → (B.getD i []).contains j = true
theorem okD_spec {P : Program} {ops : Array Oper} {B : List (List Nat)} (h : okD P ops B = true) : OkD P ops B := by
  unfold okD at h
  rw [List.all_eq_true] at h
  have hi : ∀ i o, ops[i]? = some o → i < ops.size := fun i o ho => (Array.getElem?_eq_some_iff.1 ho).1
  have hmem : ∀ (o : Oper) (e : Edge), e ∈ o.after → Region.binds .any e = true → e.on ∈ binds o := fun o e he hb =>
    List.mem_map.2 ⟨e, List.mem_filter.2 ⟨by simpa using he, hb⟩, rfl⟩
  have key : ∀ i o, ops[i]? = some o → _ := fun i o ho => h i (List.mem_range.2 (hi i o ho))
  have dlt : ∀ (i j : Nat) (o q : Oper) d, ops[i]? = some o → ops[j]? = some q → o.dst = some d → q.dst = some d → j < i → False := by
    intro i j o q d ho hq hd hd' hlt
    have h1 := key i o ho
    simp only [ho, Bool.and_eq_true] at h1
    have h2 := h1.1.1.2
    simp only [Bool.or_eq_true, hd, Option.isNone_some, Bool.false_eq_true, false_or, List.all_eq_true, List.mem_range] at h2
    have h3 := h2 j hlt
    simp [hq, hd'] at h3
  refine ⟨fun i o ho e he hb => ?_, fun i o ho x hx => ?_, fun i j o q d ho hq hd hd' => ?_, fun i o ho t ht j q hq hd => ?_, fun i o ho hc j q hlt hq hc' => ?_⟩
  · have h1 := key i o ho
    simp only [ho, Bool.and_eq_true] at h1
    have := List.all_eq_true.1 h1.1.1.1.1 _ (hmem o e he hb)
    simpa using this
  · have h1 := key i o ho
    simp only [ho, Bool.and_eq_true] at h1
    have := List.all_eq_true.1 h1.1.1.1.2 x (by simpa using hx)
    obtain ⟨k, hk, hk2⟩ := List.any_eq_true.1 this
    obtain ⟨e, he, rfl⟩ := List.mem_map.1 hk
    obtain ⟨he1, he2⟩ := List.mem_filter.1 he
    refine ⟨e, by simpa using he1, he2, ?_⟩
    simpa using hk2
  · rcases Nat.lt_trichotomy i j with hlt | he | hlt
    · exact (dlt j i q o d hq ho hd' hd hlt).elim
    · exact he
    · exact (dlt i j o q d ho hq hd hd' hlt).elim
  · have h1 := key i o ho
    simp only [ho, Bool.and_eq_true] at h1
    have := List.all_eq_true.1 h1.1.2 t ht
    have := List.all_eq_true.1 this j (List.mem_range.2 (hi j q hq))
    simpa [hq, hd] using this
  · have h1 := key i o ho
    simp only [ho, Bool.and_eq_true] at h1
    have := h1.2
    simp only [hc, beq_self_eq_true, Bool.not_true, Bool.false_or] at this
    have := List.all_eq_true.1 this j (List.mem_range.2 hlt)
    simpa [hq, hc'] using this
end Go.Proofs.Ythdnjihmjdbdkaa.AE
