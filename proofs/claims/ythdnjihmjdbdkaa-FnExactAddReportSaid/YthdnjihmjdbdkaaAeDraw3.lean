/- The law of a row of operations in whatever order. Conditions: none. -/
import Derived.Test.YthdnjihmjdbdkaaAeDraw2
namespace Go.Proofs.Ythdnjihmjdbdkaa.AE
open Go Go.RowKit
set_option linter.unusedVariables false
set_option linter.unusedSimpArgs false

/-- A trace of the evaluator. -/
structure Trace (call : CallT) (P : Program) (π c : Nat) (ops : Array Oper) (B : List (List Nat)) (base : AH) (T : Nat → DSt) : Prop where
  ok : OkD P ops B
  step : ∀ i o, ops[i]? = some o → dstep call P π c ops B base i o (T i) = some (T (i + 1))
  C0 : (T 0).C = base
  al0 : (T 0).al = []
  fl0 : (T 0).fl = []
section
variable {call : CallT} {P : Program} {π c : Nat} {ops : Array Oper} {B : List (List Nat)} {base : AH} {T : Nat → DSt}
theorem get_of_lt {i : Nat} (h : i < ops.size) : ∃ o, ops[i]? = some o := ⟨ops[i], Array.getElem?_eq_getElem h⟩
theorem lt_of_get {i : Nat} {o : Oper} (h : ops[i]? = some o) : i < ops.size := (Array.getElem?_eq_some_iff.1 h).1
/-- One step of the trace, by its kind. -/
inductive Kind (call : CallT) (P : Program) (π c : Nat) (ops : Array Oper) (B : List (List Nat)) (base : AH) (i : Nat) (o : Oper) (s s' : DSt) : Prop
  | off (h : awant ops s.E o = false) (hE : s'.E = putE s.E o.dst undef) (hC : s'.C = s.C) (hal : s'.al = s.al) (hfl : s'.fl = s.fl)
  | free (h : awant ops s.E o = true) (hc : cls P o.op = .free) (v : Value) (h' : AH) (hx : aexec call P (child π (c + i)) s.E (fun _ => none) o = some (v, h')) (hE : s'.E = putE s.E o.dst v) (hC : s'.C = s.C)
      (hal : s'.al = (match h' (tokOf (child π (c + i))) with | some x => s.al ++ [(i, x)] | none => s.al)) (hfl : s'.fl = s.fl)
  | look (h : awant ops s.E o = true) (hc : cls P o.op = .look) (v : Value) (h' : AH) (hx : aexec call P (child π (c + i)) s.E base o = some (v, h')) (hq : Quiet base h') (hE : s'.E = putE s.E o.dst v) (hC : s'.C = s.C) (hal : s'.al = s.al) (hfl : s'.fl = s.fl)
  | chain (h : awant ops s.E o = true) (hc : cls P o.op = .chain) (v : Value) (h' : AH) (hx : aexec call P (child π (c + i)) s.E (lay π c (fun a => (B.getD i []).contains a && !s.fl.contains a) s.al s.C) o = some (v, h'))
      (hq : allLook P ops (B.getD i []) = true ∨ Quiet base h') (hE : s'.E = putE s.E o.dst v) (hC : s'.C = h') (hal : s'.al = s.al) (hfl : s'.fl = B.getD i [] ++ s.fl)
theorem dstep_kind {i : Nat} {o : Oper} {s s' : DSt} (h : dstep call P π c ops B base i o s = some s') : Kind call P π c ops B base i o s s' := by
  unfold dstep at h
  split at h
  · rename_i hw
    split at h
    · rename_i hc
      obtain ⟨⟨v, h'⟩, hx, rfl⟩ := Option.map_eq_some_iff.1 h
      exact .free hw hc v h' hx rfl rfl rfl rfl
    · rename_i hc
      split at h
      · rename_i r hx
        split at h
        · rename_i hq
          obtain rfl := Option.some.inj h
          exact .look hw hc r.1 r.2 hx hq rfl rfl rfl rfl
        · cases h
      · cases h
    · rename_i hc
      split at h
      · rename_i r hx
        split at h
        · rename_i hq
          obtain rfl := Option.some.inj h
          exact .chain hw hc r.1 r.2 hx hq rfl rfl rfl rfl
        · cases h
      · cases h
  · rename_i hw
    obtain rfl := Option.some.inj h
    exact .off (by simpa using hw) rfl rfl rfl rfl
theorem Trace.kind (hT : Trace call P π c ops B base T) {i : Nat} {o : Oper} (ho : ops[i]? = some o) : Kind call P π c ops B base i o (T i) (T (i + 1)) := dstep_kind (hT.step i o ho)
theorem Kind.E {i : Nat} {o : Oper} {s s' : DSt} (h : Kind call P π c ops B base i o s s') : ∃ v, s'.E = putE s.E o.dst v := by
  cases h with
  | off h hE => exact ⟨_, hE⟩
  | free h hc v h' hx hE => exact ⟨_, hE⟩
  | look h hc v h' hx hq hE => exact ⟨_, hE⟩
  | chain h hc v h' hx hq hE => exact ⟨_, hE⟩
theorem putE_ne {E : Nat → Value} {dst : Option Tmp} {v : Value} {t : Nat} (h : dst ≠ some t) : putE E dst v t = E t := by
  cases dst with
  | none => rfl
  | some d => simp only [putE]; rw [if_neg (fun e => h (by rw [e]))]
theorem Trace.E_keep (hT : Trace call P π c ops B base T) {t : Nat} : ∀ (k i : Nat), i + k ≤ ops.size → (∀ j o, i ≤ j → j < i + k → ops[j]? = some o → o.dst ≠ some t) → (T (i + k)).E t = (T i).E t
  | 0, i, _, _ => rfl
  | k + 1, i, hk, h => by
    obtain ⟨o, ho⟩ := get_of_lt (ops := ops) (i := i + k) (by omega)
    obtain ⟨v, hv⟩ := (hT.kind ho).E
    rw [show i + (k + 1) = i + k + 1 by omega, hv, putE_ne (h (i + k) o (by omega) (by omega) ho)]
    exact hT.E_keep k i (by omega) (fun j o h1 h2 h3 => h j o h1 (by omega) h3)
/-- A thing that the evaluator has made. -/
def Made (call : CallT) (P : Program) (π c : Nat) (ops : Array Oper) (T : Nat → DSt) (a : Nat) (x : AObj) : Prop :=
  ∃ o, ops[a]? = some o ∧ awant ops (T a).E o = true ∧ cls P o.op = .free ∧ ∃ r, aexec call P (child π (c + a)) (T a).E (fun _ => none) o = some r ∧ r.2 (tokOf (child π (c + a))) = some x
theorem Trace.al (hT : Trace call P π c ops B base T) : ∀ i, i ≤ ops.size → ∀ x, x ∈ (T i).al → x.1 < i ∧ Made call P π c ops T x.1 x.2
  | 0, _, x, h => by rw [hT.al0] at h; cases h
  | i + 1, hi, x, h => by
    obtain ⟨o, ho⟩ := get_of_lt (ops := ops) (i := i) (by omega)
    have ih := hT.al i (by omega) x
    have old : x ∈ (T i).al → x.1 < i + 1 ∧ Made call P π c ops T x.1 x.2 := fun h => ⟨by have := (ih h).1; omega, (ih h).2⟩
    cases hT.kind ho with
    | off _ _ _ hal => exact old (hal ▸ h)
    | look _ _ _ _ _ _ _ _ hal => exact old (hal ▸ h)
    | chain _ _ _ _ _ _ _ _ hal => exact old (hal ▸ h)
    | free hw hc v h' hx _ _ hal =>
      rw [hal] at h
      split at h
      · rename_i y hy
        rcases List.mem_append.1 h with h1 | h1
        · exact old h1
        · obtain rfl : x = (i, y) := by simpa using h1
          exact ⟨Nat.lt_succ_self i, o, ho, hw, hc, _, hx, hy⟩
      · exact old h
theorem Trace.C_keep (hT : Trace call P π c ops B base T) : ∀ (k i : Nat), i + k ≤ ops.size → (∀ j o, i ≤ j → j < i + k → ops[j]? = some o → cls P o.op ≠ .chain) → (T (i + k)).C = (T i).C ∧ (T (i + k)).fl = (T i).fl
  | 0, i, _, _ => ⟨rfl, rfl⟩
  | k + 1, i, hk, h => by
    obtain ⟨o, ho⟩ := get_of_lt (ops := ops) (i := i + k) (by omega)
    have ih := hT.C_keep k i (by omega) (fun j o h1 h2 h3 => h j o h1 (by omega) h3)
    have hn := h (i + k) o (by omega) (by omega) ho
    rw [show i + (k + 1) = i + k + 1 by omega]
    cases hT.kind ho with
    | off _ _ hC _ hfl => rw [hC, hfl]; exact ih
    | look _ _ _ _ _ _ _ hC _ hfl => rw [hC, hfl]; exact ih
    | chain _ hc => exact (hn hc).elim
    | free _ _ _ _ _ _ hC _ hfl => rw [hC, hfl]; exact ih
theorem Made.fn {a : Nat} {x y : AObj} (h : Made call P π c ops T a x) (h2 : Made call P π c ops T a y) : x = y := by
  obtain ⟨o, ho, _, _, r, hr, hx⟩ := h
  obtain ⟨o', ho', _, _, r', hr', hy⟩ := h2
  obtain rfl : o = o' := Option.some.inj (ho.symm.trans ho')
  obtain rfl : r = r' := Option.some.inj (hr.symm.trans hr')
  exact Option.some.inj (hx.symm.trans hy)
end
theorem tokOf_under (p : Nat) : Under p (tokOf p) := .step 0 .refl
theorem tok_inj {π c a b t : Nat} (h : Under (child π (c + a)) t) (h2 : Under (child π (c + b)) t) : a = b := by
  have := Under.apart h h2
  omega
/-- What is listed holds what it needs. -/
theorem bef_listed {P : Program} {ops : Array Oper} {B : List (List Nat)} (ok : OkD P ops B) {listed : Array Bool} (hsz : listed.size = ops.size)
    (hcl : ∀ j oj, ops[j]? = some oj → listed.getD j false = true → ∀ e ∈ oj.after, Region.binds .any e = true → listed.getD e.on false = true) :
    ∀ (n i : Nat), i < n → ∀ o, ops[i]? = some o → (∀ e ∈ o.after, Region.binds .any e = true → listed.getD e.on false = true) → ∀ x, (B.getD i []).contains x = true → listed.getD x false = true
  | 0, i, h, _, _, _, _, _ => by omega
  | n + 1, i, h, o, ho, he, x, hx => by
    obtain ⟨e, h1, h2, h3⟩ := ok.bef i o ho x hx
    rcases h3 with rfl | h3
    · exact he e h1 h2
    · have hl := he e h1 h2
      have hb := ok.back i o ho e h1 h2
      have : i < ops.size := lt_of_get ho
      obtain ⟨o', ho'⟩ := get_of_lt (ops := ops) (i := e.on) (by omega)
      exact bef_listed ok hsz hcl n e.on (by omega) o' ho' (hcl e.on o' ho' hl) x h3
def LD (ops : Array Oper) (listed : Array Bool) (t : Nat) : Prop := ∃ i o, ops[i]? = some o ∧ o.dst = some t ∧ listed.getD i false = true
open Classical in
noncomputable def envOf (ops : Array Oper) (listed : Array Bool) (E0 En : Nat → Value) : Nat → Value := fun t => if LD ops listed t then En t else E0 t
structure DInv (call : CallT) (P : Program) (b0 π c : Nat) (ops : Array Oper) (B : List (List Nat)) (base : AH) (T : Nat → DSt) (ρ0 : Ren) (W0 : World) (N : Nat) (ρ : Ren) (Hall : AH) (m : Nat) (listed : Array Bool) (a : Act) (W : World) : Prop where
  size : listed.size = ops.size
  closed : ∀ j oj, ops[j]? = some oj → listed.getD j false = true → ∀ e ∈ oj.after, Region.binds .any e = true → listed.getD e.on false = true
  env : EnvR ρ (envOf ops listed (T 0).E (T ops.size).E) a
  stp : Stp b0 π ρ0 base W0 ρ Hall W
  chain : m ≤ ops.size ∧ ∀ i o, ops[i]? = some o → cls P o.op = .chain → (listed.getD i false = true ↔ i < m)
  sub : ∀ t o, (T m).C t = some o → Hall t = some o
  pend : ∀ i x, Made call P π c ops T i x → listed.getD i false = true → (T m).fl.contains i = false → Hall (tokOf (child π (c + i))) = some x
  dis : ∀ i o, ops[i]? = some o → cls P o.op = .free → (T m).fl.contains i = false → (T m).C (tokOf (child π (c + i))) = none
  base : (∃ i o, ops[i]? = some o ∧ cls P o.op = .look ∧ listed.getD i false = false) → ∀ t o, base t = some o → Hall t = some o
  fresh : ∀ i, listed.getD i false = false → ∀ t, Under (child π (c + i)) t → ρ t = none
  defers : a.defers = []
  tmps : N ≤ a.tmps.size
section
variable {call : CallT} {P : Program} {b0 π c N m : Nat} {ops : Array Oper} {B : List (List Nat)} {base Hall : AH} {T : Nat → DSt} {ρ0 ρ : Ren} {W0 W : World} {listed : Array Bool} {a : Act}
theorem getD_set_self {listed : Array Bool} {i : Nat} (h : i < listed.size) : (listed.setIfInBounds i true).getD i false = true := by
  simp [h]
theorem getD_set_ne' {listed : Array Bool} {i j : Nat} (h : i ≠ j) : (listed.setIfInBounds i true).getD j false = listed.getD j false := getD_set_ne false h
/-- What the state at any order knows of the temporaries that an operation looks at. -/
theorem envOf_agree (hT : Trace call P π c ops B base T) {i : Nat} {o : Oper} (ho : ops[i]? = some o) (hb : ∀ x, (B.getD i []).contains x = true → listed.getD x false = true) (hlt : ∀ x, (B.getD i []).contains x = true → x < i) :
    ∀ t ∈ o.looksAt ops, envOf ops listed (T 0).E (T ops.size).E t = (T i).E t := by
  intro t ht
  have hi := lt_of_get ho
  by_cases h : ∃ (j : Nat) (q : Oper), ops[j]? = some q ∧ q.dst = some t
  · obtain ⟨j, q, hq, hd⟩ := h
    have hj := hT.ok.reads i o ho t ht j q hq hd
    have hl : LD ops listed t := ⟨j, q, hq, hd, hb j hj⟩
    have hji := hlt j hj
    have := hT.E_keep (t := t) (ops.size - i) i (by omega) (fun k q' h1 h2 h3 h4 => by
      have := hT.ok.dst j k q q' t hq h3 hd h4
      omega)
    simp only [envOf, if_pos hl]
    rw [← this]
    congr 2
    omega
  · have hl : ¬ LD ops listed t := fun ⟨j, q, hq, hd, _⟩ => h ⟨j, q, hq, hd⟩
    have := hT.E_keep (t := t) i 0 (by omega) (fun k q' h1 h2 h3 h4 => h ⟨k, q', h3, h4⟩)
    simp only [envOf, if_neg hl]
    rw [← this]
    congr 2
    omega
theorem bef_lt {P : Program} (ok : OkD P ops B) : ∀ (n i : Nat), i < n → ∀ o, ops[i]? = some o → ∀ x, (B.getD i []).contains x = true → x < i
  | 0, i, h, _, _, _, _ => by omega
  | n + 1, i, h, o, ho, x, hx => by
    obtain ⟨e, h1, h2, h3⟩ := ok.bef i o ho x hx
    have hb := ok.back i o ho e h1 h2
    rcases h3 with rfl | h3
    · exact hb
    · have : i < ops.size := lt_of_get ho
      obtain ⟨o', ho'⟩ := get_of_lt (ops := ops) (i := e.on) (by omega)
      have := bef_lt ok n e.on (by omega) o' ho' x h3
      omega
/-- What every kind of step owes. -/
theorem DInv.next (hT : Trace call P π c ops B base T) (hI : DInv call P b0 π c ops B base T ρ0 W0 N ρ Hall m listed a W) {i : Nat} {o : Oper} (ho : ops[i]? = some o) (hun : listed.getD i false = false)
    (hall : ∀ e ∈ o.after, Region.binds .any e = true → listed.getD e.on false = true) (hdst : ∀ d, o.dst = some d → d < N) {ρ' : Ren} {Hall' : AH} {W' : World} {v v' : Value} {m' : Nat}
    (hs : Stp b0 (child π (c + i)) ρ Hall W ρ' Hall' W') (hv : VR ρ' v v') (hE : (T (i + 1)).E = putE (T i).E o.dst v)
    (hchain : m' ≤ ops.size ∧ ∀ j q, ops[j]? = some q → cls P q.op = .chain → ((listed.setIfInBounds i true).getD j false = true ↔ j < m'))
    (hsub : ∀ t o, (T m').C t = some o → Hall' t = some o)
    (hpend : ∀ j x, Made call P π c ops T j x → (listed.setIfInBounds i true).getD j false = true → (T m').fl.contains j = false → Hall' (tokOf (child π (c + j))) = some x)
    (hdis : ∀ j q, ops[j]? = some q → cls P q.op = .free → (T m').fl.contains j = false → (T m').C (tokOf (child π (c + j))) = none)
    (hbase : (∃ j q, ops[j]? = some q ∧ cls P q.op = .look ∧ (listed.setIfInBounds i true).getD j false = false) → ∀ t o, base t = some o → Hall' t = some o) :
    DInv call P b0 π c ops B base T ρ0 W0 N ρ' Hall' m' (listed.setIfInBounds i true) (a.put o.dst v') W' := by
  have hi := lt_of_get ho
  have his : i < listed.size := by rw [hI.size]; exact hi
  refine ⟨by simp [hI.size], ?_, ?_, hI.stp.trans (hs.wide fun t ht => Under.child_of ht), hchain, hsub, hpend, hdis, hbase, ?_, by rw [put_defers]; exact hI.defers, by rw [put_size]; exact hI.tmps⟩
  · intro j oj hj hl e he hb
    by_cases hij : i = j
    · subst hij
      obtain rfl : o = oj := Option.some.inj (ho.symm.trans hj)
      exact getD_set_true (hall e he hb)
    · rw [getD_set_ne' hij] at hl
      exact getD_set_true (hI.closed j oj hj hl e he hb)
  · intro t
    by_cases hd : o.dst = some t
    · have hlt := Nat.lt_of_lt_of_le (hdst t hd) hI.tmps
      have hl : LD ops (listed.setIfInBounds i true) t := ⟨i, o, ho, hd, getD_set_self his⟩
      simp only [envOf, if_pos hl]
      have h1 := hT.E_keep (t := t) (ops.size - (i + 1)) (i + 1) (by omega) (fun k q' h1 h2 h3 h4 => by
        have := hT.ok.dst i k o q' t ho h3 hd h4
        omega)
      rw [show i + 1 + (ops.size - (i + 1)) = ops.size by omega] at h1
      rw [h1, hE, hd]
      simp only [putE, if_true, Act.put]
      simpa [Array.getD_eq_getD_getElem?, hlt] using hv
    · have hl : LD ops (listed.setIfInBounds i true) t ↔ LD ops listed t := by
        constructor
        · rintro ⟨j, q, hq, hqd, hjl⟩
          have hne : i ≠ j := by
            rintro rfl
            obtain rfl : o = q := Option.some.inj (ho.symm.trans hq)
            exact hd hqd
          exact ⟨j, q, hq, hqd, by rwa [getD_set_ne' hne] at hjl⟩
        · rintro ⟨j, q, hq, hqd, hjl⟩
          exact ⟨j, q, hq, hqd, getD_set_true hjl⟩
      have h1 := (hI.env t).mono hs.ext.1
      have h2 : (a.put o.dst v').tmps.getD t undef = a.tmps.getD t undef := by
        cases hod : o.dst with
        | none => rfl
        | some d =>
          have : d ≠ t := fun e => hd (by rw [hod, e])
          simp [Act.put, Array.getD_eq_getD_getElem?, Array.getElem?_setIfInBounds_ne this]
      rw [h2]
      unfold envOf at h1 ⊢
      by_cases hL : LD ops listed t
      · rw [if_pos hL] at h1
        rw [if_pos (hl.2 hL)]
        exact h1
      · rw [if_neg hL] at h1
        rw [if_neg (fun h => hL (hl.1 h))]
        exact h1
  · intro j hj t ht
    by_cases hij : i = j
    · subst hij
      rw [getD_set_self his] at hj
      cases hj
    · rw [getD_set_ne' hij] at hj
      have hn := hI.fresh j hj t ht
      cases hr : ρ' t with
      | none => rfl
      | some q =>
        rcases hs.ext.2 t (by rw [hr]; simp) with h5 | h5
        · exact absurd hn h5
        · exact absurd (tok_inj ht h5) (Ne.symm hij)
end
end Go.Proofs.Ythdnjihmjdbdkaa.AE
