/- The law of a row of operations in whatever order: each step, and the whole. Conditions: none. -/
import Derived.Test.YthdnjihmjdbdkaaAeDraw3
namespace Go.Proofs.Ythdnjihmjdbdkaa.AE
open Go Go.RowKit
set_option linter.unusedVariables false
set_option linter.unusedSimpArgs false
section
variable {call : CallT} {P : Program} {b0 π c N m : Nat} {ops : Array Oper} {B : List (List Nat)} {base Hall : AH} {T : Nat → DSt} {ρ0 ρ : Ren} {W0 W : World} {listed : Array Bool} {a : Act} {Q : Exit → Act → World → Prop}
theorem wpOp_one {i : Nat} {o : Oper} (ho : ops[i]? = some o) {K : Act → World → Prop} (hon : Region.wanted o (yielded ops a.tmps) = true → o.wp P a W K Q) (hoff : Region.wanted o (yielded ops a.tmps) = false → K (a.put o.dst undef) W) : wpOp P ops Q i K a W := by
  unfold wpOp
  simp only [ho]
  split
  · rename_i h; exact .inl (hon h)
  · rename_i h; exact hoff (by simpa using h)
theorem DInv.step (hP : Plain P) (hcall : CallOk P call) (hT : Trace call P π c ops B base T) (hdst : ∀ o ∈ ops.toList, ∀ d, o.dst = some d → d < N) (hI : DInv call P b0 π c ops B base T ρ0 W0 N ρ Hall m listed a W) {i : Nat} (hr : i ∈ Region.ready .any ops listed) :
    wpOp P ops Q i (fun a' W' => ∃ ρ' Hall' m', DInv call P b0 π c ops B base T ρ0 W0 N ρ' Hall' m' (listed.setIfInBounds i true) a' W') a W := by
  obtain ⟨hun', o, ho, hall⟩ := mem_ready.1 hr
  have hi : i < ops.size := lt_of_get ho
  have his : i < listed.size := by rw [hI.size]; exact hi
  have hun : listed.getD i false = false := by
    simp only [Array.getD_eq_getD_getElem?, his, Array.getElem?_eq_getElem, Option.getD_some] at hun' ⊢
    exact hun'
  have hmem : o ∈ ops.toList := by
    rw [Array.mem_toList_iff]
    exact Array.mem_of_getElem? ho
  have hlt : ∀ x, (B.getD i []).contains x = true → x < i := bef_lt hT.ok (i + 1) i (by omega) o ho
  have hbl : ∀ x, (B.getD i []).contains x = true → listed.getD x false = true := bef_listed hT.ok hI.size hI.closed (i + 1) i (by omega) o ho hall
  have hag := envOf_agree hT ho hbl hlt
  have hw : Region.wanted o (yielded ops a.tmps) = awant ops (T i).E o := (awant_eq hI.env ops o).trans (awant_congr hag)
  have hset : ∀ j, j ≠ i → (listed.setIfInBounds i true).getD j false = listed.getD j false := fun j hj => getD_set_ne' (Ne.symm hj)
  have hself : (listed.setIfInBounds i true).getD i false = true := getD_set_self his
  have hfr : ∀ t, Under (child π (c + i)) t → ρ t = none := hI.fresh i hun
  have hhall : ∀ t x, Hall t = some x → ρ t ≠ none := fun t x hx => by
    obtain ⟨s, hs, _⟩ := (hI.stp.rel.tok t x hx).slot
    rw [hs]; simp
  -- the chain is at m, and m stands where i stands
  have chainStay : cls P o.op ≠ .chain → (m ≤ ops.size ∧ ∀ j q, ops[j]? = some q → cls P q.op = .chain → ((listed.setIfInBounds i true).getD j false = true ↔ j < m)) := fun hne =>
    ⟨hI.chain.1, fun j q hj hq => by
      have : j ≠ i := by
        rintro rfl
        obtain rfl : o = q := Option.some.inj (ho.symm.trans hj)
        exact hne hq
      rw [hset j this]
      exact hI.chain.2 j q hj hq⟩
  have chainGo : cls P o.op = .chain → (i + 1 ≤ ops.size ∧ ∀ j q, ops[j]? = some q → cls P q.op = .chain → ((listed.setIfInBounds i true).getD j false = true ↔ j < i + 1)) := fun hc =>
    ⟨by omega, fun j q hj hq => by
      rcases Nat.lt_trichotomy j i with h | h | h
      · rw [hset j (by omega)]
        exact ⟨fun _ => by omega, fun _ => hbl j (hT.ok.chain i o ho hc j q h hj hq)⟩
      · subst h
        exact ⟨fun _ => by omega, fun _ => hself⟩
      · rw [hset j (by omega)]
        refine ⟨fun hl => ?_, fun h2 => by omega⟩
        have hb := hT.ok.chain j q hj hq i o h ho hc
        have := bef_listed hT.ok hI.size hI.closed (j + 1) j (by omega) q hj (hI.closed j q hj hl) i hb
        rw [hun] at this
        cases this⟩
  have chainAt : cls P o.op = .chain → m ≤ i ∧ (T i).C = (T m).C ∧ (T i).fl = (T m).fl := fun hc => by
    have hmi : m ≤ i := by
      rcases Nat.lt_or_ge i m with h | h
      · have := (hI.chain.2 i o ho hc).2 h
        rw [hun] at this
        cases this
      · exact h
    have := hT.C_keep (i - m) m (by omega) (fun j q h1 h2 h3 h4 => by
      have hb := hT.ok.chain i o ho hc j q (by omega) h3 h4
      have := (hI.chain.2 j q h3 h4).1 (hbl j hb)
      omega)
    rw [show m + (i - m) = i by omega] at this
    exact ⟨hmi, this.1, this.2⟩
  have noMade : cls P o.op ≠ .free ∨ awant ops (T i).E o = false → ∀ x, ¬ Made call P π c ops T i x := by
    rintro h x ⟨q, hq, h1, h2, _⟩
    obtain rfl : o = q := Option.some.inj (ho.symm.trans hq)
    rcases h with h | h
    · exact h h2
    · rw [h] at h1; cases h1
  have pendStay : (∀ x, ¬ Made call P π c ops T i x) → ∀ j x, Made call P π c ops T j x → (listed.setIfInBounds i true).getD j false = true → listed.getD j false = true := fun hn j x hm hl => by
    have : j ≠ i := by rintro rfl; exact hn x hm
    rwa [hset j this] at hl
  have lookStay : (∃ j q, ops[j]? = some q ∧ cls P q.op = .look ∧ (listed.setIfInBounds i true).getD j false = false) → ∃ j q, ops[j]? = some q ∧ cls P q.op = .look ∧ listed.getD j false = false := by
    rintro ⟨j, q, hj, hq, hl⟩
    by_cases hji : j = i
    · subst hji; rw [hself] at hl; cases hl
    · exact ⟨j, q, hj, hq, by rwa [hset j hji] at hl⟩
  -- a step that takes nothing away
  have easy : ∀ {Hin h' : AH} {v v' : Value} {ρ' : Ren} {W' : World}, cls P o.op ≠ .chain → Stp b0 (child π (c + i)) ρ Hin W ρ' h' W' → (∀ t x, Hin t = some x → Hall t = some x ∧ h' t = some x) →
      (∀ x, Made call P π c ops T i x → h' (tokOf (child π (c + i))) = some x) → VR ρ' v v' → (T (i + 1)).E = putE (T i).E o.dst v →
      ∃ ρ' Hall' m', DInv call P b0 π c ops B base T ρ0 W0 N ρ' Hall' m' (listed.setIfInBounds i true) (a.put o.dst v') W' := by
    intro Hin h' v v' ρ' W' hne hs hin hmk hv hE
    have hover := hs.over hI.stp.rel (fun t x hx => (hin t x hx).1)
    have keep : ∀ t x, Hall t = some x → AE.over Hall Hin h' t = some x := by
      intro t x hx
      unfold AE.over
      cases ht : Hin t with
      | some y =>
        obtain ⟨h1, h2⟩ := hin t y ht
        rw [h2]
        exact h1.symm.trans hx
      | none =>
        cases hh : h' t with
        | none => exact hx
        | some y =>
          rcases hs.dom t (by rw [hh]; simp) with h3 | h3
          · exact (h3 ht).elim
          · exact (hhall t x hx (hfr t h3)).elim
    refine ⟨ρ', _, m, hI.next hT ho hun hall (hdst o hmem) hover hv hE (chainStay hne) (fun t x hx => keep t x (hI.sub t x hx)) ?_ hI.dis (fun hl t x hx => keep t x (hI.base (lookStay hl) t x hx))⟩
    intro j x hm hl hfl
    by_cases hji : j = i
    · subst hji
      unfold AE.over
      rw [hmk x hm]
    · rw [hset j hji] at hl
      exact keep _ x (hI.pend j x hm hl hfl)
  have hK := hT.kind ho
  refine wpOp_one ho (fun hwt => ?_) (fun hwf => ?_)
  · rw [hw] at hwt
    have hexec : ∀ {H h' : AH} {v : Value}, aexec call P (child π (c + i)) (T i).E H o = some (v, h') → aexec call P (child π (c + i)) (envOf ops listed (T 0).E (T ops.size).E) H o = some (v, h') := fun h => (aexec_congr hag).trans h
    cases hK with
    | off h => rw [h] at hwt; cases hwt
    | free h hc v h' hx hE hC hal hfl =>
      have hR0 : Rel b0 ρ (fun _ => none) W := hI.stp.rel.sub (fun t x hx => by cases hx)
      refine aexec_sound hP hcall (hexec hx) hI.env hR0 hfr (child_odd _ _) (fun v' ρ' W' hs hv => ?_)
      refine easy (by rw [hc]; simp) hs (fun t x hx => by cases hx) (fun x hm => ?_) hv hE
      obtain ⟨q, hq, _, _, r, hr1, hr2⟩ := hm
      obtain rfl : o = q := Option.some.inj (ho.symm.trans hq)
      obtain rfl := Option.some.inj (hx.symm.trans hr1)
      exact hr2
    | look h hc v h' hx hq hE hC hal hfl =>
      have hb := hI.base ⟨i, o, ho, hc, hun⟩
      refine aexec_sound hP hcall (hexec hx) hI.env (hI.stp.rel.sub hb) hfr (child_odd _ _) (fun v' ρ' W' hs hv => ?_)
      exact easy (by rw [hc]; simp) hs (fun t x hx => ⟨hb t x hx, (hq t (by rw [hx]; simp)).trans hx⟩) (fun x hm => (noMade (.inl (by rw [hc]; simp)) x hm).elim) hv hE
    | chain h hc v h' hx hq hE hC hal hfl =>
      obtain ⟨hmi, hCm, hflm⟩ := chainAt hc
      have hin : ∀ t x, lay π c (fun a => (B.getD i []).contains a && !(T i).fl.contains a) (T i).al (T i).C t = some x → Hall t = some x := by
        intro t x hx
        rcases lay_some hx with ⟨y, hy, hcd, rfl, rfl⟩ | hx
        · rw [Bool.and_eq_true] at hcd
          exact hI.pend y.1 y.2 (hT.al i (by omega) y hy).2 (hbl _ hcd.1) (by rw [← hflm]; simpa using hcd.2)
        · exact hI.sub t x (hCm ▸ hx)
      refine aexec_sound hP hcall (hexec hx) hI.env (hI.stp.rel.sub hin) hfr (child_odd _ _) (fun v' ρ' W' hs hv => ?_)
      have hover := hs.over hI.stp.rel hin
      have hgone : ∀ j q, ops[j]? = some q → cls P q.op = .free → (T (i + 1)).fl.contains j = false → lay π c (fun a => (B.getD i []).contains a && !(T i).fl.contains a) (T i).al (T i).C (tokOf (child π (c + j))) = none ∧ h' (tokOf (child π (c + j))) = none := by
        intro j q hj hq hf
        rw [hfl] at hf
        have hf1 : (B.getD i []).contains j = false := by
          cases hh : (B.getD i []).contains j with
          | false => rfl
          | true =>
            have : (B.getD i [] ++ (T i).fl).contains j = true := by simp at hh ⊢; exact .inl hh
            rw [this] at hf; cases hf
        have hf2 : (T i).fl.contains j = false := by
          cases hh : (T i).fl.contains j with
          | false => rfl
          | true =>
            have : (B.getD i [] ++ (T i).fl).contains j = true := by simp at hh ⊢; exact .inr hh
            rw [this] at hf; cases hf
        have h1 : lay π c (fun a => (B.getD i []).contains a && !(T i).fl.contains a) (T i).al (T i).C (tokOf (child π (c + j))) = none := by
          cases hh : lay π c (fun a => (B.getD i []).contains a && !(T i).fl.contains a) (T i).al (T i).C (tokOf (child π (c + j))) with
          | none => rfl
          | some x =>
            rcases lay_some hh with ⟨y, hy, hcd, ht, _⟩ | hx
            · rw [Bool.and_eq_true] at hcd
              have := tok_inj (π := π) (c := c) (tokOf_under (child π (c + j))) (ht ▸ tokOf_under (child π (c + y.1)))
              rw [this, hcd.1] at hf1
              cases hf1
            · rw [hCm, hI.dis j q hj hq (by rw [← hflm]; exact hf2)] at hx
              cases hx
        refine ⟨h1, ?_⟩
        cases hh : h' (tokOf (child π (c + j))) with
        | none => rfl
        | some x =>
          rcases hs.dom _ (by rw [hh]; simp) with h3 | h3
          · exact (h3 h1).elim
          · have := tok_inj (π := π) (c := c) h3 (tokOf_under (child π (c + j)))
            subst this
            obtain rfl : o = q := Option.some.inj (ho.symm.trans hj)
            rw [hc] at hq
            cases hq
      refine ⟨ρ', _, i + 1, hI.next hT ho hun hall (hdst o hmem) hover hv hE (chainGo hc) ?_ ?_ ?_ ?_⟩
      · intro t x hx
        unfold AE.over
        rw [← hC, hx]
      · intro j x hm hl hf
        obtain ⟨q, hjq, hjw, hjc, hjr⟩ := id hm
        obtain ⟨h1, h2⟩ := hgone j q hjq hjc hf
        unfold AE.over
        rw [h2, h1]
        have hji : j ≠ i := by
          rintro rfl
          obtain rfl : o = q := Option.some.inj (ho.symm.trans hjq)
          rw [hc] at hjc
          cases hjc
        rw [hset j hji] at hl
        refine hI.pend j x hm hl ?_
        rw [hfl] at hf
        rw [← hflm]
        cases hh : (T i).fl.contains j with
        | false => rfl
        | true =>
          have : (B.getD i [] ++ (T i).fl).contains j = true := by simp at hh ⊢; exact .inr hh
          rw [this] at hf; cases hf
      · intro j q hj hq hf
        rw [hC]
        exact (hgone j q hj hq hf).2
      · intro hl t x hx
        obtain ⟨j, q, hj, hjc, hjl⟩ := lookStay hl
        rcases hq with hq | hq
        · unfold allLook at hq
          have := List.all_eq_true.1 hq j (List.mem_range.2 (lt_of_get hj))
          have hb : (B.getD i []).contains j = true := by simpa [hj, hjc] using this
          rw [hbl j hb] at hjl
          cases hjl
        · unfold AE.over
          rw [hq t (by rw [hx]; simp), hx]
  · rw [hw] at hwf
    have stay : ∀ m', (T m').C = (T m).C → (T m').fl = (T m).fl → (m' ≤ ops.size ∧ ∀ j q, ops[j]? = some q → cls P q.op = .chain → ((listed.setIfInBounds i true).getD j false = true ↔ j < m')) → (T (i + 1)).E = putE (T i).E o.dst undef →
        ∃ ρ' Hall' m', DInv call P b0 π c ops B base T ρ0 W0 N ρ' Hall' m' (listed.setIfInBounds i true) (a.put o.dst undef) W := fun m' h1 h2 h3 hE =>
      ⟨ρ, Hall, m', hI.next hT ho hun hall (hdst o hmem) (.refl hI.stp.rel) (VR.undef ρ) hE h3 (by rw [h1]; exact hI.sub)
        (fun j x hm hl hf => hI.pend j x hm (pendStay (noMade (.inr hwf)) j x hm hl) (h2 ▸ hf)) (by rw [h1, h2]; exact hI.dis) (fun hl => hI.base (lookStay hl))⟩
    cases hK with
    | off h hE hC hal hfl =>
      by_cases hc : cls P o.op = .chain
      · obtain ⟨hmi, hCm, hflm⟩ := chainAt hc
        exact stay (i + 1) (hC.trans hCm) (hfl.trans hflm) (chainGo hc) hE
      · exact stay m rfl rfl (chainStay hc) hE
    | free h => rw [h] at hwf; cases hwf
    | look h => rw [h] at hwf; cases hwf
    | chain h => rw [h] at hwf; cases hwf
theorem getD_down {listed : Array Bool} {i : Nat} (h : listed.getD i true = false) : listed.getD i false = false := by
  rcases Nat.lt_or_ge i listed.size with h' | h'
  · simp only [Array.getD_eq_getD_getElem?, h', Array.getElem?_eq_getElem, Option.getD_some] at h ⊢
    exact h
  · simp [Array.getD_eq_getD_getElem?, Array.getElem?_eq_none h'] at h
/-- How many have not come up. -/
def unl (listed : Array Bool) : Nat → Nat
  | 0 => 0
  | k + 1 => unl listed k + if listed.getD k false then 0 else 1
theorem unl_set {listed : Array Bool} {i : Nat} (hi : i < listed.size) (hun : listed.getD i false = false) : ∀ k, unl (listed.setIfInBounds i true) k + (if i < k then 1 else 0) = unl listed k
  | 0 => by simp [unl]
  | k + 1 => by
    have ih := unl_set hi hun k
    simp only [unl]
    by_cases hik : i = k
    · subst hik
      rw [getD_set_self hi, hun]
      simp only [Nat.lt_irrefl, if_false] at ih
      simp
      omega
    · rw [getD_set_ne' hik]
      by_cases h : i < k
      · rw [if_pos h] at ih
        rw [if_pos (show i < k + 1 by omega)]
        omega
      · rw [if_neg h] at ih
        rw [if_neg (show ¬ i < k + 1 by omega)]
        omega
theorem unl_zero {listed : Array Bool} : ∀ k, unl listed k = 0 → ∀ i, i < k → listed.getD i false = true
  | 0, _, i, h => by omega
  | k + 1, h, i, hi => by
    simp only [unl] at h
    rcases Nat.lt_or_ge i k with hlt | hge
    · exact unl_zero k (by omega) i hlt
    · obtain rfl : i = k := by omega
      cases hh : listed.getD i false with
      | true => rfl
      | false => rw [hh] at h; simp at h
theorem DInv.all (hT : Trace call P π c ops B base T) (hI : DInv call P b0 π c ops B base T ρ0 W0 N ρ Hall m listed a W) (hr : Region.ready .any ops listed = []) : ∀ n i, i < n → i < ops.size → listed.getD i false = true
  | 0, i, h, _ => by omega
  | n + 1, i, h, hi => by
    have ih := hI.all hT hr n
    obtain ⟨o, ho⟩ := get_of_lt (ops := ops) hi
    cases hh : listed.getD i false with
    | true => rfl
    | false =>
      have hm : i ∈ Region.ready .any ops listed := by
        rw [mem_ready]
        refine ⟨?_, o, ho, fun e he hb => ?_⟩
        · have his : i < listed.size := by rw [hI.size]; exact hi
          simp only [Array.getD_eq_getD_getElem?, his, Array.getElem?_eq_getElem, Option.getD_some] at hh ⊢
          exact hh
        · have := hT.ok.back i o ho e he hb
          exact ih e.on (by omega) (by omega)
      rw [hr] at hm
      cases hm
theorem DInv.done (hT : Trace call P π c ops B base T) (hI : DInv call P b0 π c ops B base T ρ0 W0 N ρ Hall m listed a W) (hl : ∀ i, i < ops.size → listed.getD i false = true) :
    EnvR ρ (T ops.size).E a ∧ Stp b0 π ρ0 base W0 ρ (lay π c (fun a => !(T ops.size).fl.contains a) (T ops.size).al (T ops.size).C) W := by
  refine ⟨fun t => ?_, hI.stp.sub fun t x hx => ?_⟩
  · have := hI.env t
    by_cases hL : LD ops listed t
    · simpa only [envOf, if_pos hL] using this
    · simp only [envOf, if_neg hL] at this
      have h1 := hT.E_keep (t := t) ops.size 0 (by omega) (fun j o h1 h2 h3 h4 => hL ⟨j, o, h3, h4, hl j (by omega)⟩)
      rw [Nat.zero_add] at h1
      rw [h1]
      exact this
  · have hk := hT.C_keep (ops.size - m) m (by have := hI.chain.1; omega) (fun j q h1 h2 h3 h4 => by
      have := (hI.chain.2 j q h3 h4).1 (hl j (lt_of_get h3))
      omega)
    have hm := hI.chain.1
    rw [show m + (ops.size - m) = ops.size by omega] at hk
    rcases lay_some hx with ⟨y, hy, hcd, rfl, rfl⟩ | hx
    · obtain ⟨h1, h2⟩ := hT.al _ (Nat.le_refl _) y hy
      exact hI.pend y.1 y.2 h2 (hl _ h1) (by rw [← hk.2]; simpa using hcd)
    · exact hI.sub t x (hk.1 ▸ hx)
theorem wpAny_sound' (hP : Plain P) (hcall : CallOk P call) (hT : Trace call P π c ops B base T) (hdst : ∀ o ∈ ops.toList, ∀ d, o.dst = some d → d < N)
    (hQ : ∀ ρ a W, EnvR ρ (T ops.size).E a → Stp b0 π ρ0 base W0 ρ (lay π c (fun a => !(T ops.size).fl.contains a) (T ops.size).al (T ops.size).C) W → a.defers = [] → N ≤ a.tmps.size → (∀ j t, c + ops.size ≤ j → Under (child π j) t → ρ t = none) → Q .normal a W) :
    ∀ (fuel : Nat) (listed : Array Bool) (ρ : Ren) (Hall : AH) (m : Nat) (a : Act) (W : World), unl listed ops.size ≤ fuel → DInv call P b0 π c ops B base T ρ0 W0 N ρ Hall m listed a W → wpAny P .any ops Q fuel listed a W := by
  have fin : ∀ (listed : Array Bool) (ρ : Ren) (Hall : AH) (m : Nat) (a : Act) (W : World), DInv call P b0 π c ops B base T ρ0 W0 N ρ Hall m listed a W → (∀ i, i < ops.size → listed.getD i false = true) → Q .normal a W := by
    intro listed ρ Hall m a W hI hl
    obtain ⟨h1, h2⟩ := hI.done hT hl
    refine hQ ρ a W h1 h2 hI.defers hI.tmps (fun j t hj ht => ?_)
    obtain ⟨k, rfl⟩ : ∃ k, j = c + k := ⟨j - c, by omega⟩
    refine hI.fresh k ?_ t ht
    have : listed.size ≤ k := by rw [hI.size]; omega
    simp [Array.getD_eq_getD_getElem?, Array.getElem?_eq_none this]
  intro fuel
  induction fuel with
  | zero =>
    intro listed ρ Hall m a W hu hI
    have hl := unl_zero ops.size (by omega : unl listed ops.size = 0)
    refine ⟨?_, fin _ _ _ _ _ _ hI hl⟩
    cases hr : Region.ready .any ops listed with
    | nil => rfl
    | cons x xs =>
      obtain ⟨h1, o, ho, _⟩ := mem_ready.1 (show x ∈ Region.ready .any ops listed by rw [hr]; simp)
      have hx := hl x (lt_of_get ho)
      rw [getD_down h1] at hx
      cases hx
  | succ fuel ih =>
    intro listed ρ Hall m a W hu hI
    refine ⟨fun hr => fin _ _ _ _ _ _ hI (fun i hi => hI.all hT hr (i + 1) i (by omega) hi), fun i hi => ?_⟩
    obtain ⟨h1, o, ho, _⟩ := mem_ready.1 hi
    have hlt := lt_of_get ho
    refine wpOp_mono (fun a' W' ⟨ρ', Hall', m', h⟩ => ih _ ρ' Hall' m' a' W' ?_ h) (hI.step hP hcall hT hdst hi)
    have := unl_set (by rw [hI.size]; exact hlt) (getD_down h1) ops.size
    rw [if_pos hlt] at this
    omega
/-- **A region that asks the tape.** -/
theorem adraw_sound (hm : P.follows .mixedOrders = true) (hP : Plain P) (hcall : CallOk P call) {id : Nat} {s s' : St} (h : adraw call P π ops s = some s') (hdst : ∀ o ∈ ops.toList, ∀ d, o.dst = some d → d < N)
    {H0 : AH} (hI : Inv b0 π N ρ0 H0 W0 ρ s a W) (hF : FreshI π s.c ρ) (hQ : ∀ ρ' a' W', Inv b0 π N ρ0 H0 W0 ρ' s' a' W' → FreshI π s'.c ρ' → Q .normal a' W') : (Code.region id ops true).wp P Q a W := by
  unfold adraw at h
  simp only at h
  split at h
  · rename_i hok
    obtain ⟨d, hd, rfl⟩ := Option.map_eq_some_iff.1 h
    obtain ⟨T, t1, t2, t3⟩ := dseq_trace _ _ _ _ _ _ _ _ _ _ _ hd
    have hT : Trace call P π s.c ops (befs ops.toList []) s.h T := ⟨okD_spec hok, fun i o ho => by simpa using t3 i o (by simpa using ho), by rw [t1], by rw [t1], by rw [t1]⟩
    have t2' : T ops.size = d := by simpa using t2
    refine wp_region_any hm ?_
    have hw : Stp b0 π ρ0 H0 W0 ρ s.h { W with drawn := W.drawn + 1 } := hI.stp.trans (.world hI.stp.rel rfl)
    refine wpAny_sound' (N := N) (b0 := b0) (ρ0 := ρ) (W0 := { W with drawn := W.drawn + 1 }) hP hcall hT hdst (fun ρ' a' W' h1 h2 h3 h4 h5 => ?_) ops.size _ ρ s.h 0 a _ ?_ ?_
    · rw [t2'] at h1 h2
      exact hQ ρ' a' W' ⟨h1, hw.trans h2, h3, h4⟩ h5
    · have : ∀ k, unl (Array.replicate ops.size false) k ≤ k := by
        intro k
        induction k with
        | zero => exact Nat.le_refl _
        | succ k ih => simp only [unl]; split <;> omega
      exact this _
    · have hno : ∀ j, (Array.replicate ops.size false).getD j false = false := fun j => by
        rcases Nat.lt_or_ge j ops.size with h | h
        · simp [h]
        · simp [h]
      refine ⟨by simp, fun j oj hj hl => ?_, ?_, .refl hw.rel, ⟨Nat.zero_le _, fun i o ho hc => ?_⟩, fun t o ho => ?_, fun i x _ hl => ?_, fun i o ho hc hf => ?_, fun _ t o ho => ho, fun i _ t ht => hF (s.c + i) t (by omega) ht, hI.defers, hI.size⟩
      · rw [hno] at hl; cases hl
      · intro t
        have hL : ¬ LD ops (Array.replicate ops.size false) t := fun ⟨i, o, _, _, hl⟩ => by rw [hno] at hl; cases hl
        simp only [envOf, if_neg hL, t1]
        exact hI.env t
      · rw [hno]
        simp
      · rw [t1] at ho
        exact ho
      · rw [hno] at hl; cases hl
      · rw [t1]
        cases hh : s.h (tokOf (child π (s.c + i))) with
        | none => exact hh
        | some x =>
          obtain ⟨q, hq, _⟩ := (hI.stp.rel.tok _ x hh).slot
          rw [hF (s.c + i) _ (by omega) (tokOf_under _)] at hq
          cases hq
  · cases h
/-- **A region in the text's order.** -/
theorem aregion_sound (hP : Plain P) (hcall : CallOk P call) (hπ : π % 2 = 1) {id : Nat} {s s' : St} (h : aseq call P π ops ops.toList 0 s = some s') (hdst : ∀ o ∈ ops.toList, ∀ d, o.dst = some d → d < N)
    {H0 : AH} (hI : Inv b0 π N ρ0 H0 W0 ρ s a W) (hF : FreshI π s.c ρ) (hQ : ∀ ρ' a' W', Inv b0 π N ρ0 H0 W0 ρ' { s' with c := s.c + ops.size } a' W' → FreshI π (s.c + ops.size) ρ' → Q .normal a' W') : (Code.region id ops false).wp P Q a W := by
  refine wp_region ?_
  have := aseq_sound (Q := Q) hP hcall hπ hdst ops.toList 0 s s' ρ a W (Nat.zero_le _) rfl h hI hF (fun ρ' a' W' hc h1 h2 => hQ ρ' a' W' ⟨h1.env, h1.stp, h1.defers, h1.size⟩ h2)
  rw [Nat.sub_zero] at this
  rw [List.range_eq_range']
  exact this
end
end Go.Proofs.Ythdnjihmjdbdkaa.AE
