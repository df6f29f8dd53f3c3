/- A part of what the row of FnExactSetWord uses. Conditions: as each theorem states. -/
import Derived.Test.YtjclbdgjkecbeaaZFnExactSetWordd
namespace Go.Proofs.Ytjclbdgjkecbeaa.AE
open Go Go.RowKit
set_option linter.unusedVariables false
set_option linter.unusedSimpArgs false
set_option maxRecDepth 20000
set_option maxHeartbeats 2000000
noncomputable section
def on (s : List Bool) (j : Nat) : Bool := s[j]?.getD false
theorem on_lt {s : List Bool} {j : Nat} (h : on s j = true) : j < s.length := by
  rcases Nat.lt_or_ge j s.length with h1 | h1
  · exact h1
  · rw [on, List.getElem?_eq_none h1] at h; cases h
theorem on_set {s : List Bool} {i j : Nat} (hi : i < s.length) : on (s.set i true) j = (if j = i then true else on s j) := by
  unfold on
  rw [List.getElem?_set]
  by_cases h : i = j
  · subst h; simp [hi]
  · rw [if_neg h, if_neg (fun e => h e.symm)]
theorem on_ext {s t : List Bool} (hl : s.length = t.length) (h : ∀ j, on s j = true ↔ on t j = true) : s = t := by
  refine List.ext_getElem? fun j => ?_
  rcases Nat.lt_or_ge j s.length with h1 | h1
  · have h2 : j < t.length := by omega
    have h3 := h j
    unfold on at h3
    rw [List.getElem?_eq_getElem h1, List.getElem?_eq_getElem h2] at h3 ⊢
    simp only [Option.getD_some] at h3
    rw [Bool.eq_iff_iff.2 h3]
  · rw [List.getElem?_eq_none h1, List.getElem?_eq_none (by omega)]
theorem on_no {s : List Bool} {j : Nat} : on s j = false ↔ ¬ on s j = true := by cases on s j <;> simp
def wG (g : D.Grid) : Nat := g.Cols.toNat
def adj (g : D.Grid) (i j : Nat) : Prop := (j = i + 1 ∧ i % wG g + 1 < wG g) ∨ (i = j + 1 ∧ j % wG g + 1 < wG g) ∨ j = i + wG g ∨ i = j + wG g
inductive Rch (g : D.Grid) (s : List Bool) : Nat → Prop
  | base {j : Nat} (h : on s j = true) : Rch g s j
  | step {i j : Nat} (h : Rch g s i) (ha : adj g i j) (hj : j < s.length) (hw : bAt g.Cells j = 46) : Rch g s j
instance (g : D.Grid) (s : List Bool) (j : Nat) : Decidable (Rch g s j) := Classical.propDecidable _
def reachL (g : D.Grid) (s : List Bool) : List Bool := (List.range s.length).map fun j => decide (Rch g s j)
theorem Rch.lt {g : D.Grid} {s : List Bool} {j : Nat} (h : Rch g s j) : j < s.length := by
  cases h with
  | base h => exact on_lt h
  | step _ _ hj _ => exact hj
theorem reachL_len (g : D.Grid) (s : List Bool) : (reachL g s).length = s.length := by simp [reachL]
theorem on_reachL {g : D.Grid} {s : List Bool} {j : Nat} : on (reachL g s) j = true ↔ Rch g s j := by
  unfold on reachL
  rw [List.getElem?_map]
  rcases Nat.lt_or_ge j s.length with h1 | h1
  · rw [List.getElem?_eq_getElem (by simpa using h1), List.getElem_range]
    simp
  · rw [List.getElem?_eq_none (by simpa using h1)]
    simp only [Option.map_none, Option.getD_none, Bool.false_eq_true, false_iff]
    intro h
    have := h.lt
    omega
def nearN (g : D.Grid) (s : List Bool) (i : Nat) : Prop := ∃ j, adj g j i ∧ on s j = true
theorem mod_pred {i w : Nat} (h : 0 < i % w) (hw : i % w < w) : (i - 1) % w + 1 = i % w ∧ 1 ≤ i := by
  have h1 : i % w ≤ i := Nat.mod_le _ _
  have h2 := Nat.div_add_mod i w
  refine ⟨?_, by omega⟩
  have e : i - 1 = (i % w - 1) + w * (i / w) := by omega
  rw [e, Nat.add_mul_mod_self_left, Nat.mod_eq_of_lt (by omega)]
  omega
theorem mod_succ {i w : Nat} (h : i % w + 1 < w) : (i + 1) % w = i % w + 1 := by
  have h2 := Nat.div_add_mod i w
  have e : i + 1 = (i % w + 1) + w * (i / w) := by omega
  rw [e, Nat.add_mul_mod_self_left, Nat.mod_eq_of_lt h]
theorem near_iff {g : D.Grid} {s : List Bool} {i : Nat} (hw : 2 ≤ g.Cols) (hl : i < s.length) :
    ((((0 < i % g.Cols.toNat ∧ on s (i - 1) = true) ∨ (((i % g.Cols.toNat + 1 : Nat) : Int) < g.Cols ∧ on s (i + 1) = true)) ∨ (g.Cols ≤ ((i : Nat) : Int) ∧ on s (i - g.Cols.toNat) = true)) ∨ (i + g.Cols.toNat < s.length ∧ on s (i + g.Cols.toNat) = true)) ↔ nearN g s i := by
  have hm : i % g.Cols.toNat < g.Cols.toNat := Nat.mod_lt _ (by omega)
  constructor
  · rintro (((⟨h1, h2⟩ | ⟨h1, h2⟩) | ⟨h1, h2⟩) | ⟨h1, h2⟩)
    · obtain ⟨h3, h4⟩ := mod_pred h1 hm
      exact ⟨i - 1, .inl ⟨by omega, by unfold wG; omega⟩, h2⟩
    · exact ⟨i + 1, .inr (.inl ⟨rfl, by unfold wG; omega⟩), h2⟩
    · exact ⟨i - g.Cols.toNat, .inr (.inr (.inl (by unfold wG; omega))), h2⟩
    · exact ⟨i + g.Cols.toNat, .inr (.inr (.inr (by unfold wG; omega))), h2⟩
  · rintro ⟨j, (⟨h1, h2⟩ | ⟨h1, h2⟩ | h1 | h1), h3⟩
    · refine .inl (.inl (.inl ⟨?_, by rw [show i - 1 = j by omega]; exact h3⟩))
      unfold wG at h2
      rw [h1, mod_succ h2]; omega
    · refine .inl (.inl (.inr ⟨by unfold wG at h2; omega, by rw [← h1]; exact h3⟩))
    · unfold wG at h1
      refine .inl (.inr ⟨by omega, by rw [show i - g.Cols.toNat = j by omega]; exact h3⟩)
    · unfold wG at h1
      have := on_lt h3
      exact .inr ⟨by omega, by rw [← h1]; exact h3⟩
def RS (g : D.Grid) (s0 s : List Bool) : Prop := s.length = s0.length ∧ (∀ j, on s0 j = true → on s j = true) ∧ ∀ j, on s j = true → Rch g s0 j
theorem RS.start (g : D.Grid) (s : List Bool) : RS g s s := ⟨rfl, fun _ h => h, fun _ h => .base h⟩
theorem RS.put {g : D.Grid} {s0 s : List Bool} {i : Nat} (h : RS g s0 s) (hi : i < s.length) (hw : bAt g.Cells i = 46) (hn : nearN g s i) : RS g s0 (s.set i true) := by
  obtain ⟨h1, h2, h3⟩ := h
  refine ⟨by simpa using h1, fun j hj => ?_, fun j hj => ?_⟩
  · rw [on_set hi]; split
    · rfl
    · exact h2 j hj
  · rw [on_set hi] at hj
    split at hj
    · rename_i e
      subst e
      obtain ⟨k, hk, hk2⟩ := hn
      exact .step (h3 k hk2) hk (by omega) hw
    · exact h3 j hj
def want (g : D.Grid) (s : List Bool) (i : Nat) : Prop := bAt g.Cells i = 46 ∧ on s i = false ∧ nearN g s i
instance (g : D.Grid) (s : List Bool) (i : Nat) : Decidable (want g s i) := Classical.propDecidable _
def growR (g : D.Grid) (s : List Bool) (i : Nat) : List Bool := if want g s i then s.set i true else s
def growA (g : D.Grid) (ag : Bool) (s : List Bool) (i : Nat) : Bool := if want g s i then true else ag
theorem grow_yes {g : D.Grid} {s : List Bool} {ag : Bool} {i : Nat} (h : want g s i) : s.set i true = growR g s i ∧ true = growA g ag s i := ⟨(if_pos h).symm, (if_pos h).symm⟩
theorem grow_no {g : D.Grid} {s : List Bool} {ag : Bool} {i : Nat} (h : ¬ want g s i) : s = growR g s i ∧ ag = growA g ag s i := ⟨(if_neg h).symm, (if_neg h).symm⟩
def Inv1 (g : D.Grid) (s0 s : List Bool) (i : Nat) (s1 : List Bool) (ag : Bool) : Prop := i ≤ s0.length ∧ RS g s0 s1 ∧ (ag = false → s1 = s ∧ ∀ j, j < i → ¬ want g s j) ∧ (ag = true → s1.count false < s.count false) ∧ s1.count false ≤ s.count false
theorem Inv1.start {g : D.Grid} {s0 s : List Bool} (h : RS g s0 s) : Inv1 g s0 s 0 s false := ⟨Nat.zero_le _, h, fun _ => ⟨rfl, fun j hj => by omega⟩, (fun h => by cases h), Nat.le_refl _⟩
theorem count_put {s : List Bool} {i : Nat} (hi : i < s.length) (h : on s i = false) : (s.set i true).count false + 1 = s.count false := by
  have h2 : s[i] = false := by
    unfold on at h
    rw [List.getElem?_eq_getElem hi] at h
    exact h
  have h3 : 0 < s.count false := List.count_pos_iff.2 (h2 ▸ List.getElem_mem hi)
  rw [List.count_set hi]
  simp [h2]
  omega
theorem Inv1.next {g : D.Grid} {s0 s s1 : List Bool} {i : Nat} {ag : Bool} (h : Inv1 g s0 s i s1 ag) (hi : i < s1.length) : Inv1 g s0 s (i + 1) (growR g s1 i) (growA g ag s1 i) := by
  obtain ⟨h1, h2, h3, h4, h5⟩ := h
  have hl := h2.1
  unfold growR growA
  by_cases hw : want g s1 i
  · rw [if_pos hw, if_pos hw]
    have hc := count_put hi hw.2.1
    exact ⟨by omega, h2.put hi hw.1 hw.2.2, (fun e => by cases e), (fun _ => by omega), by omega⟩
  · rw [if_neg hw, if_neg hw]
    refine ⟨by omega, h2, fun e => ?_, h4, h5⟩
    obtain ⟨h6, h7⟩ := h3 e
    subst h6
    refine ⟨rfl, fun j hj => ?_⟩
    rcases Nat.lt_or_ge j i with g1 | g1
    · exact h7 j g1
    · obtain rfl : j = i := by omega
      exact hw
def Inv0 (g : D.Grid) (s0 s : List Bool) (ag : Bool) : Prop := RS g s0 s ∧ (ag = false → ∀ j, j < s0.length → ¬ want g s j)
theorem Inv1.done {g : D.Grid} {s0 s s1 : List Bool} {i : Nat} {ag : Bool} (h : Inv1 g s0 s i s1 ag) (hi : ¬ i < s1.length) : Inv0 g s0 s1 ag := by
  obtain ⟨h1, h2, h3, h4, h5⟩ := h
  have hl := h2.1
  refine ⟨h2, fun e j hj => ?_⟩
  obtain ⟨h6, h7⟩ := h3 e
  rw [h6]
  exact h7 j (by omega)
theorem Inv1.dec {g : D.Grid} {s0 s s1 : List Bool} {i : Nat} {ag ag0 : Bool} (h : Inv1 g s0 s i s1 ag) (h0 : ag0 = true) : s1.count false + (if ag = true then 1 else 0) < s.count false + (if ag0 = true then 1 else 0) := by
  obtain ⟨h1, h2, h3, h4, h5⟩ := h
  rw [if_pos h0]
  split
  · rename_i e
    have := h4 e
    omega
  · omega
theorem Inv0.done {g : D.Grid} {s0 s : List Bool} {ag : Bool} (h : Inv0 g s0 s ag) (ha : ¬ ag = true) : s = reachL g s0 := by
  obtain ⟨⟨h1, h2, h3⟩, h4⟩ := h
  refine on_ext (by rw [reachL_len, h1]) fun j => ?_
  rw [on_reachL]
  refine ⟨h3 j, fun hj => ?_⟩
  have h5 := h4 (by cases ag <;> simp_all)
  induction hj with
  | base h => exact h2 _ h
  | step h ha hj hw ih =>
    rename_i i k
    cases hk : on s k with
    | true => rfl
    | false => exact absurd ⟨hw, hk, i, ha, ih⟩ (h5 k hj)
end
theorem W_spec_l10Reach (n : Nat) (g : D.Grid) (seen : List Bool) (cell : Nat) (hg : gridOk g) (hc : cell < seen.length) (hs : seen.length = g.Cells.size) : Loan (acall Try.prog (n + 1)) 105 1 (List.map (eBool true) seen) [(T.agg (eGrid false g)), (T.os 1 0 0 ((seen.map (eBool true)).length)), (tN cell)] (T.os 1 0 0 (List.map (eBool true) (reachL g (seen.set cell true))).length) (List.map (eBool true) (reachL g (seen.set cell true))) := by
  refine Loan.intro (rs := [ResultVar.tmp 6]) (j := 1) (pin := (T.os 1 0 0 ((seen.map (eBool true)).length))) Try.func105 rfl rfl rfl (by kernel_rfl) rfl (.os _ _) (.os _ _) (scMap (fun _ => rfl) _) (scMap (fun _ => rfl) _) (E0 := [(0, (T.agg (eGrid false g))), (1, (T.os 1 0 0 ((seen.map (eBool true)).length))), (2, (tN cell))]) rfl ?_
  obtain ⟨hlim, hmx, hmax⟩ := lims
  have hsz := hg.size
  have hA := hg.1
  have hB := hg.2.1
  refine sr (kO (B.box (ts := (eGrid false g)) (tv (T.agg (eGrid false g)) rfl) nofun rfl) (fO (OF.assign VEv.nils) (nt (sr (mO (T.os 1 0 0 ((seen.map (eBool true)).length)) rfl (mO (tN cell) rfl ?_))))))
  obtain ⟨x1, hx1⟩ : ∃ x, seen[cell]? = some x := ⟨_, List.getElem?_eq_getElem (by omega)⟩
  skip
  refine fO (B.indexAddrO (i := cell) (tv (T.os 1 0 0 ((seen.map (eBool true)).length)) rfl) (tv (tN cell) rfl) rfl (by (simp only [List.length_map]; omega)) U112 sz4 if4) (cO (B.storeP (us := [(tB true)]) (rows' := ((seen.set cell true).map (eBool true))) (row := (eBool true x1)) (tv (T.orp 1 0 cell 0) rfl) (VEv.bool true) nofun rfl (map_at _ hx1) rfl (lb rfl) if4 sz4 (bc rfl bn) (by intro r hr t ht; obtain ⟨x, _, rfl⟩ := List.mem_map.1 hr; rw [flBool] at ht; exact isPl_flat (okBool.pl _ t ht)) (set_mapE rfl)) (nt (sq (sr (fO (OF.assign (VEv.bool true)) (nt (VRun.block ?_)))))))
  refine VRun.loop (A := Bool × (List Bool)) (fun s_ => [(1, (T.os 1 1 0 ((s_.2.map (eBool true)).length))), (3, (T.op 0 0)), (6, T.nils), (7, (tB s_.1))]) (fun s_ => mkO [(0, (Obj.cells (eGrid false g))), (1, (Obj.rows 1 (s_.2.map (eBool true))))]) 2 (fun s_ => Inv0 g (seen.set cell true) s_.2 s_.1) (fun s_ => s_.2.count false + (if s_.1 = true then 1 else 0)) ((true, seen.set cell true) : Bool × (List Bool)) ?_ (Wk.mk (fun k => if k = 0 then 1 else if k = 1 then 0 else  k) ?_ ?_ ?_) ?_
  · exact ⟨RS.start _ _, fun h => by cases h⟩
  · exact (bc ⟨(congrArg (fun n_ => T.os 1 0 0 n_) (show (seen.map (eBool true)).length = ((seen.set cell true).map (eBool true)).length from (by (simp; done)))), rfl⟩ (b2 (b2 (b2 bn))))
  · exact (b3 (b3 bn))
  · exact nd rfl
  rintro ⟨ag, s⟩ (hI' : Inv0 g (seen.set cell true) s ag)
  show VRun _ _ _ [(1, (T.os 1 1 0 ((s.map (eBool true)).length))), (3, (T.op 0 0)), (6, T.nils), (7, (tB ag))] (mkO [(0, (Obj.cells (eGrid false g))), (1, (Obj.rows 1 (s.map (eBool true))))]) 2 _
  have hI1 := hI'
  have hl0 : s.length = g.Cells.size := by have := hI'.1.1; rw [List.length_set] at this; omega
  refine sq (sr (mO (tB ag) rfl (nt ?_)))
  refine VRun.cond (tv (tB ag) rfl) (fun hc0 => ?_) (fun hc0 => ?_)
  · have fhc0 : ag = true := hc0
    refine sk (tn (VRun.block (sr (fO (OF.assign (VEv.bool false)) (nt (sr (fO (OF.assign (VEv.int .i64 0)) (nt (VRun.block ?_)))))))))
    refine VRun.loop (A := Nat × (List Bool) × Bool) (fun s_ => [(1, (T.os 1 1 0 ((s_.2.1.map (eBool true)).length))), (3, (T.op 0 0)), (6, T.nils), (7, (tB s_.2.2)), (8, (tN s_.1))]) (fun s_ => mkO [(0, (Obj.cells (eGrid false g))), (1, (Obj.rows 1 (s_.2.1.map (eBool true))))]) 2 (fun s_ => Inv1 g (seen.set cell true) s s_.1 s_.2.1 s_.2.2) (fun s_ => s_.2.1.length - s_.1) ((0, s, false) : Nat × (List Bool) × Bool) ?_ (Wk.mk (fun k => k) ?_ ?_ ?_) ?_
    · exact Inv1.start hI1.1
    · exact (b2 (b2 (b2 (b2 (b2 bn)))))
    · exact (b3 (b3 bn))
    · exact nd rfl
    rintro ⟨i, s1, ag1⟩ (hI' : Inv1 g (seen.set cell true) s i s1 ag1)
    show VRun _ _ _ [(1, (T.os 1 1 0 ((s1.map (eBool true)).length))), (3, (T.op 0 0)), (6, T.nils), (7, (tB ag1)), (8, (tN i))] (mkO [(0, (Obj.cells (eGrid false g))), (1, (Obj.rows 1 (s1.map (eBool true))))]) 2 _
    have hJ1 := hI'.1
    have hl1 : s1.length = g.Cells.size := by have := hI'.2.1.1; rw [List.length_set] at this; omega
    refine sq (sr (mO (tN i) rfl (mO (T.os 1 1 0 ((s1.map (eBool true)).length)) rfl (lO (B.lenO (m := s1.length) (tv (T.os 1 1 0 ((s1.map (eBool true)).length)) rfl) U112 (List.length_map ..)) (fO (xls' (tv (tN i) rfl) (tv (tN s1.length) rfl)) (nt ?_))))))
    refine cd (i < s1.length) rfl (fun fhc1 => ?_) fun fhc1 => ?_
    · refine sk ?_
      refine tn (sq (VRun.block (sq (sr (mO (T.os 1 1 0 ((s1.map (eBool true)).length)) rfl (mO (tN i) rfl ?_))))))
      obtain ⟨x2, hx2⟩ : ∃ x, s1[i]? = some x := ⟨_, List.getElem?_eq_getElem (by omega)⟩
      (have e2 : on s1 i = x2 := by rw [on, hx2]; rfl)
      refine fO (B.indexAddrO (i := i) (tv (T.os 1 1 0 ((s1.map (eBool true)).length)) rfl) (tv (tN i) rfl) rfl (by (simp only [List.length_map]; omega)) U112 sz4 if4) (lO (OL.loadP1 (t := (tB x2)) (row := (eBool true x2)) (tv (T.orp 1 1 i 0) rfl) rfl (map_at _ hx2) rfl rfl st4) (mO (tB x2) rfl ?_))
      refine VRunO.joinB 6 [26, 27, 28, 29, 30] 31 (tB (decide ((x2 = true) ∨ (¬ (bAt g.Cells i = 46))))) ?_ ?_
      · refine bool_way x2 (fun hg25_1 => ?_) (fun hg25_1 => ?_)
        · have fhg25_1 : x2 = true := hg25_1
          refine offs 5 4 false 25 hg25_1 rfl rfl rfl (fO (OF.pickT (VEv.tmpB rfl hg25_1) (VEv.bool true)) (VRunO.nil ?_))
          exact jq (congrArg T.bool (jOT (dT _) hg25_1)) (js rfl (js rfl (js rfl (js rfl (js rfl (jn))))))
        · have fhg25_1 : x2 = false := hg25_1
          refine glf (tS g.Cells) hg25_1 rfl rfl rfl rfl fa29_2 rfl rfl st9 (gF hg25_1 rfl rfl (OF.move (tv (tN i) rfl)) ?_)
          have hb2 : i < g.Cells.size := (by omega)
          refine gF hg25_1 rfl rfl (xix (tv (tS g.Cells) rfl) (tv (tN i) rfl) hb2 U9) (gF hg25_1 rfl rfl (xne (tv (T.int .u8 (bAt g.Cells i)) rfl) (VEv.int .u8 46)) (fO (OF.pickF (VEv.tmpB rfl hg25_1) (tv (tB (!(decide (bAt g.Cells i = 46)))) rfl)) (VRunO.nil ?_)))
          exact jq (congrArg T.bool (jOF (dT _) hg25_1 dN)) (js rfl (js rfl (js rfl (js rfl (js rfl (jn))))))
      refine nt ?_
      refine cd ((x2 = true) ∨ (¬ (bAt g.Cells i = 46))) rfl (fun fhc2 => ?_) fun fhc2 => ?_
      · have q1 := grow_no (g := g) (s := s1) (ag := ag1) (i := i) (by rintro ⟨h1, h2, h3⟩; rw [e2] at h2; rcases fhc2 with h4 | h4; rw [h2] at h4; cases h4; exact h4 h1)
        refine VRun.exit (vthn.e (vinB.e (tn (VRun.region (mO (tN i) rfl (fO (xinc (tv (tN i) rfl) (VEv.int .i64 1) (by omega)) (aO (tN (i + 1)) rfl (VRunO.nil (tn ?_)))))))))
        have he3 : s1 = (growR g s1 i) := by exact q1.1
        refine ⟨((i + 1, growR g s1 i, growA g ag1 s1 i) : Nat × (List Bool) × Bool), ?_, ?_, Wk.mk (fun k => k) ?_ ?_ ?_⟩
        · exact hI'.next fhc1
        · show (growR g s1 i).length - (i + 1) < s1.length - i
          have e1 : (growR g s1 i).length = s1.length := by unfold growR; split <;> simp
          rw [e1]; omega
        · exact (bc ⟨(congrArg (fun l_ => T.os 1 1 0 (List.map (eBool true) l_).length) he3), rfl⟩ (b2 (b2 (bc ⟨(congrArg T.bool (show ag1 = (growA g ag1 s1 i) from (by exact q1.2))), rfl⟩ (b2 bn)))))
        · exact (b3 (bc ⟨(congrArg (fun l_ => some (Obj.rows 1 (List.map (eBool true) l_))) he3), (lb rfl), rfl⟩ bn))
        · exact nd rfl
      refine sk (tn ?_)
      have hci := cell_at hg (show i < g.Cells.size by omega)
      obtain ⟨m, hm⟩ : ∃ m, m = i % g.Cols.toNat := ⟨_, rfl⟩
      have hq1 : 0 < m → 1 ≤ i := by rw [hm]; exact hci.2.1
      have hm6 : m < g.Cols.toNat := by rw [hm]; exact hci.1.1
      have hq4 : ((m + 1 : Nat) : Int) < g.Cols → i + 1 < g.Cells.size := by rw [hm]; exact hci.2.2.2.1 1
      clear hci
      refine sr (mO (tN i) rfl (lf (tI g.Cols) rfl fa29_1 rfl rfl st3 (fO (B.rem (n := ((m : Nat) : Int)) (tv (tN i) rfl) (tv (tI g.Cols) rfl) (by omega) (by (rw [hm]; refine remN ?_; omega))) (aO (tN m) rfl (nt (sr (mO (tN m) rfl (fO (B.gtr (c := (decide (0 < m))) (tv (tN m) rfl) (VEv.int .i64 0) (by exact decN (by omega))) (mO (tB (decide (0 < m))) rfl ?_)))))))))
      refine VRunO.joinB 6 [39, 40, 41, 42, 43] 44 (tB (decide ((0 < m) ∧ ((s1[i - 1]?.getD false) = true)))) ?_ ?_
      · refine gw (0 < m) (fun fhg38_4 => ?_) fun fhg38_4 => ?_
        · refine gF (dy fhg38_4) rfl rfl (OF.move (tv (T.os 1 1 0 ((s1.map (eBool true)).length)) rfl)) ?_
          refine gF (dy fhg38_4) rfl rfl (OF.move (tv (tN i) rfl)) (gF (dy fhg38_4) rfl rfl (B.sub (n := ((i - 1 : Nat) : Int)) (tv (tN i) rfl) (VEv.int .i64 1) (by (rw [wrap64 (by omega)]; omega))) ?_)
          have hy5 : s1[i - 1]? = some (s1[i - 1]?.getD false) := getD_at false (by omega)
          refine gF (dy fhg38_4) rfl rfl (B.indexAddrO (i := i - 1) (tv (T.os 1 1 0 ((s1.map (eBool true)).length)) rfl) (tv (tN (i - 1)) rfl) rfl (by (simp only [List.length_map]; omega)) U112 sz4 if4) (gL (dy fhg38_4) rfl rfl (OL.loadP1 (t := (tB (s1[i - 1]?.getD false))) (row := (eBool true (s1[i - 1]?.getD false))) (tv (T.orp 1 1 (i - 1) 0) rfl) rfl (map_at _ hy5) rfl rfl st4) (fO (OF.pickT (VEv.tmpB rfl (dy fhg38_4)) (tv (tB (s1[i - 1]?.getD false)) rfl)) (VRunO.nil ?_)))
          exact jq (congrArg T.bool (kAT fhg38_4 (dT _))) (js rfl (js rfl (js rfl (js rfl (js rfl (jn))))))
        · refine offs 5 2 true 38 (dz fhg38_4) rfl rfl rfl ?_
          refine fO (OF.pickF (VEv.tmpB rfl (dz fhg38_4)) (VEv.bool false)) (VRunO.nil ?_)
          exact jq (congrArg T.bool (kAF fhg38_4)) (js rfl (js rfl (js rfl (js rfl (js rfl (jn))))))
      refine mO (tB (decide ((0 < m) ∧ ((s1[i - 1]?.getD false) = true)))) rfl ?_
      refine VRunO.joinB 13 [46, 47, 48, 49, 50, 51, 52, 53, 54, 55, 56, 57] 58 (tB (decide (((0 < m) ∧ ((s1[i - 1]?.getD false) = true)) ∨ (((((m + 1) : Nat) : Int) < g.Cols) ∧ ((s1[(i + 1)]?.getD false) = true))))) ?_ ?_
      · refine gw ((0 < m) ∧ ((s1[i - 1]?.getD false) = true)) (fun fhg45_6 => ?_) fun fhg45_6 => ?_
        · refine offs 6 9 false 45 (dy fhg45_6) rfl rfl rfl ?_
          refine offu 5 15 true 51 rfl rfl rfl (oO rfl rfl (dy fhg45_6) (fO (OF.pickT (VEv.tmpB rfl (dy fhg45_6)) (VEv.bool true)) (VRunO.nil ?_)))
          exact jq (congrArg T.bool (kOT fhg45_6)) (js rfl (js rfl (js rfl (js rfl (js rfl (js rfl (js rfl (js rfl (js rfl (js rfl (js rfl (js rfl (jn)))))))))))))
        · refine gF (dz fhg45_6) rfl rfl (OF.move (tv (tN m) rfl)) ?_
          refine gF (dz fhg45_6) rfl rfl (xinc (tv (tN m) rfl) (VEv.int .i64 1) (by omega)) (glf (tI g.Cols) (dz fhg45_6) rfl rfl rfl rfl fa29_1 rfl rfl st3 (gF (dz fhg45_6) rfl rfl (xls (tv (tN (m + 1)) rfl) (tv (tI g.Cols) rfl)) (gF (dz fhg45_6) rfl rfl (OF.move (tv (tB (decide ((((m + 1) : Nat) : Int) < g.Cols))) rfl)) ?_)))
          refine VRunO.joinB 6 [52, 53, 54, 55, 56] 57 (tB (decide (((((m + 1) : Nat) : Int) < g.Cols) ∧ ((s1[(i + 1)]?.getD false) = true)))) ?_ ?_
          · refine gw ((((m + 1) : Nat) : Int) < g.Cols) (fun fhg51_7 => ?_) fun fhg51_7 => ?_
            · refine gF (dy fhg51_7) rfl rfl (OF.move (tv (T.os 1 1 0 ((s1.map (eBool true)).length)) rfl)) ?_
              refine gF (dy fhg51_7) rfl rfl (OF.move (tv (tN i) rfl)) (gF (dy fhg51_7) rfl rfl (xinc (tv (tN i) rfl) (VEv.int .i64 1) (by omega)) ?_)
              have hy8 : s1[(i + 1)]? = some (s1[(i + 1)]?.getD false) := getD_at false (by omega)
              refine gF (dy fhg51_7) rfl rfl (B.indexAddrO (i := (i + 1)) (tv (T.os 1 1 0 ((s1.map (eBool true)).length)) rfl) (tv (tN (i + 1)) rfl) rfl (by (simp only [List.length_map]; omega)) U112 sz4 if4) (gL (dy fhg51_7) rfl rfl (OL.loadP1 (t := (tB (s1[(i + 1)]?.getD false))) (row := (eBool true (s1[(i + 1)]?.getD false))) (tv (T.orp 1 1 (i + 1) 0) rfl) rfl (map_at _ hy8) rfl rfl st4) (gF (dz fhg45_6) rfl rfl (OF.pickT (VEv.tmpB rfl (dy fhg51_7)) (tv (tB (s1[(i + 1)]?.getD false)) rfl)) (VRunO.nil ?_)))
              exact jq (congrArg T.bool (kAT fhg51_7 (dT _))) (js rfl (js rfl (js rfl (js rfl (js rfl (jn))))))
            · refine offs 5 15 true 51 (dz fhg51_7) rfl rfl rfl ?_
              refine gF (dz fhg45_6) rfl rfl (OF.pickF (VEv.tmpB rfl (dz fhg51_7)) (VEv.bool false)) (VRunO.nil ?_)
              exact jq (congrArg T.bool (kAF fhg51_7)) (js rfl (js rfl (js rfl (js rfl (js rfl (jn))))))
          refine fO (OF.pickF (VEv.tmpB rfl (dz fhg45_6)) (tv (tB (decide (((((m + 1) : Nat) : Int) < g.Cols) ∧ ((s1[(i + 1)]?.getD false) = true)))) rfl)) (VRunO.nil ?_)
          exact jq (congrArg T.bool (kOF fhg45_6 rfl)) (js rfl (js rfl (js rfl (js rfl (js rfl (js rfl (js rfl (js rfl (js rfl (js rfl (js rfl (js rfl (jn)))))))))))))
      refine mO (tB (decide (((0 < m) ∧ ((s1[i - 1]?.getD false) = true)) ∨ (((((m + 1) : Nat) : Int) < g.Cols) ∧ ((s1[(i + 1)]?.getD false) = true))))) rfl ?_
      refine VRunO.joinB 14 [60, 61, 62, 63, 64, 65, 66, 67, 68, 69, 70, 71, 72] 73 (tB (decide ((((0 < m) ∧ ((s1[i - 1]?.getD false) = true)) ∨ (((((m + 1) : Nat) : Int) < g.Cols) ∧ ((s1[(i + 1)]?.getD false) = true))) ∨ ((g.Cols ≤ ((i : Nat) : Int)) ∧ ((s1[i - g.Cols.toNat]?.getD false) = true))))) ?_ ?_
      · refine gw (((0 < m) ∧ ((s1[i - 1]?.getD false) = true)) ∨ (((((m + 1) : Nat) : Int) < g.Cols) ∧ ((s1[(i + 1)]?.getD false) = true))) (fun fhg59_9 => ?_) fun fhg59_9 => ?_
        · refine offs 5 23 false 59 (dy fhg59_9) rfl rfl rfl ?_
          refine offu 7 28 true 64 rfl rfl rfl (oO rfl rfl (dy fhg59_9) (fO (OF.pickT (VEv.tmpB rfl (dy fhg59_9)) (VEv.bool true)) (VRunO.nil ?_)))
          exact jq (congrArg T.bool (kOT fhg59_9)) (js rfl (js rfl (js rfl (js rfl (js rfl (js rfl (js rfl (js rfl (js rfl (js rfl (js rfl (js rfl (js rfl (jn))))))))))))))
        · refine gF (dz fhg59_9) rfl rfl (OF.move (tv (tN i) rfl)) ?_
          refine glf (tI g.Cols) (dz fhg59_9) rfl rfl rfl rfl fa29_1 rfl rfl st3 (gF (dz fhg59_9) rfl rfl (xge (tv (tN i) rfl) (tv (tI g.Cols) rfl)) (gF (dz fhg59_9) rfl rfl (OF.move (tv (tB (decide (g.Cols ≤ ((i : Nat) : Int)))) rfl)) ?_))
          refine VRunO.joinB 8 [65, 66, 67, 68, 69, 70, 71] 72 (tB (decide ((g.Cols ≤ ((i : Nat) : Int)) ∧ ((s1[i - g.Cols.toNat]?.getD false) = true)))) ?_ ?_
          · refine gw (g.Cols ≤ ((i : Nat) : Int)) (fun fhg64_10 => ?_) fun fhg64_10 => ?_
            · refine gF (dy fhg64_10) rfl rfl (OF.move (tv (T.os 1 1 0 ((s1.map (eBool true)).length)) rfl)) ?_
              refine gF (dy fhg64_10) rfl rfl (OF.move (tv (tN i) rfl)) (glf (tI g.Cols) (dy fhg64_10) rfl rfl rfl rfl fa29_1 rfl rfl st3 (gF (dy fhg64_10) rfl rfl (B.sub (n := ((i - g.Cols.toNat : Nat) : Int)) (tv (tN i) rfl) (tv (tI g.Cols) rfl) (by (rw [wrap64 (by omega)]; omega))) ?_))
              have hy11 : s1[i - g.Cols.toNat]? = some (s1[i - g.Cols.toNat]?.getD false) := getD_at false (by omega)
              refine gF (dy fhg64_10) rfl rfl (B.indexAddrO (i := i - g.Cols.toNat) (tv (T.os 1 1 0 ((s1.map (eBool true)).length)) rfl) (tv (tN (i - g.Cols.toNat)) rfl) rfl (by (simp only [List.length_map]; omega)) U112 sz4 if4) (gL (dy fhg64_10) rfl rfl (OL.loadP1 (t := (tB (s1[i - g.Cols.toNat]?.getD false))) (row := (eBool true (s1[i - g.Cols.toNat]?.getD false))) (tv (T.orp 1 1 (i - g.Cols.toNat) 0) rfl) rfl (map_at _ hy11) rfl rfl st4) (gF (dz fhg59_9) rfl rfl (OF.pickT (VEv.tmpB rfl (dy fhg64_10)) (tv (tB (s1[i - g.Cols.toNat]?.getD false)) rfl)) (VRunO.nil ?_)))
              exact jq (congrArg T.bool (kAT fhg64_10 (dT _))) (js rfl (js rfl (js rfl (js rfl (js rfl (js rfl (js rfl (jn))))))))
            · refine offs 7 28 true 64 (dz fhg64_10) rfl rfl rfl ?_
              refine gF (dz fhg59_9) rfl rfl (OF.pickF (VEv.tmpB rfl (dz fhg64_10)) (VEv.bool false)) (VRunO.nil ?_)
              exact jq (congrArg T.bool (kAF fhg64_10)) (js rfl (js rfl (js rfl (js rfl (js rfl (js rfl (js rfl (jn))))))))
          refine fO (OF.pickF (VEv.tmpB rfl (dz fhg59_9)) (tv (tB (decide ((g.Cols ≤ ((i : Nat) : Int)) ∧ ((s1[i - g.Cols.toNat]?.getD false) = true)))) rfl)) (VRunO.nil ?_)
          exact jq (congrArg T.bool (kOF fhg59_9 rfl)) (js rfl (js rfl (js rfl (js rfl (js rfl (js rfl (js rfl (js rfl (js rfl (js rfl (js rfl (js rfl (js rfl (jn))))))))))))))
      refine mO (tB (decide ((((0 < m) ∧ ((s1[i - 1]?.getD false) = true)) ∨ (((((m + 1) : Nat) : Int) < g.Cols) ∧ ((s1[(i + 1)]?.getD false) = true))) ∨ ((g.Cols ≤ ((i : Nat) : Int)) ∧ ((s1[i - g.Cols.toNat]?.getD false) = true))))) rfl ?_
      refine VRunO.joinB 17 [75, 76, 77, 78, 79, 80, 81, 82, 83, 84, 85, 86, 87, 88, 89, 90] 91 (tB (decide (((((0 < m) ∧ ((s1[i - 1]?.getD false) = true)) ∨ (((((m + 1) : Nat) : Int) < g.Cols) ∧ ((s1[(i + 1)]?.getD false) = true))) ∨ ((g.Cols ≤ ((i : Nat) : Int)) ∧ ((s1[i - g.Cols.toNat]?.getD false) = true))) ∨ ((i + g.Cols.toNat < s1.length) ∧ ((s1[i + g.Cols.toNat]?.getD false) = true))))) ?_ ?_
      · refine gw ((((0 < m) ∧ ((s1[i - 1]?.getD false) = true)) ∨ (((((m + 1) : Nat) : Int) < g.Cols) ∧ ((s1[(i + 1)]?.getD false) = true))) ∨ ((g.Cols ≤ ((i : Nat) : Int)) ∧ ((s1[i - g.Cols.toNat]?.getD false) = true))) (fun fhg74_12 => ?_) fun fhg74_12 => ?_
        · refine offs 8 38 false 74 (dy fhg74_12) rfl rfl rfl ?_
          refine offu 7 46 true 82 rfl rfl rfl (oO rfl rfl (dy fhg74_12) (fO (OF.pickT (VEv.tmpB rfl (dy fhg74_12)) (VEv.bool true)) (VRunO.nil ?_)))
          exact jq (congrArg T.bool (kOT fhg74_12)) (js rfl (js rfl (js rfl (js rfl (js rfl (js rfl (js rfl (js rfl (js rfl (js rfl (js rfl (js rfl (js rfl (js rfl (js rfl (js rfl (jn)))))))))))))))))
        · refine gF (dz fhg74_12) rfl rfl (OF.move (tv (tN i) rfl)) ?_
          refine glf (tI g.Cols) (dz fhg74_12) rfl rfl rfl rfl fa29_1 rfl rfl st3 (gF (dz fhg74_12) rfl rfl (B.add (n := ((i + g.Cols.toNat : Nat) : Int)) (tv (tN i) rfl) (tv (tI g.Cols) rfl) (by (rw [wrap64 (by omega)]; omega))) (gF (dz fhg74_12) rfl rfl (OF.move (tv (T.os 1 1 0 ((s1.map (eBool true)).length)) rfl)) (gL (dz fhg74_12) rfl rfl (B.lenO (m := s1.length) (tv (T.os 1 1 0 ((s1.map (eBool true)).length)) rfl) U112 (List.length_map ..)) (gF (dz fhg74_12) rfl rfl (xls' (tv (tN (i + g.Cols.toNat)) rfl) (tv (tN s1.length) rfl)) (gF (dz fhg74_12) rfl rfl (OF.move (tv (tB (decide (i + g.Cols.toNat < s1.length))) rfl)) ?_)))))
          refine VRunO.joinB 8 [83, 84, 85, 86, 87, 88, 89] 90 (tB (decide ((i + g.Cols.toNat < s1.length) ∧ ((s1[i + g.Cols.toNat]?.getD false) = true)))) ?_ ?_
          · refine gw (i + g.Cols.toNat < s1.length) (fun fhg82_13 => ?_) fun fhg82_13 => ?_
            · refine gF (dy fhg82_13) rfl rfl (OF.move (tv (T.os 1 1 0 ((s1.map (eBool true)).length)) rfl)) ?_
              refine gF (dy fhg82_13) rfl rfl (OF.move (tv (tN i) rfl)) (glf (tI g.Cols) (dy fhg82_13) rfl rfl rfl rfl fa29_1 rfl rfl st3 (gF (dy fhg82_13) rfl rfl (B.add (n := ((i + g.Cols.toNat : Nat) : Int)) (tv (tN i) rfl) (tv (tI g.Cols) rfl) (by (rw [wrap64 (by omega)]; omega))) ?_))
              have hy14 : s1[i + g.Cols.toNat]? = some (s1[i + g.Cols.toNat]?.getD false) := getD_at false (by omega)
              refine gF (dy fhg82_13) rfl rfl (B.indexAddrO (i := i + g.Cols.toNat) (tv (T.os 1 1 0 ((s1.map (eBool true)).length)) rfl) (tv (tN (i + g.Cols.toNat)) rfl) rfl (by (simp only [List.length_map]; omega)) U112 sz4 if4) (gL (dy fhg82_13) rfl rfl (OL.loadP1 (t := (tB (s1[i + g.Cols.toNat]?.getD false))) (row := (eBool true (s1[i + g.Cols.toNat]?.getD false))) (tv (T.orp 1 1 (i + g.Cols.toNat) 0) rfl) rfl (map_at _ hy14) rfl rfl st4) (gF (dz fhg74_12) rfl rfl (OF.pickT (VEv.tmpB rfl (dy fhg82_13)) (tv (tB (s1[i + g.Cols.toNat]?.getD false)) rfl)) (VRunO.nil ?_)))
              exact jq (congrArg T.bool (kAT fhg82_13 (dT _))) (js rfl (js rfl (js rfl (js rfl (js rfl (js rfl (js rfl (jn))))))))
            · refine offs 7 46 true 82 (dz fhg82_13) rfl rfl rfl ?_
              refine gF (dz fhg74_12) rfl rfl (OF.pickF (VEv.tmpB rfl (dz fhg82_13)) (VEv.bool false)) (VRunO.nil ?_)
              exact jq (congrArg T.bool (kAF fhg82_13)) (js rfl (js rfl (js rfl (js rfl (js rfl (js rfl (js rfl (jn))))))))
          refine fO (OF.pickF (VEv.tmpB rfl (dz fhg74_12)) (tv (tB (decide ((i + g.Cols.toNat < s1.length) ∧ ((s1[i + g.Cols.toNat]?.getD false) = true)))) rfl)) (VRunO.nil ?_)
          exact jq (congrArg T.bool (kOF fhg74_12 rfl)) (js rfl (js rfl (js rfl (js rfl (js rfl (js rfl (js rfl (js rfl (js rfl (js rfl (js rfl (js rfl (js rfl (js rfl (js rfl (js rfl (jn)))))))))))))))))
      refine aO (tB (decide (((((0 < m) ∧ ((s1[i - 1]?.getD false) = true)) ∨ (((((m + 1) : Nat) : Int) < g.Cols) ∧ ((s1[(i + 1)]?.getD false) = true))) ∨ ((g.Cols ≤ ((i : Nat) : Int)) ∧ ((s1[i - g.Cols.toNat]?.getD false) = true))) ∨ ((i + g.Cols.toNat < s1.length) ∧ ((s1[i + g.Cols.toNat]?.getD false) = true))))) rfl (nt (sr (mO (tB (decide (((((0 < m) ∧ ((s1[i - 1]?.getD false) = true)) ∨ (((((m + 1) : Nat) : Int) < g.Cols) ∧ ((s1[(i + 1)]?.getD false) = true))) ∨ ((g.Cols ≤ ((i : Nat) : Int)) ∧ ((s1[i - g.Cols.toNat]?.getD false) = true))) ∨ ((i + g.Cols.toNat < s1.length) ∧ ((s1[i + g.Cols.toNat]?.getD false) = true))))) rfl (nt ?_))))
      refine cd (((((0 < m) ∧ ((s1[i - 1]?.getD false) = true)) ∨ (((((m + 1) : Nat) : Int) < g.Cols) ∧ ((s1[(i + 1)]?.getD false) = true))) ∨ ((g.Cols ≤ ((i : Nat) : Int)) ∧ ((s1[i - g.Cols.toNat]?.getD false) = true))) ∨ ((i + g.Cols.toNat < s1.length) ∧ ((s1[i + g.Cols.toNat]?.getD false) = true))) rfl (fun fhc3 => ?_) fun fhc3 => ?_
      · rw [hm] at fhc3
        have q1 := grow_yes (g := g) (s := s1) (ag := ag1) (i := i) ⟨by omega, on_no.2 (fun h => fhc2 (.inl (e2.symm.trans h))), (near_iff hB.1 fhc1).1 fhc3⟩
        refine sr (mO (T.os 1 1 0 ((s1.map (eBool true)).length)) rfl (mO (tN i) rfl (fO (B.indexAddrO (i := i) (tv (T.os 1 1 0 ((s1.map (eBool true)).length)) rfl) (tv (tN i) rfl) rfl (by (simp only [List.length_map]; omega)) U112 sz4 if4) (cO (B.storeP (us := [(tB true)]) (rows' := ((s1.set i true).map (eBool true))) (row := (eBool true x2)) (tv (T.orp 1 1 i 0) rfl) (VEv.bool true) nofun rfl (map_at _ hx2) rfl (lb rfl) if4 sz4 (bc rfl bn) (by intro r hr t ht; obtain ⟨x, _, rfl⟩ := List.mem_map.1 hr; rw [flBool] at ht; exact isPl_flat (okBool.pl _ t ht)) (set_mapE rfl)) (nt (VRun.region (fO (OF.assign (VEv.bool true)) (VRunO.nil (vinB.n (tn (VRun.region ?_)))))))))))
        refine mO (tN i) rfl (fO (xinc (tv (tN i) rfl) (VEv.int .i64 1) (by omega)) (aO (tN (i + 1)) rfl (VRunO.nil (tn ?_))))
        have he15 : (s1.set i true) = (growR g s1 i) := by exact q1.1
        refine ⟨((i + 1, growR g s1 i, growA g ag1 s1 i) : Nat × (List Bool) × Bool), ?_, ?_, Wk.mk (fun k => k) ?_ ?_ ?_⟩
        · exact hI'.next fhc1
        · show (growR g s1 i).length - (i + 1) < s1.length - i
          have e1 : (growR g s1 i).length = s1.length := by unfold growR; split <;> simp
          rw [e1]; omega
        · exact (bc ⟨(congrArg (fun n_ => T.os 1 1 0 n_) (show (s1.map (eBool true)).length = ((growR g s1 i).map (eBool true)).length from (by (rw [← q1.1]; simp; done)))), rfl⟩ (b2 (b2 (bc ⟨(congrArg T.bool (show true = (growA g ag1 s1 i) from (by exact q1.2))), rfl⟩ (b2 bn)))))
        · exact (b3 (bc ⟨(congrArg (fun l_ => some (Obj.rows 1 (List.map (eBool true) l_))) he15), (lb rfl), rfl⟩ bn))
        · exact nd rfl
      rw [hm] at fhc3
      have q1 := grow_no (g := g) (s := s1) (ag := ag1) (i := i) (by rintro ⟨h1, h2, h3⟩; exact fhc3 ((near_iff hB.1 fhc1).2 h3))
      refine sk (vinB.n (tn (VRun.region (mO (tN i) rfl (fO (xinc (tv (tN i) rfl) (VEv.int .i64 1) (by omega)) (aO (tN (i + 1)) rfl (VRunO.nil (tn ?_))))))))
      have he16 : s1 = (growR g s1 i) := by exact q1.1
      refine ⟨((i + 1, growR g s1 i, growA g ag1 s1 i) : Nat × (List Bool) × Bool), ?_, ?_, Wk.mk (fun k => k) ?_ ?_ ?_⟩
      · exact hI'.next fhc1
      · show (growR g s1 i).length - (i + 1) < s1.length - i
        have e1 : (growR g s1 i).length = s1.length := by unfold growR; split <;> simp
        rw [e1]; omega
      · exact (bc ⟨(congrArg (fun l_ => T.os 1 1 0 (List.map (eBool true) l_).length) he16), rfl⟩ (b2 (b2 (bc ⟨(congrArg T.bool (show ag1 = (growA g ag1 s1 i) from (by exact q1.2))), rfl⟩ (b2 bn)))))
      · exact (b3 (bc ⟨(congrArg (fun l_ => some (Obj.rows 1 (List.map (eBool true) l_))) he16), (lb rfl), rfl⟩ bn))
      · exact nd rfl
    refine VRun.exit (vthn.e (vthn.e (vinB.e (vinB.n (tn ?_)))))
    refine ⟨((ag1, s1) : Bool × (List Bool)), ?_, ?_, Wk.mk (fun k => k) ?_ ?_ ?_⟩
    · exact hI'.done fhc1
    · exact hI'.dec fhc0
    · exact (b2 (b2 (b2 (b2 bn))))
    · exact (b3 (b3 bn))
    · exact nd rfl
  have fhc0 : ag = false := hc0
  refine VRun.exit (vthn.e (vthn.e (vinB.e (tn (sr (mO (T.os 1 1 0 ((s.map (eBool true)).length)) rfl (aO (T.os 1 1 0 ((s.map (eBool true)).length)) rfl (nt (rt ?_)))))))))
  have hnew : s = reachL g (seen.set cell true) := by
    exact hI'.done (by simp [fhc0])
  exact vloan.r 1 (VRes.tmp (t := (T.os 1 1 0 ((s.map (eBool true)).length))) rfl VRes.nil) (congrArg (fun l_ => T.os 1 1 0 (List.map (eBool true) l_).length) hnew) (congrArg (fun n_ => T.os 1 1 0 n_) (show (s.map (eBool true)).length = (seen.map (eBool true)).length from (by (simp only [List.length_map, reachL_len, List.length_set]; omega)))) rfl (congrArg (List.map (eBool true)) hnew)
end Go.Proofs.Ytjclbdgjkecbeaa.AE
namespace Go.Proofs.Ytjclbdgjkecbeaa.AE
open Go Go.RowKit
set_option linter.unusedVariables false
set_option linter.unusedSimpArgs false
set_option maxRecDepth 20000
set_option maxHeartbeats 2000000
noncomputable section
def uniL (a b : List Bool) : List Bool := List.zipWith (fun x y => x || y) a b
def zipTo (a b : List Bool) (k : Nat) : List Bool := (uniL a b).take k ++ a.drop k
theorem uniL_len {a b : List Bool} (h : b.length = a.length) : (uniL a b).length = a.length := by simp [uniL, h]
theorem zipTo_len {a b : List Bool} {k : Nat} (h : b.length = a.length) (hk : k ≤ a.length) : (zipTo a b k).length = a.length := by
  unfold zipTo
  rw [List.length_append, List.length_take, uniL_len h, List.length_drop]; omega
theorem zipTo_at {a b : List Bool} {k : Nat} {x : Bool} (h : b.length = a.length) (hk : k < a.length) (hx : (zipTo a b k)[k]? = some x) : x = on a k := by
  unfold zipTo at hx
  rw [List.getElem?_append_right (by rw [List.length_take, uniL_len h]; omega), List.length_take, uniL_len h, Nat.min_eq_left (by omega), Nat.sub_self, List.getElem?_drop, Nat.add_zero] at hx
  rw [on, hx]; rfl
theorem on_uni {a b : List Bool} (h : b.length = a.length) (j : Nat) : on (uniL a b) j = (on a j || on b j) := by
  unfold on uniL
  rw [List.getElem?_zipWith]
  rcases Nat.lt_or_ge j a.length with h1 | h1
  · rw [List.getElem?_eq_getElem h1, List.getElem?_eq_getElem (by omega)]; rfl
  · rw [List.getElem?_eq_none h1, List.getElem?_eq_none (by omega)]; rfl
theorem zipTo_next {a b : List Bool} {k : Nat} {v : Bool} (h : b.length = a.length) (hk : k < a.length) (hv : v = (on a k || on b k)) : (zipTo a b k).set k v = zipTo a b (k + 1) := by
  have hl := uniL_len h
  have hu : (uniL a b)[k]? = some v := by
    have h1 := on_uni h k
    unfold on at h1 hv
    rw [List.getElem?_eq_getElem (by omega)] at h1 ⊢
    rw [hv, ← h1]; rfl
  unfold zipTo
  rw [List.set_append_right _ _ (by rw [List.length_take]; omega), List.length_take, hl, Nat.min_eq_left (by omega), Nat.sub_self, List.drop_eq_getElem_cons hk, List.set_cons_zero, List.take_add_one, hu]
  simp
theorem zipTo_done {a b : List Bool} {k : Nat} (h : b.length = a.length) (hk : ¬ k < a.length) : zipTo a b k = uniL a b := by
  unfold zipTo
  rw [List.take_of_length_le (by rw [uniL_len h]; omega), List.drop_of_length_le (by omega), List.append_nil]
def fresh (g : D.Grid) (i : Nat) : List Bool := reachL g ((List.replicate g.Cells.size false).set i true)
def isNew (g : D.Grid) (s : List Bool) (i : Nat) : Prop := bAt g.Cells i = 46 ∧ on s i = false
instance (g : D.Grid) (s : List Bool) (i : Nat) : Decidable (isNew g s i) := Classical.propDecidable _
def partsN (g : D.Grid) : Nat → Nat × List Bool
  | 0 => (0, List.replicate g.Cells.size false)
  | i + 1 => if isNew g (partsN g i).2 i then ((partsN g i).1 + 1, uniL (partsN g i).2 (fresh g i)) else partsN g i
theorem fresh_len (g : D.Grid) (i : Nat) : (fresh g i).length = g.Cells.size := by simp [fresh, reachL_len]
theorem partsN_len (g : D.Grid) : ∀ i, (partsN g i).2.length = g.Cells.size
  | 0 => by simp [partsN]
  | i + 1 => by
    have h := partsN_len g i
    unfold partsN
    split
    · simp only; rw [uniL_len (by rw [fresh_len, h])]; exact h
    · exact h
theorem partsN_le (g : D.Grid) : ∀ i, (partsN g i).1 ≤ i
  | 0 => Nat.le_refl _
  | i + 1 => by
    have h := partsN_le g i
    unfold partsN
    split
    · simp only; omega
    · omega
theorem parts_yes {g : D.Grid} {i : Nat} (h : isNew g (partsN g i).2 i) : (partsN g (i + 1)).1 = (partsN g i).1 + 1 ∧ (partsN g (i + 1)).2 = uniL (partsN g i).2 (fresh g i) := by
  rw [partsN, if_pos h]; exact ⟨rfl, rfl⟩
theorem parts_no {g : D.Grid} {i : Nat} (h : ¬ isNew g (partsN g i).2 i) : partsN g (i + 1) = partsN g i := by
  rw [partsN, if_neg h]
def partsG (g : D.Grid) : Nat := if gridOk g then (partsN g g.Cells.size).1 else 0
theorem parts_end {g : D.Grid} {i : Nat} (h1 : i ≤ g.Cells.size) (h2 : gridOk g ∨ i = 0) (h3 : ¬ (i < g.Cells.size ∧ gridOk g)) : (partsN g i).1 = partsG g := by
  unfold partsG
  by_cases hg : gridOk g
  · rw [if_pos hg, show i = g.Cells.size by have : ¬ i < g.Cells.size := fun h => h3 ⟨h, hg⟩; omega]
  · rw [if_neg hg, h2.resolve_left hg]; rfl
theorem orB (x y : Bool) : decide (x = true ∨ y = true) = (x || y) := by cases x <;> cases y <;> rfl
end
theorem W_spec_PartsOf (n : Nat) (g : D.Grid) (hc : g.Cells.size ≤ mx) : Pure (acall Try.prog (n + 3)) 95 [(T.agg (eGrid false g))] (tN (partsG g)) := by
  refine Pure.intro (rs := [ResultVar.tmp 2]) Try.func95 rfl rfl rfl (E0 := [(0, (T.agg (eGrid false g)))]) rfl ?_
  obtain ⟨hlim, hmx, hmax⟩ := lims
  refine sr (kO (B.box (ts := (eGrid false g)) (tv (T.agg (eGrid false g)) rfl) nofun rfl) (fO (OF.assign (VEv.int .i64 0)) (nt (sr (fO (OF.assign (VEv.int .i64 0)) (nt (sr (kO (OM.slice0 U112 zo4 (by kernel_rfl) rfl (by rw [sz4]; decide) sz4) (aO (T.os 1 1 0 0) rfl (nt (sq ?_)))))))))))
  refine sr (fO (OF.assign (VEv.int .i64 0)) (nt (VRun.block ?_)))
  have he1 : [] = ((List.replicate 0 false).map (eBool true)) := by rfl
  refine VRun.loop (A := Nat) (fun s_ => [(1, (T.op 0 0)), (2, (tN 0)), (3, (tN 0)), (4, (T.os 1 1 0 (((List.replicate s_ false).map (eBool true)).length))), (5, (tN s_))]) (fun s_ => mkO [(0, (Obj.cells (eGrid false g))), (1, (Obj.rows 1 ((List.replicate s_ false).map (eBool true))))]) 2 (fun s_ => s_ ≤ g.Cells.size) (fun s_ => g.Cells.size - s_) (0 : Nat) ?_ (Wk.mk (fun k => k) ?_ ?_ ?_) ?_
  · (simp; done)
  · exact (b2 (b2 (b2 (bc ⟨(congrArg (fun n_ => T.os 1 1 0 n_) (show 0 = ((List.replicate 0 false).map (eBool true)).length from (by rfl))), rfl⟩ (b2 bn)))))
  · exact (b3 (bc ⟨(congrArg (fun l_ => some (Obj.rows 1 l_)) he1), (lb rfl), rfl⟩ bn))
  · exact nd rfl
  rintro k (hI' : k ≤ g.Cells.size)
  show VRun _ _ _ [(1, (T.op 0 0)), (2, (tN 0)), (3, (tN 0)), (4, (T.os 1 1 0 (((List.replicate k false).map (eBool true)).length))), (5, (tN k))] (mkO [(0, (Obj.cells (eGrid false g))), (1, (Obj.rows 1 ((List.replicate k false).map (eBool true))))]) 2 _
  have hK1 := hI'
  refine sq (sr (mO (tN k) rfl (lf (tS g.Cells) rfl fa29_2 rfl rfl st9 (lO (B.lenS (tv (tS g.Cells) rfl) U9) (fO (xls' (tv (tN k) rfl) (tv (tN g.Cells.size) rfl)) (nt ?_))))))
  refine cd (k < g.Cells.size) rfl (fun fhc0 => ?_) fun fhc0 => ?_
  · refine sk ?_
    refine tn (sq (VRun.block (VRun.region (mO (T.os 1 1 0 (((List.replicate k false).map (eBool true)).length)) rfl (kO (OM.buildSlice (l := [(tB false)]) (VEvp.cons (VEv.bool false) VEvp.nil) rfl (by decide) (bc (nofun) bn) (bc ((bc (rfl) bn)) bn) (bc (rfl) bn) U112 zo4 (by kernel_rfl) rfl (by rw [sz4]; decide) sz4 (Nat.le_of_ble_eq_true rfl)) (cO (B.append (rows := ((List.replicate k false).map (eBool true))) (rows2 := [[(tB false)]]) (rows3 := ((List.replicate k false ++ [false]).map (eBool true))) (VDst.own (tv (T.os 1 1 0 (((List.replicate k false).map (eBool true)).length)) rfl) rfl rfl) (VSrc.own (tv (T.os 1 2 0 1) rfl) rfl rfl U112 (bc (bc rfl bn) bn)) (by decide) U112 sz4 (by decide) zo4 rfl (of_decide_eq_true (by kernel_rfl)) (by (simp only [List.length_map, List.length_append, List.length_cons, List.length_nil, List.length_replicate, List.length_set, List.length_drop, List.length_take, lim] at *; omega)) ((List.map_append (f := eBool true) (l₁ := List.replicate k false) (l₂ := [false])).symm)) (aO (T.os 1 3 0 (((List.replicate k false ++ [false]).map (eBool true)).length)) rfl (VRunO.nil (vinB.n (tn (VRun.region ?_)))))))))))
    refine mO (tN k) rfl (fO (xinc (tv (tN k) rfl) (VEv.int .i64 1) (by omega)) (aO (tN (k + 1)) rfl (VRunO.nil (tn ?_))))
    have he2 : (List.replicate k false ++ [false]) = List.replicate (k + 1) false := by rw [List.replicate_succ']
    refine ⟨(k + 1 : Nat), ?_, ?_, Wk.mk (fun k => if k = 1 then 3 else  k) ?_ ?_ ?_⟩
    · trivial
    · omega
    · exact (b2 (b2 (b2 (bc ⟨(congrArg (fun l_ => T.os 1 3 0 (List.map (eBool true) l_).length) he2), rfl⟩ (b2 bn)))))
    · exact (b3 (bc ⟨(congrArg (fun l_ => some (Obj.rows 1 (List.map (eBool true) l_))) he2), (lb rfl), rfl⟩ bn))
    · exact nd rfl
  refine VRun.exit (vthn.e (vthn.e (vinB.e (tn (sq (sr (fO (OF.assign (VEv.int .i64 0)) (nt (VRun.block ?_)))))))))
  have he3 : List.replicate k false = (partsN g 0).2 := by (show List.replicate k false = List.replicate g.Cells.size false; rw [show k = g.Cells.size by omega])
  refine VRun.loop (A := Nat) (fun s_ => [(1, (T.op 0 0)), (2, (tN 0)), (3, (tN ((partsN g s_).1))), (4, (T.os 1 1 0 ((((partsN g s_).2).map (eBool true)).length))), (6, (tN s_))]) (fun s_ => mkO [(0, (Obj.cells (eGrid false g))), (1, (Obj.rows 1 (((partsN g s_).2).map (eBool true))))]) 2 (fun s_ => s_ ≤ g.Cells.size ∧ (gridOk g ∨ s_ = 0)) (fun s_ => g.Cells.size - s_) (0 : Nat) ?_ (Wk.mk (fun k => k) ?_ ?_ ?_) ?_
  · exact ⟨Nat.zero_le _, .inr rfl⟩
  · exact (b2 (b2 (bc ⟨(congrArg (T.int .i64) (show 0 = (((partsN g 0).1 : Nat) : Int) from (by rfl))), rfl⟩ (bc ⟨(congrArg (fun l_ => T.os 1 1 0 (List.map (eBool true) l_).length) he3), rfl⟩ (b2 bn)))))
  · exact (b3 (bc ⟨(congrArg (fun l_ => some (Obj.rows 1 (List.map (eBool true) l_))) he3), (lb rfl), rfl⟩ bn))
  · exact nd rfl
  rintro i (hI' : i ≤ g.Cells.size ∧ (gridOk g ∨ i = 0))
  show VRun _ _ _ [(1, (T.op 0 0)), (2, (tN 0)), (3, (tN ((partsN g i).1))), (4, (T.os 1 1 0 ((((partsN g i).2).map (eBool true)).length))), (6, (tN i))] (mkO [(0, (Obj.cells (eGrid false g))), (1, (Obj.rows 1 (((partsN g i).2).map (eBool true))))]) 2 _
  have hI1 := hI'.1
  have hpl := partsN_len g i
  have hpn := partsN_le g i
  refine sq (sr (mO (tN i) rfl (lf (tS g.Cells) rfl fa29_2 rfl rfl st9 (lO (B.lenS (tv (tS g.Cells) rfl) U9) (fO (xls' (tv (tN i) rfl) (tv (tN g.Cells.size) rfl)) (mO (tB (decide (i < g.Cells.size))) rfl ?_))))))
  refine VRunO.joinB 3 [27, 28] 29 (tB (decide ((i < g.Cells.size) ∧ (gridOk g)))) ?_ ?_
  · refine gw (i < g.Cells.size) (fun fhg26_4 => ?_) fun fhg26_4 => ?_
    · refine gL (dy fhg26_4) rfl rfl (OL.loadOn (us := (eGrid false g)) (tv (T.op 0 0) rfl) rfl st29 sz29 (lb rfl) rfl) ?_
      refine VRunO.chain (VWant.on rfl rfl (dy fhg26_4)) (cS (vc (tv (T.agg (eGrid false g)) rfl) vn) (LendL.cons (lg okeGrid) ln) (W_spec_IsGrid (n + 0) g (by omega)) rfl rfl) (fO (OF.pickT (VEv.tmpB rfl (dy fhg26_4)) (tv (tB (decide (gridOk g))) rfl)) (VRunO.nil ?_))
      exact jq (congrArg T.bool (kAT fhg26_4 rfl)) (js rfl (js rfl (jn)))
    · refine offs 2 5 true 26 (dz fhg26_4) rfl rfl rfl ?_
      refine fO (OF.pickF (VEv.tmpB rfl (dz fhg26_4)) (VEv.bool false)) (VRunO.nil ?_)
      exact jq (congrArg T.bool (kAF fhg26_4)) (js rfl (js rfl (jn)))
  refine nt ?_
  refine cd ((i < g.Cells.size) ∧ (gridOk g)) rfl (fun fhc1 => ?_) fun fhc1 => ?_
  · refine sk ?_
    refine tn (sq (VRun.block (sr (lf (tS g.Cells) rfl fa29_2 rfl rfl st9 (mO (tN i) rfl ?_)))))
    have hb5 : i < g.Cells.size := (by omega)
    refine fO (xix (tv (tS g.Cells) rfl) (tv (tN i) rfl) hb5 U9) (fO (xeq (tv (T.int .u8 (bAt g.Cells i)) rfl) (VEv.int .u8 46)) (mO (tB (decide (bAt g.Cells i = 46))) rfl ?_))
    refine VRunO.joinB 6 [38, 39, 40, 41, 42] 43 (tB (decide ((bAt g.Cells i = 46) ∧ ((!(((partsN g i).2)[i]?.getD false)) = true)))) ?_ ?_
    · refine gw (bAt g.Cells i = 46) (fun fhg37_6 => ?_) fun fhg37_6 => ?_
      · refine gF (dy fhg37_6) rfl rfl (OF.move (tv (T.os 1 1 0 ((((partsN g i).2).map (eBool true)).length)) rfl)) ?_
        refine gF (dy fhg37_6) rfl rfl (OF.move (tv (tN i) rfl)) ?_
        have hy7 : ((partsN g i).2)[i]? = some (((partsN g i).2)[i]?.getD false) := getD_at false (by omega)
        refine gF (dy fhg37_6) rfl rfl (B.indexAddrO (i := i) (tv (T.os 1 1 0 ((((partsN g i).2).map (eBool true)).length)) rfl) (tv (tN i) rfl) rfl (by (simp only [List.length_map]; omega)) U112 sz4 if4) (gL (dy fhg37_6) rfl rfl (OL.loadP1 (t := (tB (((partsN g i).2)[i]?.getD false))) (row := (eBool true (((partsN g i).2)[i]?.getD false))) (tv (T.orp 1 1 i 0) rfl) rfl (map_at _ hy7) rfl rfl st4) (gF (dy fhg37_6) rfl rfl (xnot (tv (tB (((partsN g i).2)[i]?.getD false)) rfl)) (fO (OF.pickT (VEv.tmpB rfl (dy fhg37_6)) (tv (tB (!(((partsN g i).2)[i]?.getD false))) rfl)) (VRunO.nil ?_))))
        exact jq (congrArg T.bool (kAT fhg37_6 (dT _))) (js rfl (js rfl (js rfl (js rfl (js rfl (jn))))))
      · refine offs 5 5 true 37 (dz fhg37_6) rfl rfl rfl ?_
        refine fO (OF.pickF (VEv.tmpB rfl (dz fhg37_6)) (VEv.bool false)) (VRunO.nil ?_)
        exact jq (congrArg T.bool (kAF fhg37_6)) (js rfl (js rfl (js rfl (js rfl (js rfl (jn))))))
    refine nt ?_
    refine cd ((bAt g.Cells i = 46) ∧ ((!(((partsN g i).2)[i]?.getD false)) = true)) rfl (fun fhc2 => ?_) fun fhc2 => ?_
    · have q0 : isNew g (partsN g i).2 i := ⟨fhc2.1, by simpa [on] using fhc2.2⟩
      have q1 := parts_yes q0
      have hgs := fhc1.2.size
      refine sr (mO (tN ((partsN g i).1)) rfl (fO (xinc (tv (tN ((partsN g i).1)) rfl) (VEv.int .i64 1) (by omega)) (aO (tN ((partsN g i).1 + 1)) rfl (nt (sr (kO (OM.slice0 U112 zo4 (by kernel_rfl) rfl (by rw [sz4]; decide) sz4) (aO (T.os 1 2 0 0) rfl (nt (sq (sr (fO (OF.assign (VEv.int .i64 0)) ?_)))))))))))
      refine nt (VRun.block ?_)
      have he8 : [] = ((List.replicate 0 false).map (eBool true)) := by rfl
      refine VRun.loop (A := Nat) (fun s_ => [(1, (T.op 0 0)), (2, (tN 0)), (3, (tN ((partsN g i).1 + 1))), (4, (T.os 1 1 0 ((((partsN g i).2).map (eBool true)).length))), (6, (tN i)), (7, (T.os 1 2 0 (((List.replicate s_ false).map (eBool true)).length))), (8, (tN s_))]) (fun s_ => mkO [(0, (Obj.cells (eGrid false g))), (1, (Obj.rows 1 (((partsN g i).2).map (eBool true)))), (2, (Obj.rows 1 ((List.replicate s_ false).map (eBool true))))]) 3 (fun s_ => s_ ≤ (partsN g i).2.length) (fun s_ => (partsN g i).2.length - s_) (0 : Nat) ?_ (Wk.mk (fun k => k) ?_ ?_ ?_) ?_
      · (simp; done)
      · exact (b2 (b2 (b2 (b2 (b2 (bc ⟨(congrArg (fun n_ => T.os 1 2 0 n_) (show 0 = ((List.replicate 0 false).map (eBool true)).length from (by rfl))), rfl⟩ (b2 bn)))))))
      · exact (b3 (b3 (bc ⟨(congrArg (fun l_ => some (Obj.rows 1 l_)) he8), (lb rfl), rfl⟩ bn)))
      · exact nd rfl
      rintro k1 (hI' : k1 ≤ (partsN g i).2.length)
      show VRun _ _ _ [(1, (T.op 0 0)), (2, (tN 0)), (3, (tN ((partsN g i).1 + 1))), (4, (T.os 1 1 0 ((((partsN g i).2).map (eBool true)).length))), (6, (tN i)), (7, (T.os 1 2 0 (((List.replicate k1 false).map (eBool true)).length))), (8, (tN k1))] (mkO [(0, (Obj.cells (eGrid false g))), (1, (Obj.rows 1 (((partsN g i).2).map (eBool true)))), (2, (Obj.rows 1 ((List.replicate k1 false).map (eBool true))))]) 3 _
      have hK1 := hI'
      refine sq (sr (mO (tN k1) rfl (mO (T.os 1 1 0 ((((partsN g i).2).map (eBool true)).length)) rfl (lO (B.lenO (m := ((partsN g i).2).length) (tv (T.os 1 1 0 ((((partsN g i).2).map (eBool true)).length)) rfl) U112 (List.length_map ..)) (fO (xls' (tv (tN k1) rfl) (tv (tN (((partsN g i).2).length)) rfl)) (nt ?_))))))
      refine cd (k1 < ((partsN g i).2).length) rfl (fun fhc3 => ?_) fun fhc3 => ?_
      · refine sk ?_
        refine tn (sq (VRun.block (VRun.region (mO (T.os 1 2 0 (((List.replicate k1 false).map (eBool true)).length)) rfl (kO (OM.buildSlice (l := [(tB false)]) (VEvp.cons (VEv.bool false) VEvp.nil) rfl (by decide) (bc (nofun) bn) (bc ((bc (rfl) bn)) bn) (bc (rfl) bn) U112 zo4 (by kernel_rfl) rfl (by rw [sz4]; decide) sz4 (Nat.le_of_ble_eq_true rfl)) (cO (B.append (rows := ((List.replicate k1 false).map (eBool true))) (rows2 := [[(tB false)]]) (rows3 := ((List.replicate k1 false ++ [false]).map (eBool true))) (VDst.own (tv (T.os 1 2 0 (((List.replicate k1 false).map (eBool true)).length)) rfl) rfl rfl) (VSrc.own (tv (T.os 1 3 0 1) rfl) rfl rfl U112 (bc (bc rfl bn) bn)) (by decide) U112 sz4 (by decide) zo4 rfl (of_decide_eq_true (by kernel_rfl)) (by (simp only [List.length_map, List.length_append, List.length_cons, List.length_nil, List.length_replicate, List.length_set, List.length_drop, List.length_take, lim] at *; omega)) ((List.map_append (f := eBool true) (l₁ := List.replicate k1 false) (l₂ := [false])).symm)) (aO (T.os 1 4 0 (((List.replicate k1 false ++ [false]).map (eBool true)).length)) rfl (VRunO.nil (vinB.n (tn (VRun.region ?_)))))))))))
        refine mO (tN k1) rfl (fO (xinc (tv (tN k1) rfl) (VEv.int .i64 1) (by omega)) (aO (tN (k1 + 1)) rfl (VRunO.nil (tn ?_))))
        have he9 : (List.replicate k1 false ++ [false]) = List.replicate (k1 + 1) false := by rw [List.replicate_succ']
        refine ⟨(k1 + 1 : Nat), ?_, ?_, Wk.mk (fun k => if k = 2 then 4 else  k) ?_ ?_ ?_⟩
        · trivial
        · omega
        · exact (b2 (b2 (b2 (b2 (b2 (bc ⟨(congrArg (fun l_ => T.os 1 4 0 (List.map (eBool true) l_).length) he9), rfl⟩ (b2 bn)))))))
        · exact (b3 (b3 (bc ⟨(congrArg (fun l_ => some (Obj.rows 1 (List.map (eBool true) l_))) he9), (lb rfl), rfl⟩ bn)))
        · exact nd rfl
      have hk6 : k1 = g.Cells.size := by omega
      have hq4 : (fresh g i).length = (partsN g i).2.length := by rw [fresh_len, hpl]
      have hfr : reachL g ((List.replicate k1 false).set i true) = fresh g i := by rw [fresh, hk6]
      have hrl : (reachL g ((List.replicate k1 false).set i true)).length = g.Cells.size := by rw [hfr, fresh_len]
      refine VRun.exit (vthn.e (vthn.e (vinB.e (tn (sr (lO (OL.loadOn (us := (eGrid false g)) (tv (T.op 0 0) rfl) rfl st29 sz29 (lb rfl) rfl) (mO (T.os 1 2 0 (((List.replicate k1 false).map (eBool true)).length)) rfl (mO (tN i) rfl (cO (OC.callLoan (ts := [(T.agg (eGrid false g)), (T.os 1 0 0 (((List.replicate k1 false).map (eBool true)).length)), (tN i)]) (k := 2) (r := (T.os 1 0 0 (((reachL g ((List.replicate k1 false).set i true)).map (eBool true)).length))) (rows := ((List.replicate k1 false).map (eBool true))) (rows' := ((reachL g ((List.replicate k1 false).set i true)).map (eBool true))) rfl (vc (tv (T.agg (eGrid false g)) rfl) (vc (tv (T.os 1 2 0 (((List.replicate k1 false).map (eBool true)).length)) rfl) (vc (tv (tN i) rfl) vn))) rfl rfl rfl (LRes.os _ _) rfl (scMap (fun _ => rfl) _) (scMap (fun _ => rfl) _) (W_spec_l10Reach (n + 1) g (List.replicate k1 false) i (by exact fhc1.2) (by (simp only [List.length_replicate]; omega)) (by (simp only [List.length_replicate]; omega)))) (aO (T.os 1 2 0 (((reachL g ((List.replicate k1 false).set i true)).map (eBool true)).length)) rfl (nt ?_)))))))))))
      refine sr (fO (OF.assign (VEv.int .i64 0)) (nt (VRun.block ?_)))
      have he10 : (partsN g i).2 = zipTo (partsN g i).2 (fresh g i) 0 := by rfl
      refine VRun.loop (A := Nat) (fun s_ => [(1, (T.op 0 0)), (2, (tN 0)), (3, (tN ((partsN g i).1 + 1))), (4, (T.os 1 2 0 (((zipTo (partsN g i).2 (fresh g i) s_).map (eBool true)).length))), (6, (tN i)), (7, (T.os 1 1 0 (((reachL g ((List.replicate k1 false).set i true)).map (eBool true)).length))), (9, (tN s_))]) (fun s_ => mkO [(0, (Obj.cells (eGrid false g))), (1, (Obj.rows 1 ((reachL g ((List.replicate k1 false).set i true)).map (eBool true)))), (2, (Obj.rows 1 ((zipTo (partsN g i).2 (fresh g i) s_).map (eBool true))))]) 3 (fun s_ => s_ ≤ (partsN g i).2.length) (fun s_ => (partsN g i).2.length - s_) (0 : Nat) ?_ (Wk.mk (fun k => if k = 1 then 2 else if k = 2 then 1 else  k) ?_ ?_ ?_) ?_
      · (simp; done)
      · exact (b2 (b2 (b2 (bc ⟨(congrArg (fun l_ => T.os 1 1 0 (List.map (eBool true) l_).length) he10), rfl⟩ (b2 (b2 (b2 bn)))))))
      · exact (b3 (b3 (bc ⟨(congrArg (fun l_ => some (Obj.rows 1 (List.map (eBool true) l_))) he10), (lb rfl), rfl⟩ bn)))
      · exact nd rfl
      rintro j (hI' : j ≤ (partsN g i).2.length)
      show VRun _ _ _ [(1, (T.op 0 0)), (2, (tN 0)), (3, (tN ((partsN g i).1 + 1))), (4, (T.os 1 2 0 (((zipTo (partsN g i).2 (fresh g i) j).map (eBool true)).length))), (6, (tN i)), (7, (T.os 1 1 0 (((reachL g ((List.replicate k1 false).set i true)).map (eBool true)).length))), (9, (tN j))] (mkO [(0, (Obj.cells (eGrid false g))), (1, (Obj.rows 1 ((reachL g ((List.replicate k1 false).set i true)).map (eBool true)))), (2, (Obj.rows 1 ((zipTo (partsN g i).2 (fresh g i) j).map (eBool true))))]) 3 _
      have hJ1 := hI'
      have hzl := zipTo_len hq4 hJ1
      refine sq (sr (mO (tN j) rfl (mO (T.os 1 2 0 (((zipTo (partsN g i).2 (fresh g i) j).map (eBool true)).length)) rfl (lO (B.lenO (m := (zipTo (partsN g i).2 (fresh g i) j).length) (tv (T.os 1 2 0 (((zipTo (partsN g i).2 (fresh g i) j).map (eBool true)).length)) rfl) U112 (List.length_map ..)) (fO (xls' (tv (tN j) rfl) (tv (tN ((zipTo (partsN g i).2 (fresh g i) j).length)) rfl)) (nt ?_))))))
      refine cd (j < (zipTo (partsN g i).2 (fresh g i) j).length) rfl (fun fhc4 => ?_) fun fhc4 => ?_
      · refine sk ?_
        refine tn (sq (VRun.block (VRun.region (mO (T.os 1 2 0 (((zipTo (partsN g i).2 (fresh g i) j).map (eBool true)).length)) rfl (mO (tN j) rfl (mO (T.os 1 2 0 (((zipTo (partsN g i).2 (fresh g i) j).map (eBool true)).length)) rfl (mO (tN j) rfl ?_)))))))
        obtain ⟨x1, hx1⟩ : ∃ x, (zipTo (partsN g i).2 (fresh g i) j)[j]? = some x := ⟨_, List.getElem?_eq_getElem (by omega)⟩
        have e3 : x1 = on (partsN g i).2 j := zipTo_at hq4 (by omega) hx1
        refine fO (B.indexAddrO (i := j) (tv (T.os 1 2 0 (((zipTo (partsN g i).2 (fresh g i) j).map (eBool true)).length)) rfl) (tv (tN j) rfl) rfl (by (simp only [List.length_map]; omega)) U112 sz4 if4) (lO (OL.loadP1 (t := (tB x1)) (row := (eBool true x1)) (tv (T.orp 1 2 j 0) rfl) rfl (map_at _ hx1) rfl rfl st4) (mO (tB x1) rfl ?_))
        refine VRunO.joinB 5 [73, 74, 75, 76] 77 (tB (decide ((x1 = true) ∨ (((reachL g ((List.replicate k1 false).set i true))[j]?.getD false) = true)))) ?_ ?_
        · refine bool_way x1 (fun hg72_11 => ?_) (fun hg72_11 => ?_)
          · have fhg72_11 : x1 = true := hg72_11
            refine offs 4 6 false 72 hg72_11 rfl rfl rfl (fO (OF.pickT (VEv.tmpB rfl hg72_11) (VEv.bool true)) (VRunO.nil ?_))
            exact jq (congrArg T.bool (jOT (dT _) hg72_11)) (js rfl (js rfl (js rfl (js rfl (jn)))))
          · have fhg72_11 : x1 = false := hg72_11
            refine gF hg72_11 rfl rfl (OF.move (tv (T.os 1 1 0 (((reachL g ((List.replicate k1 false).set i true)).map (eBool true)).length)) rfl)) (gF hg72_11 rfl rfl (OF.move (tv (tN j) rfl)) ?_)
            have hy12 : (reachL g ((List.replicate k1 false).set i true))[j]? = some ((reachL g ((List.replicate k1 false).set i true))[j]?.getD false) := getD_at false (by omega)
            refine gF hg72_11 rfl rfl (B.indexAddrO (i := j) (tv (T.os 1 1 0 (((reachL g ((List.replicate k1 false).set i true)).map (eBool true)).length)) rfl) (tv (tN j) rfl) rfl (by (simp only [List.length_map]; omega)) U112 sz4 if4) (gL hg72_11 rfl rfl (OL.loadP1 (t := (tB ((reachL g ((List.replicate k1 false).set i true))[j]?.getD false))) (row := (eBool true ((reachL g ((List.replicate k1 false).set i true))[j]?.getD false))) (tv (T.orp 1 1 j 0) rfl) rfl (map_at _ hy12) rfl rfl st4) (fO (OF.pickF (VEv.tmpB rfl hg72_11) (tv (tB ((reachL g ((List.replicate k1 false).set i true))[j]?.getD false)) rfl)) (VRunO.nil ?_)))
            exact jq (congrArg T.bool (jOF (dT _) hg72_11 (dT _))) (js rfl (js rfl (js rfl (js rfl (jn)))))
        refine fO (B.indexAddrO (i := j) (tv (T.os 1 2 0 (((zipTo (partsN g i).2 (fresh g i) j).map (eBool true)).length)) rfl) (tv (tN j) rfl) rfl (by (simp only [List.length_map]; omega)) U112 sz4 if4) (cO (B.storeP (us := [(tB (decide ((x1 = true) ∨ (((reachL g ((List.replicate k1 false).set i true))[j]?.getD false) = true))))]) (rows' := (((zipTo (partsN g i).2 (fresh g i) j).set j (decide ((x1 = true) ∨ (((reachL g ((List.replicate k1 false).set i true))[j]?.getD false) = true)))).map (eBool true))) (row := (eBool true x1)) (tv (T.orp 1 2 j 0) rfl) (tv (tB (decide ((x1 = true) ∨ (((reachL g ((List.replicate k1 false).set i true))[j]?.getD false) = true)))) rfl) nofun rfl (map_at _ hx1) rfl (lb rfl) if4 sz4 (bc rfl bn) (by intro r hr t ht; obtain ⟨x, _, rfl⟩ := List.mem_map.1 hr; rw [flBool] at ht; exact isPl_flat (okBool.pl _ t ht)) (set_mapE rfl)) (VRunO.nil (vinB.n (tn (VRun.region (mO (tN j) rfl (fO (xinc (tv (tN j) rfl) (VEv.int .i64 1) (by omega)) (aO (tN (j + 1)) rfl (VRunO.nil (tn ?_))))))))))
        have he13 : ((zipTo (partsN g i).2 (fresh g i) j).set j (decide ((x1 = true) ∨ (((reachL g ((List.replicate k1 false).set i true))[j]?.getD false) = true)))) = zipTo (partsN g i).2 (fresh g i) (j + 1) := by (refine zipTo_next hq4 (by omega) ?_; rw [e3, hfr]; exact orB _ _)
        refine ⟨(j + 1 : Nat), ?_, ?_, Wk.mk (fun k => k) ?_ ?_ ?_⟩
        · omega
        · omega
        · exact (b2 (b2 (b2 (bc ⟨(congrArg (fun n_ => T.os 1 2 0 n_) (show ((zipTo (partsN g i).2 (fresh g i) j).map (eBool true)).length = ((zipTo (partsN g i).2 (fresh g i) (j + 1)).map (eBool true)).length from (by (simp only [List.length_map, List.length_set]; rw [zipTo_len hq4 hJ1, zipTo_len hq4 (by omega)])))), rfl⟩ (b2 (b2 (b2 bn)))))))
        · exact (b3 (b3 (bc ⟨(congrArg (fun l_ => some (Obj.rows 1 (List.map (eBool true) l_))) he13), (lb rfl), rfl⟩ bn)))
        · exact nd rfl
      have hq5 : ¬ j < (partsN g i).2.length := by omega
      refine VRun.exit (vthn.e (vthn.e (vinB.e (vinB.n (tn (VRun.region (mO (tN i) rfl (fO (xinc (tv (tN i) rfl) (VEv.int .i64 1) (by omega)) (aO (tN (i + 1)) rfl (VRunO.nil (tn ?_)))))))))))
      have he14 : zipTo (partsN g i).2 (fresh g i) j = (partsN g (i + 1)).2 := by (rw [q1.2]; exact zipTo_done hq4 hq5)
      refine ⟨(i + 1 : Nat), ?_, ?_, Wk.mk (fun k => if k = 1 then 2 else  k) ?_ ?_ ?_⟩
      · exact ⟨by omega, .inl fhc1.2⟩
      · omega
      · exact (b2 (b2 (bc ⟨(congrArg (T.int .i64) (show ((((partsN g i).1 + 1) : Nat) : Int) = (((partsN g (i + 1)).1 : Nat) : Int) from (by omega))), rfl⟩ (bc ⟨(congrArg (fun l_ => T.os 1 2 0 (List.map (eBool true) l_).length) he14), rfl⟩ (b2 bn)))))
      · exact (b3 (bc ⟨(congrArg (fun l_ => some (Obj.rows 1 (List.map (eBool true) l_))) he14), (lb rfl), rfl⟩ bn))
      · exact nd rfl
    have q0 : ¬ isNew g (partsN g i).2 i := fun h => fhc2 ⟨h.1, by have := h.2; unfold on at this; rw [this]; rfl⟩
    refine sk (vinB.n (tn (VRun.region (mO (tN i) rfl (fO (xinc (tv (tN i) rfl) (VEv.int .i64 1) (by omega)) (aO (tN (i + 1)) rfl (VRunO.nil (tn ?_))))))))
    have he15 : (partsN g i).2 = (partsN g (i + 1)).2 := by (rw [parts_no q0]; done)
    refine ⟨(i + 1 : Nat), ?_, ?_, Wk.mk (fun k => k) ?_ ?_ ?_⟩
    · exact ⟨by omega, .inl fhc1.2⟩
    · omega
    · exact (b2 (b2 (bc ⟨(congrArg (T.int .i64) (show (((partsN g i).1 : Nat) : Int) = (((partsN g (i + 1)).1 : Nat) : Int) from (by (rw [parts_no q0]; done)))), rfl⟩ (bc ⟨(congrArg (fun l_ => T.os 1 1 0 (List.map (eBool true) l_).length) he15), rfl⟩ (b2 bn)))))
    · exact (b3 (bc ⟨(congrArg (fun l_ => some (Obj.rows 1 (List.map (eBool true) l_))) he15), (lb rfl), rfl⟩ bn))
    · exact nd rfl
  refine VRun.exit (vthn.e (vthn.e (vinB.e (tn (sr (mO (tN ((partsN g i).1)) rfl (aO (tN ((partsN g i).1)) rfl (nt (rt (vi (n' := (((partsN g i).1 : Nat) : Int)) rfl ?_))))))))))
  exact congrArg (fun x : Nat => (x : Int)) (parts_end hI1 hI'.2 fhc1)
end Go.Proofs.Ytjclbdgjkecbeaa.AE
namespace Go.Proofs.Ytjclbdgjkecbeaa.AE
open Go Go.RowKit
set_option linter.unusedVariables false
set_option linter.unusedSimpArgs false
set_option maxRecDepth 20000
set_option maxHeartbeats 2000000
noncomputable section
def inG (g : D.Grid) (r c : Int) : Prop := (0 ≤ r ∧ r < g.Rows) ∧ (0 ≤ c ∧ c < g.Cols)
def cellI (g : D.Grid) (r c : Int) : Nat := Int.toNat (r * g.Cols + c)
def goIn (g : D.Grid) (m : List Bool) (r c : Int) : Prop := inG g r c ∧ bAt g.Cells (cellI g r c) = 46 ∧ on m (cellI g r c) = false
instance (g : D.Grid) (m : List Bool) (r c : Int) : Decidable (goIn g m r c) := Classical.propDecidable _
def dfs : Nat → D.Grid → List Bool → Int → Int → List Bool
  | 0, _, m, _, _ => m
  | d + 1, g, m, r, c => if goIn g m r c then dfs d g (dfs d g (dfs d g (dfs d g (m.set (cellI g r c) true) (r - 1) c) (r + 1) c) r (c - 1)) r (c + 1) else m
theorem cellI_ok {g : D.Grid} {r c : Int} (hg : gridOk g) (h1 : 0 ≤ r ∧ r < g.Rows) (h2 : 0 ≤ c ∧ c < g.Cols) : (0 ≤ r * g.Cols ∧ r * g.Cols ≤ 36) ∧ 0 ≤ r * g.Cols + c ∧ r * g.Cols + c < ((g.Cells.size : Nat) : Int) := by
  have hs := hg.2.2.1
  have hz := hg.size
  have e1 : 0 ≤ r * g.Cols := Int.mul_nonneg h1.1 (by omega)
  have e2 : (r + 1) * g.Cols ≤ g.Rows * g.Cols := Int.mul_le_mul_of_nonneg_right (by omega) (by omega)
  rw [Int.add_mul, Int.one_mul] at e2
  omega
theorem cellI_nat {g : D.Grid} (hg : gridOk g) (a b : Nat) : cellI g ((a : Nat) : Int) ((b : Nat) : Int) = a * wG g + b := by
  obtain ⟨w, hw⟩ := Int.eq_ofNat_of_zero_le (show 0 ≤ g.Cols by have := hg.2.1; omega)
  unfold cellI wG
  rw [hw]
  show Int.toNat (((a : Nat) : Int) * ((w : Nat) : Int) + ((b : Nat) : Int)) = a * w + b
  rw [← Int.natCast_mul, ← Int.natCast_add, Int.toNat_natCast]
theorem size_nat {g : D.Grid} (hg : gridOk g) : g.Cells.size = g.Rows.toNat * wG g := by
  obtain ⟨⟨a1, a2⟩, ⟨b1, b2⟩, hs, _⟩ := hg
  obtain ⟨w, hw⟩ := Int.eq_ofNat_of_zero_le (show 0 ≤ g.Cols by omega)
  obtain ⟨r, hr⟩ := Int.eq_ofNat_of_zero_le (show 0 ≤ g.Rows by omega)
  unfold wG
  rw [hw, hr] at hs ⊢
  exact_mod_cast hs
theorem inG_nat {g : D.Grid} {r c : Int} (hg : gridOk g) (h : inG g r c) : ∃ a b : Nat, r = a ∧ c = b ∧ a < g.Rows.toNat ∧ b < wG g := by
  obtain ⟨⟨h1, h2⟩, h3, h4⟩ := h
  exact ⟨r.toNat, c.toNat, by omega, by omega, by omega, by unfold wG; omega⟩
theorem adj_of {g : D.Grid} {r c r' c' : Int} (hg : gridOk g) (h : inG g r c) (h' : inG g r' c') (hn : (r' = r ∧ (c' = c + 1 ∨ c' = c - 1)) ∨ (c' = c ∧ (r' = r + 1 ∨ r' = r - 1))) : adj g (cellI g r c) (cellI g r' c') := by
  obtain ⟨a, b, rfl, rfl, ha, hb⟩ := inG_nat hg h
  obtain ⟨a', b', rfl, rfl, ha', hb'⟩ := inG_nat hg h'
  rw [cellI_nat hg, cellI_nat hg]
  have hm : (a * wG g + b) % wG g = b := by rw [Nat.mul_comm, Nat.mul_add_mod, Nat.mod_eq_of_lt hb]
  have hm' : (a' * wG g + b') % wG g = b' := by rw [Nat.mul_comm, Nat.mul_add_mod, Nat.mod_eq_of_lt hb']
  rcases hn with ⟨h1, h2 | h2⟩ | ⟨h1, h2 | h2⟩
  · obtain rfl : a' = a := by omega
    exact .inl ⟨by omega, by rw [hm]; omega⟩
  · obtain rfl : a' = a := by omega
    exact .inr (.inl ⟨by omega, by rw [hm']; omega⟩)
  · obtain rfl : b' = b := by omega
    obtain rfl : a' = a + 1 := by omega
    exact .inr (.inr (.inl (by rw [Nat.add_mul, Nat.one_mul]; omega)))
  · obtain rfl : b' = b := by omega
    obtain rfl : a = a' + 1 := by omega
    exact .inr (.inr (.inr (by rw [Nat.add_mul, Nat.one_mul]; omega)))
theorem adj_cases {g : D.Grid} {r c : Int} {y : Nat} (hg : gridOk g) (h : inG g r c) (hy : y < g.Cells.size) (ha : adj g (cellI g r c) y) :
    (inG g (r - 1) c ∧ y = cellI g (r - 1) c) ∨ (inG g (r + 1) c ∧ y = cellI g (r + 1) c) ∨ (inG g r (c - 1) ∧ y = cellI g r (c - 1)) ∨ (inG g r (c + 1) ∧ y = cellI g r (c + 1)) := by
  have hsz := size_nat hg
  obtain ⟨⟨h1, h2⟩, h3, h4⟩ := h
  obtain ⟨a, b, rfl, rfl, ha', hb⟩ := inG_nat hg ⟨⟨h1, h2⟩, h3, h4⟩
  rw [cellI_nat hg] at ha
  have hm : (a * wG g + b) % wG g = b := by rw [Nat.mul_comm, Nat.mul_add_mod, Nat.mod_eq_of_lt hb]
  have hw : ((wG g : Nat) : Int) = g.Cols := by have := hg.2.1; unfold wG; omega
  rcases ha with ⟨e1, e2⟩ | ⟨e1, e2⟩ | e1 | e1
  · rw [hm] at e2
    refine .inr (.inr (.inr ⟨⟨⟨h1, h2⟩, by omega, by omega⟩, ?_⟩))
    rw [show ((b : Nat) : Int) + 1 = ((b + 1 : Nat) : Int) by omega, cellI_nat hg]; omega
  · have hb1 : 1 ≤ b := by
      rcases Nat.eq_zero_or_pos b with h0 | h0
      · subst h0
        exfalso
        have ha0 : 0 < a := by
          rcases Nat.eq_zero_or_pos a with g0 | g0
          · subst g0; omega
          · exact g0
        obtain ⟨a1, rfl⟩ : ∃ a1, a = a1 + 1 := ⟨a - 1, by omega⟩
        have e3 : y = a1 * wG g + (wG g - 1) := by rw [Nat.add_mul, Nat.one_mul] at e1; omega
        rw [e3, Nat.mul_comm, Nat.mul_add_mod, Nat.mod_eq_of_lt (by omega)] at e2
        omega
      · exact h0
    refine .inr (.inr (.inl ⟨⟨⟨h1, h2⟩, by omega, by omega⟩, ?_⟩))
    rw [show ((b : Nat) : Int) - 1 = ((b - 1 : Nat) : Int) by omega, cellI_nat hg]; omega
  · have ha1 : a + 1 < g.Rows.toNat := by
      rcases Nat.lt_or_ge (a + 1) g.Rows.toNat with g0 | g0
      · exact g0
      · have e4 : g.Rows.toNat = a + 1 := by omega
        rw [e4, Nat.add_mul, Nat.one_mul] at hsz
        omega
    refine .inr (.inl ⟨⟨⟨by omega, by omega⟩, h3, h4⟩, ?_⟩)
    rw [show ((a : Nat) : Int) + 1 = ((a + 1 : Nat) : Int) by omega, cellI_nat hg, Nat.add_mul, Nat.one_mul]; omega
  · have ha0 : 0 < a := by
      rcases Nat.eq_zero_or_pos a with g0 | g0
      · subst g0; omega
      · exact g0
    obtain ⟨a1, rfl⟩ : ∃ a1, a = a1 + 1 := ⟨a - 1, by omega⟩
    refine .inl ⟨⟨⟨by omega, by omega⟩, h3, h4⟩, ?_⟩
    rw [show ((a1 + 1 : Nat) : Int) - 1 = ((a1 : Nat) : Int) by omega, cellI_nat hg]
    rw [Nat.add_mul, Nat.one_mul] at e1; omega
theorem cellI_lt {g : D.Grid} {r c : Int} (hg : gridOk g) (h : inG g r c) : cellI g r c < g.Cells.size := by
  have := cellI_ok hg h.1 h.2
  unfold cellI
  omega
theorem dfs_len (g : D.Grid) : ∀ d m r c, (dfs d g m r c).length = m.length
  | 0, m, r, c => rfl
  | d + 1, m, r, c => by
    rw [dfs]
    split
    · rw [dfs_len g d, dfs_len g d, dfs_len g d, dfs_len g d, List.length_set]
    · rfl
theorem dfs_mono {g : D.Grid} {j : Nat} : ∀ d m r c, on m j = true → on (dfs d g m r c) j = true
  | 0, m, r, c, h => h
  | d + 1, m, r, c, h => by
    rw [dfs]
    split
    · refine dfs_mono d _ _ _ (dfs_mono d _ _ _ (dfs_mono d _ _ _ (dfs_mono d _ _ _ ?_)))
      have hlt := on_lt h
      unfold on at h ⊢
      rw [List.getElem?_set]
      split
      · rename_i e
        subst e
        rw [if_pos hlt]; rfl
      · exact h
    · exact h
theorem count_set_le {s : List Bool} {i : Nat} : (s.set i true).count false ≤ s.count false := by
  rcases Nat.lt_or_ge i s.length with h | h
  · rw [List.count_set h]; simp
  · rw [List.set_eq_of_length_le h]; exact Nat.le_refl _
theorem dfs_cnt (g : D.Grid) : ∀ d m r c, (dfs d g m r c).count false ≤ m.count false
  | 0, m, r, c => Nat.le_refl _
  | d + 1, m, r, c => by
    rw [dfs]
    split
    · exact Nat.le_trans (dfs_cnt g d _ _ _) (Nat.le_trans (dfs_cnt g d _ _ _) (Nat.le_trans (dfs_cnt g d _ _ _) (Nat.le_trans (dfs_cnt g d _ _ _) count_set_le)))
    · exact Nat.le_refl _
theorem dfs_sound {g : D.Grid} (hg : gridOk g) {P : Nat → Prop} (hP : ∀ i j, P i → adj g i j → j < g.Cells.size → bAt g.Cells j = 46 → P j) : ∀ d m r c, m.length = g.Cells.size → (inG g r c → bAt g.Cells (cellI g r c) = 46 → P (cellI g r c)) → ∀ j, on (dfs d g m r c) j = true → on m j = true ∨ P j
  | 0, m, r, c, _, _, j, hj => .inl hj
  | d + 1, m, r, c, hl, h, j, hj => by
    rw [dfs] at hj
    split at hj
    · rename_i hgo
      obtain ⟨g1, g2, g3⟩ := hgo
      have hv := h g1 g2
      have nb : ∀ r' c', ((r' = r ∧ (c' = c + 1 ∨ c' = c - 1)) ∨ (c' = c ∧ (r' = r + 1 ∨ r' = r - 1))) → inG g r' c' → bAt g.Cells (cellI g r' c') = 46 → P (cellI g r' c') := fun r' c' hn hi hw => hP _ _ hv (adj_of hg g1 hi hn) (cellI_lt hg hi) hw
      have l1 : (m.set (cellI g r c) true).length = g.Cells.size := by rw [List.length_set, hl]
      rcases dfs_sound hg hP d _ _ _ (by rw [dfs_len, dfs_len, dfs_len, l1]) (nb r (c + 1) (.inl ⟨rfl, .inl rfl⟩)) j hj with hj | hj
      · rcases dfs_sound hg hP d _ _ _ (by rw [dfs_len, dfs_len, l1]) (nb r (c - 1) (.inl ⟨rfl, .inr rfl⟩)) j hj with hj | hj
        · rcases dfs_sound hg hP d _ _ _ (by rw [dfs_len, l1]) (nb (r + 1) c (.inr ⟨rfl, .inl rfl⟩)) j hj with hj | hj
          · rcases dfs_sound hg hP d _ _ _ l1 (nb (r - 1) c (.inr ⟨rfl, .inr rfl⟩)) j hj with hj | hj
            · rw [on_set (by rw [hl]; exact cellI_lt hg g1)] at hj
              split at hj
              · rename_i e
                rw [e]; exact .inr hv
              · exact .inl hj
            · exact .inr hj
          · exact .inr hj
        · exact .inr hj
      · exact .inr hj
    · exact .inl hj
theorem dfs_at {g : D.Grid} (hg : gridOk g) {d : Nat} {m : List Bool} {r c : Int} (hl : m.length = g.Cells.size) (hc : m.count false < d) (hi : inG g r c) (hw : bAt g.Cells (cellI g r c) = 46) : on (dfs d g m r c) (cellI g r c) = true := by
  cases d with
  | zero => omega
  | succ d =>
    rw [dfs]
    split
    · refine dfs_mono d _ _ _ (dfs_mono d _ _ _ (dfs_mono d _ _ _ (dfs_mono d _ _ _ ?_)))
      rw [on_set (by rw [hl]; exact cellI_lt hg hi), if_pos rfl]
    · rename_i hn
      cases ho : on m (cellI g r c) with
      | true => rfl
      | false => exact absurd ⟨hi, hw, ho⟩ hn
theorem dfs_nb {g : D.Grid} (hg : gridOk g) : ∀ d m r c, m.length = g.Cells.size → m.count false < d → ∀ x y, on (dfs d g m r c) x = true → ¬ on m x = true → adj g x y → y < g.Cells.size → bAt g.Cells y = 46 → on (dfs d g m r c) y = true
  | 0, m, r, c, _, hc, x, y, _, _, _, _, _ => by omega
  | d + 1, m, r, c, hl, hc, x, y, hx, hnx, ha, hy, hw => by
    rw [dfs] at hx ⊢
    by_cases hgo : goIn g m r c
    · rw [if_pos hgo] at hx ⊢
      obtain ⟨g1, g2, g3⟩ := hgo
      have hcl := cellI_lt hg g1
      have l1 : (m.set (cellI g r c) true).length = g.Cells.size := by rw [List.length_set, hl]
      have c1 : (m.set (cellI g r c) true).count false < d := by
        have := count_put (by rw [hl]; exact hcl) g3
        omega
      generalize hm1 : m.set (cellI g r c) true = m1 at *
      have c2 := dfs_cnt g d m1 (r - 1) c
      have l2 := dfs_len g d m1 (r - 1) c
      generalize hm2 : dfs d g m1 (r - 1) c = m2 at *
      have c3 := dfs_cnt g d m2 (r + 1) c
      have l3 := dfs_len g d m2 (r + 1) c
      generalize hm3 : dfs d g m2 (r + 1) c = m3 at *
      have c4 := dfs_cnt g d m3 r (c - 1)
      have l4 := dfs_len g d m3 r (c - 1)
      generalize hm4 : dfs d g m3 r (c - 1) = m4 at *
      have up4 : ∀ j, on m4 j = true → on (dfs d g m4 r (c + 1)) j = true := fun j h => dfs_mono d _ _ _ h
      have up3 : ∀ j, on m3 j = true → on m4 j = true := fun j h => hm4 ▸ dfs_mono d _ _ _ h
      have up2 : ∀ j, on m2 j = true → on m3 j = true := fun j h => hm3 ▸ dfs_mono d _ _ _ h
      by_cases h4 : on m4 x = true
      · by_cases h3 : on m3 x = true
        · by_cases h2 : on m2 x = true
          · by_cases h1 : on m1 x = true
            · have hxv : x = cellI g r c := by
                rw [← hm1, on_set (by rw [hl]; exact hcl)] at h1
                split at h1
                · assumption
                · exact absurd h1 hnx
              subst hxv
              rcases adj_cases hg g1 hy ha with ⟨k1, rfl⟩ | ⟨k1, rfl⟩ | ⟨k1, rfl⟩ | ⟨k1, rfl⟩
              · exact up4 _ (up3 _ (up2 _ (hm2 ▸ dfs_at hg l1 c1 k1 hw)))
              · exact up4 _ (up3 _ (hm3 ▸ dfs_at hg (by omega) (by omega) k1 hw))
              · exact up4 _ (hm4 ▸ dfs_at hg (by omega) (by omega) k1 hw)
              · exact dfs_at hg (by omega) (by omega) k1 hw
            · exact up4 _ (up3 _ (up2 _ (hm2 ▸ dfs_nb hg d m1 (r - 1) c l1 c1 x y (hm2 ▸ h2) h1 ha hy hw)))
          · exact up4 _ (up3 _ (hm3 ▸ dfs_nb hg d m2 (r + 1) c (by omega) (by omega) x y (hm3 ▸ h3) h2 ha hy hw))
        · exact up4 _ (hm4 ▸ dfs_nb hg d m3 r (c - 1) (by omega) (by omega) x y (hm4 ▸ h4) h3 ha hy hw)
      · exact dfs_nb hg d m4 r (c + 1) (by omega) (by omega) x y hx h4 ha hy hw
    · rw [if_neg hgo] at hx
      exact absurd hx hnx
def closedB (g : D.Grid) (s : List Bool) : Prop := ∀ x y, on s x = true → adj g x y → y < g.Cells.size → bAt g.Cells y = 46 → on s y = true
theorem on_rep (n j : Nat) : on (List.replicate n false) j = false := by
  unfold on
  rw [List.getElem?_replicate]
  split <;> rfl
theorem fresh_at {g : D.Grid} {i j : Nat} (hi : i < g.Cells.size) : on ((List.replicate g.Cells.size false).set i true) j = true ↔ j = i := by
  rw [on_set (by simpa using hi), on_rep]
  split <;> simp [*]
theorem partsN_closed {g : D.Grid} : ∀ i, i ≤ g.Cells.size → closedB g (partsN g i).2
  | 0, _ => fun x y hx => by rw [partsN, on_rep] at hx; cases hx
  | i + 1, hi => by
    have ih := partsN_closed (g := g) i (by omega)
    by_cases hn : isNew g (partsN g i).2 i
    · rw [(parts_yes hn).2]
      intro x y hx ha hy hw
      have hl : (fresh g i).length = (partsN g i).2.length := by rw [fresh_len, partsN_len]
      rw [on_uni hl, Bool.or_eq_true] at hx ⊢
      rcases hx with hx | hx
      · exact .inl (ih x y hx ha hy hw)
      · exact .inr (on_reachL.2 (.step (on_reachL.1 hx) ha (by simpa using hy) hw))
    · rw [parts_no hn]; exact ih
theorem dfs_all {g : D.Grid} (hg : gridOk g) {d i : Nat} {m : List Bool} (hl : m.length = g.Cells.size) (hi : i < g.Cells.size) (hc : m.count false < d) (hcl : closedB g m) (hw : bAt g.Cells i = 46) :
    dfs d g m ((i / wG g : Nat) : Int) ((i % wG g : Nat) : Int) = uniL m (fresh g i) := by
  have hlf : (fresh g i).length = m.length := by rw [fresh_len, hl]
  have hci : cellI g ((i / wG g : Nat) : Int) ((i % wG g : Nat) : Int) = i := by
    rw [cellI_nat hg, Nat.mul_comm]; exact Nat.div_add_mod i _
  obtain ⟨⟨q1, q2⟩, _⟩ := cell_at hg hi
  have hin : inG g ((i / wG g : Nat) : Int) ((i % wG g : Nat) : Int) := by
    have hA := hg.1
    have hB := hg.2.1
    unfold wG
    generalize i / g.Cols.toNat = q at *
    generalize i % g.Cols.toNat = m' at *
    exact ⟨⟨by omega, by omega⟩, by omega, by omega⟩
  refine on_ext (by rw [dfs_len, uniL_len hlf]) fun j => ?_
  rw [on_uni hlf, Bool.or_eq_true]
  constructor
  · intro hj
    rcases dfs_sound hg (P := fun j => Rch g ((List.replicate g.Cells.size false).set i true) j) (fun a b h ha hb hw => .step h ha (by simpa using hb) hw) d m _ _ hl (fun _ _ => by rw [hci]; exact .base ((fresh_at hi).2 rfl)) j hj with h | h
    · exact .inl h
    · exact .inr (on_reachL.2 h)
  · rintro (hj | hj)
    · exact dfs_mono d _ _ _ hj
    · have hr := on_reachL.1 hj
      clear hj
      induction hr with
      | base h =>
        obtain rfl := (fresh_at hi).1 h
        have := dfs_at hg hl hc hin (by rw [hci]; exact hw)
        rwa [hci] at this
      | step h ha hb hw2 ih =>
        rename_i a b
        have hb' : b < g.Cells.size := by simpa using hb
        by_cases hma : on m a = true
        · exact dfs_mono d _ _ _ (hcl a b hma ha hb' hw2)
        · exact dfs_nb hg d m _ _ hl hc a b ih hma ha hb' hw2
end
theorem W_impl_PartsOf_1 (n : Nat) (nn : Nat) (g : D.Grid) : ∀ (d : Nat) (met : List Bool) (r : Int) (c : Int) (hg : gridOk g) (hn : nn = g.Cells.size) (hl : met.length = nn) (hr : -1 ≤ r ∧ r ≤ 6) (hc : -1 ≤ c ∧ c ≤ 6) (hu : met.count false < d), Loan (acall Try.prog (n + d + 1)) 109 1 (List.map (eBool true) met) [(tI r), (tI c), (T.rp (eGrid false g)), (T.vp [(T.os 1 0 0 nn)]), (vtT 109 (T.rp (eGrid false g)) (T.vp [(T.os 1 0 0 nn)]) d)] (T.tup []) (List.map (eBool true) (dfs d g met r c)) := by
  intro d
  induction d with
  | zero => intro met r c hg hn hl hr hc hu; exact absurd hu (Nat.not_lt_zero _)
  | succ d ih =>
  intro met r c hg hn hl hr hc hu
  refine Loan.intro (n := n + d + 1) (rs := []) (j := 3) (pin := (T.vp [(T.os 1 0 0 nn)])) Try.func109 rfl rfl rfl (by kernel_rfl) rfl (.vp _ _) .none (scMap (fun _ => rfl) _) (scMap (fun _ => rfl) _) (E0 := [(0, (tI r)), (1, (tI c)), (2, (T.rp (eGrid false g))), (3, (T.vp [(T.os 1 0 0 nn)])), (4, (vtT 109 (T.rp (eGrid false g)) (T.vp [(T.os 1 0 0 nn)]) (d + 1)))]) rfl ?_
  obtain ⟨hlim, hmx, hmax⟩ := lims
  have hsz := hg.size
  have hA := hg.1
  have hB := hg.2.1
  refine sq (sr (mO (tI r) rfl (lr (tI g.Rows) rfl (lb rfl) fa29_0 rfl st3 (cO (cS (vc (tv (tI r) rfl) (vc (tv (tI g.Rows) rfl) vn)) (lps rfl) (W_impl_at (n + d + 0) r g.Rows ) rfl rfl) (fO (xnot (tv (tB (decide (0 ≤ r ∧ r < g.Rows))) rfl)) (mO (tB (!(decide (0 ≤ r ∧ r < g.Rows)))) rfl ?_))))))
  refine VRunO.joinB 6 [13, 14, 15, 16, 17] 18 (tB (decide ((¬ (0 ≤ r ∧ r < g.Rows)) ∨ (¬ (0 ≤ c ∧ c < g.Cols))))) ?_ ?_
  · refine gn (0 ≤ r ∧ r < g.Rows) (fun fhg12_1 => ?_) fun fhg12_1 => ?_
    · refine offs 5 5 false 12 (ny fhg12_1) rfl rfl rfl ?_
      refine fO (OF.pickT (VEv.tmpB rfl (ny fhg12_1)) (VEv.bool true)) (VRunO.nil ?_)
      exact jq (congrArg T.bool (kOT fhg12_1)) (js rfl (js rfl (js rfl (js rfl (js rfl (jn))))))
    · refine gF (nz fhg12_1) rfl rfl (OF.move (tv (tI c) rfl)) ?_
      refine glr (tI g.Cols) (nz fhg12_1) rfl rfl rfl rfl (lb rfl) fa29_1 rfl st3 (VRunO.chain (VWant.on rfl rfl (nz fhg12_1)) (cS (vc (tv (tI c) rfl) (vc (tv (tI g.Cols) rfl) vn)) (lps rfl) (W_impl_at (n + d + 0) c g.Cols ) rfl rfl) (gF (nz fhg12_1) rfl rfl (xnot (tv (tB (decide (0 ≤ c ∧ c < g.Cols))) rfl)) (fO (OF.pickF (VEv.tmpB rfl (nz fhg12_1)) (tv (tB (!(decide (0 ≤ c ∧ c < g.Cols)))) rfl)) (VRunO.nil ?_))))
      exact jq (congrArg T.bool (kOF (not_not_intro fhg12_1) dN)) (js rfl (js rfl (js rfl (js rfl (js rfl (jn))))))
  refine mO (tB (decide ((¬ (0 ≤ r ∧ r < g.Rows)) ∨ (¬ (0 ≤ c ∧ c < g.Cols))))) rfl ?_
  refine VRunO.joinB 10 [20, 21, 22, 23, 24, 25, 26, 27, 28] 29 (tB (decide (((¬ (0 ≤ r ∧ r < g.Rows)) ∨ (¬ (0 ≤ c ∧ c < g.Cols))) ∨ ((met[(Int.toNat ((r * g.Cols) + c))]?.getD false) = true)))) ?_ ?_
  · refine gw ((¬ (0 ≤ r ∧ r < g.Rows)) ∨ (¬ (0 ≤ c ∧ c < g.Cols))) (fun fhg19_2 => ?_) fun fhg19_2 => ?_
    · refine offs 9 12 false 19 (dy fhg19_2) rfl rfl rfl ?_
      refine fO (OF.pickT (VEv.tmpB rfl (dy fhg19_2)) (VEv.bool true)) (VRunO.nil ?_)
      exact jq (congrArg T.bool (kOT fhg19_2)) (js rfl (js rfl (js rfl (js rfl (js rfl (js rfl (js rfl (js rfl (js rfl (jn))))))))))
    · have hz := cellI_ok hg (r := r) (c := c) (by omega) (by omega)
      refine gL (dz fhg19_2) rfl rfl (OL.loadV1 (t := (T.os 1 0 0 nn)) (tv (T.vp [(T.os 1 0 0 nn)]) rfl) rfl st112) (gF (dz fhg19_2) rfl rfl (OF.move (tv (tI r) rfl)) (glr (tI g.Cols) (dz fhg19_2) rfl rfl rfl rfl (lb rfl) fa29_1 rfl st3 (gF (dz fhg19_2) rfl rfl (B.mul (n := (r * g.Cols)) (tv (tI r) rfl) (tv (tI g.Cols) rfl) (by (rw [wrap64 (by omega)]; done))) (gF (dz fhg19_2) rfl rfl (OF.move (tv (tI c) rfl)) (gF (dz fhg19_2) rfl rfl (B.add (n := ((r * g.Cols) + c)) (tv (tI (r * g.Cols)) rfl) (tv (tI c) rfl) (by (rw [wrap64 (by omega)]; done))) ?_)))))
      have hy3 : met[(Int.toNat ((r * g.Cols) + c))]? = some (met[(Int.toNat ((r * g.Cols) + c))]?.getD false) := getD_at false (by omega)
      refine gF (dz fhg19_2) rfl rfl (B.indexAddrO (i := (Int.toNat ((r * g.Cols) + c))) (tv (T.os 1 0 0 nn) rfl) (tv (tI ((r * g.Cols) + c)) rfl) (by omega) (by omega) U112 sz4 if4) (gL (dz fhg19_2) rfl rfl (OL.loadP1 (t := (tB (met[(Int.toNat ((r * g.Cols) + c))]?.getD false))) (row := (eBool true (met[(Int.toNat ((r * g.Cols) + c))]?.getD false))) (tv (T.orp 1 0 (Int.toNat ((r * g.Cols) + c)) 0) rfl) rfl (map_at _ hy3) rfl rfl st4) (fO (OF.pickF (VEv.tmpB rfl (dz fhg19_2)) (tv (tB (met[(Int.toNat ((r * g.Cols) + c))]?.getD false)) rfl)) (VRunO.nil ?_)))
      exact jq (congrArg T.bool (kOF fhg19_2 (dT _))) (js rfl (js rfl (js rfl (js rfl (js rfl (js rfl (js rfl (js rfl (js rfl (jn))))))))))
  refine mO (tB (decide (((¬ (0 ≤ r ∧ r < g.Rows)) ∨ (¬ (0 ≤ c ∧ c < g.Cols))) ∨ ((met[(Int.toNat ((r * g.Cols) + c))]?.getD false) = true)))) rfl ?_
  refine VRunO.joinB 11 [31, 32, 33, 34, 35, 36, 37, 38, 39, 40] 41 (tB (decide ((((¬ (0 ≤ r ∧ r < g.Rows)) ∨ (¬ (0 ≤ c ∧ c < g.Cols))) ∨ ((met[(Int.toNat ((r * g.Cols) + c))]?.getD false) = true)) ∨ (¬ (bAt g.Cells (Int.toNat ((r * g.Cols) + c)) = 46))))) ?_ ?_
  · refine gw (((¬ (0 ≤ r ∧ r < g.Rows)) ∨ (¬ (0 ≤ c ∧ c < g.Cols))) ∨ ((met[(Int.toNat ((r * g.Cols) + c))]?.getD false) = true)) (fun fhg30_4 => ?_) fun fhg30_4 => ?_
    · refine offs 10 23 false 30 (dy fhg30_4) rfl rfl rfl ?_
      refine fO (OF.pickT (VEv.tmpB rfl (dy fhg30_4)) (VEv.bool true)) (VRunO.nil ?_)
      exact jq (congrArg T.bool (kOT fhg30_4)) (js rfl (js rfl (js rfl (js rfl (js rfl (js rfl (js rfl (js rfl (js rfl (js rfl (jn)))))))))))
    · have hz := cellI_ok hg (r := r) (c := c) (by omega) (by omega)
      refine glr (tS g.Cells) (dz fhg30_4) rfl rfl rfl rfl (lb rfl) fa29_2 rfl st9 (gF (dz fhg30_4) rfl rfl (OF.move (tv (tI r) rfl)) (glr (tI g.Cols) (dz fhg30_4) rfl rfl rfl rfl (lb rfl) fa29_1 rfl st3 (gF (dz fhg30_4) rfl rfl (B.mul (n := (r * g.Cols)) (tv (tI r) rfl) (tv (tI g.Cols) rfl) (by (rw [wrap64 (by omega)]; done))) (gF (dz fhg30_4) rfl rfl (OF.move (tv (tI c) rfl)) (gF (dz fhg30_4) rfl rfl (B.add (n := ((r * g.Cols) + c)) (tv (tI (r * g.Cols)) rfl) (tv (tI c) rfl) (by (rw [wrap64 (by omega)]; done))) ?_)))))
      have hb5 : (Int.toNat ((r * g.Cols) + c)) < g.Cells.size := (by omega)
      refine gF (dz fhg30_4) rfl rfl (B.index (n := (bAt g.Cells (Int.toNat ((r * g.Cols) + c)))) (i := (Int.toNat ((r * g.Cols) + c))) (tv (tS g.Cells) rfl) (tv (tI ((r * g.Cols) + c)) rfl) (by omega) hb5 U9 (bAt_eq hb5)) (gF (dz fhg30_4) rfl rfl (xne (tv (T.int .u8 (bAt g.Cells (Int.toNat ((r * g.Cols) + c)))) rfl) (VEv.int .u8 46)) (fO (OF.pickF (VEv.tmpB rfl (dz fhg30_4)) (tv (tB (!(decide (bAt g.Cells (Int.toNat ((r * g.Cols) + c)) = 46)))) rfl)) (VRunO.nil ?_)))
      exact jq (congrArg T.bool (kOF fhg30_4 dN)) (js rfl (js rfl (js rfl (js rfl (js rfl (js rfl (js rfl (js rfl (js rfl (js rfl (jn)))))))))))
  refine nt ?_
  refine cd ((((¬ (0 ≤ r ∧ r < g.Rows)) ∨ (¬ (0 ≤ c ∧ c < g.Cols))) ∨ ((met[(Int.toNat ((r * g.Cols) + c))]?.getD false) = true)) ∨ (¬ (bAt g.Cells (Int.toNat ((r * g.Cols) + c)) = 46))) rfl (fun fhc0 => ?_) fun fhc0 => ?_
  · refine rt ?_
    refine tr ?_
    have hnew : met = dfs (d + 1) g met r c := by
      rw [dfs, if_neg]; rintro ⟨h1, h2, h3⟩; rcases fhc0 with (h | h) | h; exact h.elim (fun h => h h1.1) (fun h => h h1.2); exact on_no.1 h3 h; exact h h2
    exact vloan.r 0 VRes.nil rfl rfl rfl (congrArg (List.map (eBool true)) hnew)
  have hz := cellI_ok hg (r := r) (c := c) (by omega) (by omega)
  have hin : inG g r c := ⟨by omega, by omega⟩
  have hgo : goIn g met r c := ⟨hin, by unfold cellI; omega, on_no.2 (fun h => fhc0 (.inl (.inr h)))⟩
  have hct := count_put (s := met) (i := cellI g r c) (by rw [hl, hn]; exact cellI_lt hg hin) hgo.2.2
  unfold cellI at hct
  have d1 := dfs_cnt g d (met.set (Int.toNat (r * g.Cols + c)) true) (r - 1) c
  have d2 := dfs_cnt g d (dfs d g (met.set (Int.toNat (r * g.Cols + c)) true) (r - 1) c) (r + 1) c
  have d3 := dfs_cnt g d (dfs d g (dfs d g (met.set (Int.toNat (r * g.Cols + c)) true) (r - 1) c) (r + 1) c) r (c - 1)
  refine sk (tn (sr (lO (OL.loadV1 (t := (T.os 1 0 0 nn)) (tv (T.vp [(T.os 1 0 0 nn)]) rfl) rfl st112) (mO (tI r) rfl (lr (tI g.Cols) rfl (lb rfl) fa29_1 rfl st3 (fO (B.mul (n := (r * g.Cols)) (tv (tI r) rfl) (tv (tI g.Cols) rfl) (by (rw [wrap64 (by omega)]; done))) (mO (tI c) rfl (fO (B.add (n := ((r * g.Cols) + c)) (tv (tI (r * g.Cols)) rfl) (tv (tI c) rfl) (by (rw [wrap64 (by omega)]; done))) ?_))))))))
  obtain ⟨x1, hx1⟩ : ∃ x, met[(Int.toNat ((r * g.Cols) + c))]? = some x := ⟨_, List.getElem?_eq_getElem (by omega)⟩
  refine fO (B.indexAddrO (i := (Int.toNat ((r * g.Cols) + c))) (tv (T.os 1 0 0 nn) rfl) (tv (tI ((r * g.Cols) + c)) rfl) (by omega) (by omega) U112 sz4 if4) (cO (B.storeP (us := [(tB true)]) (rows' := ((met.set (Int.toNat ((r * g.Cols) + c)) true).map (eBool true))) (row := (eBool true x1)) (tv (T.orp 1 0 (Int.toNat ((r * g.Cols) + c)) 0) rfl) (VEv.bool true) nofun rfl (map_at _ hx1) rfl (lb rfl) if4 sz4 (bc rfl bn) (by intro r hr t ht; obtain ⟨x, _, rfl⟩ := List.mem_map.1 hr; rw [flBool] at ht; exact isPl_flat (okBool.pl _ t ht)) (set_mapE rfl)) (nt (sr (lO (OL.loadV1 (t := (T.fn 109 [(T.rp (eGrid false g)), (T.vp [(T.os 1 0 0 nn)]), (vtT 109 (T.rp (eGrid false g)) (T.vp [(T.os 1 0 0 nn)]) d)])) (tv (vtT 109 (T.rp (eGrid false g)) (T.vp [(T.os 1 0 0 nn)]) (d + 1)) rfl) rfl st115) (mO (tI r) rfl (fO (B.sub (n := (r - 1)) (tv (tI r) rfl) (VEv.int .i64 1) (by (rw [wrap64 (by omega)]; done))) (mO (tI c) rfl (cO (OC.callvLoan (ts := [(tI (r - 1)), (tI c), (T.rp (eGrid false g)), (T.vp [(T.os 1 0 0 nn)]), (vtT 109 (T.rp (eGrid false g)) (T.vp [(T.os 1 0 0 nn)]) d)]) (k := 0) (r := (T.tup [])) (rows := ((met.set (Int.toNat ((r * g.Cols) + c)) true).map (eBool true))) (rows' := ((dfs d g (met.set (Int.toNat ((r * g.Cols) + c)) true) (r - 1) c).map (eBool true))) rfl rfl (vc (tv (tI (r - 1)) rfl) (vc (tv (tI c) rfl) vn)) rfl (by simp only [renL, ren, vtT_ren, List.cons_append, List.nil_append]) (tl rfl (tl rfl (tl rfl (tl rfl (tl (vtT_lt rfl rfl _) rfl))))) LRes.none rfl (scMap (fun _ => rfl) _) (scMap (fun _ => rfl) _) (ih (met.set (Int.toNat ((r * g.Cols) + c)) true) (r - 1) c (by assumption) (by assumption) (by (simp only [dfs_len, List.length_set]; omega)) (by omega) (by assumption) (by omega))) (nt (sr (lO (OL.loadV1 (t := (T.fn 109 [(T.rp (eGrid false g)), (T.vp [(T.os 1 0 0 nn)]), (vtT 109 (T.rp (eGrid false g)) (T.vp [(T.os 1 0 0 nn)]) d)])) (tv (vtT 109 (T.rp (eGrid false g)) (T.vp [(T.os 1 0 0 nn)]) (d + 1)) rfl) rfl st115) ?_)))))))))))
  refine mO (tI r) rfl (fO (B.add (n := (r + 1)) (tv (tI r) rfl) (VEv.int .i64 1) (by (rw [wrap64 (by omega)]; done))) (mO (tI c) rfl (cO (OC.callvLoan (ts := [(tI (r + 1)), (tI c), (T.rp (eGrid false g)), (T.vp [(T.os 1 0 0 nn)]), (vtT 109 (T.rp (eGrid false g)) (T.vp [(T.os 1 0 0 nn)]) d)]) (k := 0) (r := (T.tup [])) (rows := ((dfs d g (met.set (Int.toNat ((r * g.Cols) + c)) true) (r - 1) c).map (eBool true))) (rows' := ((dfs d g (dfs d g (met.set (Int.toNat ((r * g.Cols) + c)) true) (r - 1) c) (r + 1) c).map (eBool true))) rfl rfl (vc (tv (tI (r + 1)) rfl) (vc (tv (tI c) rfl) vn)) rfl (by simp only [renL, ren, vtT_ren, List.cons_append, List.nil_append]) (tl rfl (tl rfl (tl rfl (tl rfl (tl (vtT_lt rfl rfl _) rfl))))) LRes.none rfl (scMap (fun _ => rfl) _) (scMap (fun _ => rfl) _) (ih (dfs d g (met.set (Int.toNat ((r * g.Cols) + c)) true) (r - 1) c) (r + 1) c (by assumption) (by assumption) (by (simp only [dfs_len, List.length_set]; omega)) (by omega) (by assumption) (by omega))) (nt (sr (lO (OL.loadV1 (t := (T.fn 109 [(T.rp (eGrid false g)), (T.vp [(T.os 1 0 0 nn)]), (vtT 109 (T.rp (eGrid false g)) (T.vp [(T.os 1 0 0 nn)]) d)])) (tv (vtT 109 (T.rp (eGrid false g)) (T.vp [(T.os 1 0 0 nn)]) (d + 1)) rfl) rfl st115) (mO (tI r) rfl (mO (tI c) rfl (fO (B.sub (n := (c - 1)) (tv (tI c) rfl) (VEv.int .i64 1) (by (rw [wrap64 (by omega)]; done))) (cO (OC.callvLoan (ts := [(tI r), (tI (c - 1)), (T.rp (eGrid false g)), (T.vp [(T.os 1 0 0 nn)]), (vtT 109 (T.rp (eGrid false g)) (T.vp [(T.os 1 0 0 nn)]) d)]) (k := 0) (r := (T.tup [])) (rows := ((dfs d g (dfs d g (met.set (Int.toNat ((r * g.Cols) + c)) true) (r - 1) c) (r + 1) c).map (eBool true))) (rows' := ((dfs d g (dfs d g (dfs d g (met.set (Int.toNat ((r * g.Cols) + c)) true) (r - 1) c) (r + 1) c) r (c - 1)).map (eBool true))) rfl rfl (vc (tv (tI r) rfl) (vc (tv (tI (c - 1)) rfl) vn)) rfl (by simp only [renL, ren, vtT_ren, List.cons_append, List.nil_append]) (tl rfl (tl rfl (tl rfl (tl rfl (tl (vtT_lt rfl rfl _) rfl))))) LRes.none rfl (scMap (fun _ => rfl) _) (scMap (fun _ => rfl) _) (ih (dfs d g (dfs d g (met.set (Int.toNat ((r * g.Cols) + c)) true) (r - 1) c) (r + 1) c) r (c - 1) (by assumption) (by assumption) (by (simp only [dfs_len, List.length_set]; omega)) (by assumption) (by omega) (by omega))) (nt ?_)))))))))))
  refine VRun.region (lO (OL.loadV1 (t := (T.fn 109 [(T.rp (eGrid false g)), (T.vp [(T.os 1 0 0 nn)]), (vtT 109 (T.rp (eGrid false g)) (T.vp [(T.os 1 0 0 nn)]) d)])) (tv (vtT 109 (T.rp (eGrid false g)) (T.vp [(T.os 1 0 0 nn)]) (d + 1)) rfl) rfl st115) (mO (tI r) rfl (mO (tI c) rfl (fO (B.add (n := (c + 1)) (tv (tI c) rfl) (VEv.int .i64 1) (by (rw [wrap64 (by omega)]; done))) (cO (OC.callvLoan (ts := [(tI r), (tI (c + 1)), (T.rp (eGrid false g)), (T.vp [(T.os 1 0 0 nn)]), (vtT 109 (T.rp (eGrid false g)) (T.vp [(T.os 1 0 0 nn)]) d)]) (k := 0) (r := (T.tup [])) (rows := ((dfs d g (dfs d g (dfs d g (met.set (Int.toNat ((r * g.Cols) + c)) true) (r - 1) c) (r + 1) c) r (c - 1)).map (eBool true))) (rows' := ((dfs d g (dfs d g (dfs d g (dfs d g (met.set (Int.toNat ((r * g.Cols) + c)) true) (r - 1) c) (r + 1) c) r (c - 1)) r (c + 1)).map (eBool true))) rfl rfl (vc (tv (tI r) rfl) (vc (tv (tI (c + 1)) rfl) vn)) rfl (by simp only [renL, ren, vtT_ren, List.cons_append, List.nil_append]) (tl rfl (tl rfl (tl rfl (tl rfl (tl (vtT_lt rfl rfl _) rfl))))) LRes.none rfl (scMap (fun _ => rfl) _) (scMap (fun _ => rfl) _) (ih (dfs d g (dfs d g (dfs d g (met.set (Int.toNat ((r * g.Cols) + c)) true) (r - 1) c) (r + 1) c) r (c - 1)) r (c + 1) (by assumption) (by assumption) (by (simp only [dfs_len, List.length_set]; omega)) (by assumption) (by omega) (by omega))) (VRunO.nil ?_))))))
  have hnew : dfs d g (dfs d g (dfs d g (dfs d g (met.set (Int.toNat ((r * g.Cols) + c)) true) (r - 1) c) (r + 1) c) r (c - 1)) r (c + 1) = dfs (d + 1) g met r c := by
    rw [dfs, if_pos hgo]; rfl
  exact vloan.n 0 VRes.nil rfl rfl rfl (congrArg (List.map (eBool true)) hnew)
theorem W_impl_PartsOf (n : Nat) (g : D.Grid) (hc : g.Cells.size ≤ mx) : Pure (acall Try.prog (n + 39)) 100 [(T.agg (eGrid false g))] (tN (partsG g)) := by
  refine Pure.intro (rs := [ResultVar.tmp 2]) Try.func100 rfl rfl rfl (E0 := [(0, (T.agg (eGrid false g)))]) rfl ?_
  obtain ⟨hlim, hmx, hmax⟩ := lims
  refine sr (kO (B.box (ts := (eGrid false g)) (tv (T.agg (eGrid false g)) rfl) nofun rfl) (fO (OF.assign (VEv.int .i64 0)) (nt (sq (sr (lO (OL.loadOn (us := (eGrid false g)) (tv (T.op 0 0) rfl) rfl st29 sz29 (lb rfl) rfl) (cO (cS (vc (tv (T.agg (eGrid false g)) rfl) vn) (LendL.cons (lg okeGrid) ln) (W_impl_IsGrid (n + 36) g (by omega)) rfl rfl) (fO (xnot (tv (tB (decide (gridOk g))) rfl)) (nt ?_)))))))))
  refine cn (gridOk g) rfl (fun fhc0 => ?_) fun fhc0 => ?_
  · refine sr ?_
    refine fO (OF.assign (VEv.int .i64 0)) (nt (rt (tr (vi (n' := 0) rfl ?_))))
    rw [partsG, if_neg (by simpa using fhc0)]; rfl
  have hgo : gridOk g := by simpa using fhc0
  have hsz := hgo.size
  have hA := hgo.1
  have hB := hgo.2.1
  refine sk (tn (sr (lf (tS g.Cells) rfl fa29_2 rfl rfl st9 (lO (B.lenS (tv (tS g.Cells) rfl) U9) (kO (B.makeZ (n := g.Cells.size) (m := ((List.replicate g.Cells.size false).map (eBool true)).length) (rows := ((List.replicate g.Cells.size false).map (eBool true))) (zr := (eBool true false)) (tv (tN g.Cells.size) rfl) (tv (tN g.Cells.size) rfl) rfl U112 zo4 zc4 rfl (by rw [sz4]; decide) (by omega) (of_decide_eq_true (by kernel_rfl)) (Z0.bool Z0.nil) sz4 (List.map_replicate ..).symm (by rw [List.length_map, List.length_replicate])) (kO (B.alloc (t := T.nils) (ts := [T.nils]) zo112 zc112 nofun (fun _ => .nils) rfl) (cO (B.storeO (us := [(T.os 1 1 0 (((List.replicate g.Cells.size false).map (eBool true)).length))]) (ws := [(T.os 1 1 0 (((List.replicate g.Cells.size false).map (eBool true)).length))]) (tv (T.op 2 0) rfl) (tv (T.os 1 1 0 (((List.replicate g.Cells.size false).map (eBool true)).length)) rfl) nofun rfl rfl (lb rfl) if112 sz112 (bc rfl bn) rfl) (nt (sr (kO (B.alloc (t := T.fn0) (ts := [T.fn0]) (show zeroOf Try.prog 115 = some .nilFunc by kernel_rfl) (show closedV .nilFunc = true by kernel_rfl) nofun (fun _ => .fn0) rfl) (nt ?_)))))))))))
  refine sr (fO (OF.makeFunc (vc (tv (T.op 0 0) rfl) (vc (tv (T.op 2 0) rfl) (vc (tv (T.op 3 0) rfl) vn)))) (cO (B.storeO (us := [(T.fn 109 [(T.op 0 0), (T.op 2 0), (T.op 3 0)])]) (ws := [(T.fn 109 [(T.op 0 0), (T.op 2 0), (T.op 3 0)])]) (tv (T.op 3 0) rfl) (tv (T.fn 109 [(T.op 0 0), (T.op 2 0), (T.op 3 0)]) rfl) nofun rfl rfl (lb rfl) if115 sz115 (bc rfl bn) rfl) (nt (VRun.wk (Wk.recv (sz := 1) (k := 1) (us := (eGrid false g)) (f := 109) 38 (d1 := 1) (d2 := 3) (d3 := 4) rfl rfl rfl rfl rfl rfl (by decide) (by decide) (by decide) (bc rfl (bc rfl (bc rfl bn)))) (sr (fO (OF.assign (VEv.int .i64 0)) (nt (sq (sr (lr (tS g.Cells) rfl (lb rfl) fa29_2 rfl st9 (lO (B.lenS (tv (tS g.Cells) rfl) U9) ?_)))))))))))
  refine fO (OF.move (VEv.int .i64 0)) (nt (VRun.block ?_))
  have he1 : (List.replicate g.Cells.size false) = (partsN g 0).2 := by rfl
  refine VRun.loop (A := Nat) (fun s_ => [(1, (T.rp (eGrid false g))), (2, (tN 0)), (3, (T.vp [(T.os 1 0 0 (((List.replicate g.Cells.size false).map (eBool true)).length))])), (4, (vtT 109 (T.rp (eGrid false g)) (T.vp [(T.os 1 0 0 (((List.replicate g.Cells.size false).map (eBool true)).length))]) 38)), (5, (tN ((partsN g s_).1))), (17, (tN g.Cells.size)), (18, (tN s_))]) (fun s_ => mkO [(0, (Obj.rows 1 (((partsN g s_).2).map (eBool true))))]) 1 (fun s_ => s_ ≤ g.Cells.size) (fun s_ => g.Cells.size - s_) (0 : Nat) ?_ (Wk.mk (fun k => if k = 0 then 1 else  k) ?_ ?_ ?_) ?_
  · (simp; done)
  · exact (b2 (b2 (b2 (b2 (bc ⟨(congrArg (T.int .i64) (show 0 = (((partsN g 0).1 : Nat) : Int) from (by rfl))), rfl⟩ (b2 (b2 bn)))))))
  · exact (bc ⟨(congrArg (fun l_ => some (Obj.rows 1 (List.map (eBool true) l_))) he1), (lb rfl), rfl⟩ bn)
  · exact nd rfl
  rintro i (hI' : i ≤ g.Cells.size)
  show VRun _ _ _ [(1, (T.rp (eGrid false g))), (2, (tN 0)), (3, (T.vp [(T.os 1 0 0 (((List.replicate g.Cells.size false).map (eBool true)).length))])), (4, (vtT 109 (T.rp (eGrid false g)) (T.vp [(T.os 1 0 0 (((List.replicate g.Cells.size false).map (eBool true)).length))]) 38)), (5, (tN ((partsN g i).1))), (17, (tN g.Cells.size)), (18, (tN i))] (mkO [(0, (Obj.rows 1 (((partsN g i).2).map (eBool true))))]) 1 _
  have hI1 := hI'
  have hpl := partsN_len g i
  have hpn := partsN_le g i
  refine sr (fO (xls' (tv (tN i) rfl) (tv (tN g.Cells.size) rfl)) (nt (sq ?_)))
  refine cd (i < g.Cells.size) rfl (fun fhc1 => ?_) fun fhc1 => ?_
  · refine sk ?_
    refine tn (sq (VRun.block (sr (mO (tN i) rfl (aO (tN i) rfl (nt (sr (lr (tS g.Cells) rfl (lb rfl) fa29_2 rfl st9 (mO (tN i) rfl ?_)))))))))
    have hb2 : i < g.Cells.size := (by omega)
    refine fO (xix (tv (tS g.Cells) rfl) (tv (tN i) rfl) hb2 U9) (fO (xeq (tv (T.int .u8 (bAt g.Cells i)) rfl) (VEv.int .u8 46)) (mO (tB (decide (bAt g.Cells i = 46))) rfl ?_))
    refine VRunO.joinB 6 [27, 28, 29, 30, 31] 32 (tB (decide ((bAt g.Cells i = 46) ∧ ((!(((partsN g i).2)[i]?.getD false)) = true)))) ?_ ?_
    · refine gw (bAt g.Cells i = 46) (fun fhg26_3 => ?_) fun fhg26_3 => ?_
      · refine gL (dy fhg26_3) rfl rfl (OL.loadV1 (t := (T.os 1 0 0 (((List.replicate g.Cells.size false).map (eBool true)).length))) (tv (T.vp [(T.os 1 0 0 (((List.replicate g.Cells.size false).map (eBool true)).length))]) rfl) rfl st112) ?_
        refine gF (dy fhg26_3) rfl rfl (OF.move (tv (tN i) rfl)) ?_
        have hy4 : ((partsN g i).2)[i]? = some (((partsN g i).2)[i]?.getD false) := getD_at false (by omega)
        refine gF (dy fhg26_3) rfl rfl (B.indexAddrO (i := i) (tv (T.os 1 0 0 (((List.replicate g.Cells.size false).map (eBool true)).length)) rfl) (tv (tN i) rfl) rfl (by (simp only [List.length_map, List.length_replicate]; omega)) U112 sz4 if4) (gL (dy fhg26_3) rfl rfl (OL.loadP1 (t := (tB (((partsN g i).2)[i]?.getD false))) (row := (eBool true (((partsN g i).2)[i]?.getD false))) (tv (T.orp 1 0 i 0) rfl) rfl (map_at _ hy4) rfl rfl st4) (gF (dy fhg26_3) rfl rfl (xnot (tv (tB (((partsN g i).2)[i]?.getD false)) rfl)) (fO (OF.pickT (VEv.tmpB rfl (dy fhg26_3)) (tv (tB (!(((partsN g i).2)[i]?.getD false))) rfl)) (VRunO.nil ?_))))
        exact jq (congrArg T.bool (kAT fhg26_3 (dT _))) (js rfl (js rfl (js rfl (js rfl (js rfl (jn))))))
      · refine offs 5 5 true 26 (dz fhg26_3) rfl rfl rfl ?_
        refine fO (OF.pickF (VEv.tmpB rfl (dz fhg26_3)) (VEv.bool false)) (VRunO.nil ?_)
        exact jq (congrArg T.bool (kAF fhg26_3)) (js rfl (js rfl (js rfl (js rfl (js rfl (jn))))))
    refine nt ?_
    refine cd ((bAt g.Cells i = 46) ∧ ((!(((partsN g i).2)[i]?.getD false)) = true)) rfl (fun fhc2 => ?_) fun fhc2 => ?_
    · have q0 : isNew g (partsN g i).2 i := ⟨fhc2.1, by simpa [on] using fhc2.2⟩
      have q1 := parts_yes q0
      have hci := cell_at hgo (show i < g.Cells.size by omega)
      have hq0 : 0 ≤ ((i : Nat) : Int) / ((g.Cols.toNat : Nat) : Int) := Int.ediv_nonneg (by omega) (by omega)
      have hm0 : 0 ≤ ((i : Nat) : Int) % ((g.Cols.toNat : Nat) : Int) := Int.emod_nonneg _ (by omega)
      refine sr (mO (tN ((partsN g i).1)) rfl (fO (xinc (tv (tN ((partsN g i).1)) rfl) (VEv.int .i64 1) (by omega)) (aO (tN ((partsN g i).1 + 1)) rfl (nt (VRun.draw (B := [[], [], [], [2], [2, 3, 1], [], [], [6], [6, 7, 5], [5, 7, 6, 8, 1, 3, 2, 4, 0]]) (by kernel_rfl) (by kernel_rfl) (lD (OL.loadV1 (t := (T.fn 109 [(T.rp (eGrid false g)), (T.vp [(T.os 1 0 0 (((List.replicate g.Cells.size false).map (eBool true)).length))]), (vtT 109 (T.rp (eGrid false g)) (T.vp [(T.os 1 0 0 (((List.replicate g.Cells.size false).map (eBool true)).length))]) 37)])) (tv (vtT 109 (T.rp (eGrid false g)) (T.vp [(T.os 1 0 0 (((List.replicate g.Cells.size false).map (eBool true)).length))]) 38) rfl) rfl st115) rfl rfl (mD (tN i) rfl rfl (fD (B.fieldAddrR (us := ((eGrid false g).drop 1)) (tv (T.rp (eGrid false g)) rfl) (lb rfl) fa29_1 rfl) rfl rfl (lD (OL.loadR1 (t := (tI g.Cols)) (tv (T.rp ((eGrid false g).drop 1)) rfl) rfl st3) rfl rfl (fD (B.quo (n := ((i / g.Cols.toNat : Nat) : Int)) (tv (tN i) rfl) (tv (tI g.Cols) rfl) (by omega) (by (refine quoN ?_ ?_ <;> omega))) rfl rfl (mD (tN i) rfl rfl ?_)))))))))))
      refine fD (B.fieldAddrR (us := ((eGrid false g).drop 1)) (tv (T.rp (eGrid false g)) rfl) (lb rfl) fa29_1 rfl) rfl rfl (lD (OL.loadR1 (t := (tI g.Cols)) (tv (T.rp ((eGrid false g).drop 1)) rfl) rfl st3) rfl rfl (fD (B.rem (n := ((i % g.Cols.toNat : Nat) : Int)) (tv (tN i) rfl) (tv (tI g.Cols) rfl) (by omega) (by (refine remN ?_; omega))) rfl rfl (VRunD.chain (bi := [5, 7, 6, 8, 1, 3, 2, 4, 0]) rfl VWant.always rfl rfl rfl (by kernel_rfl) (OC.callvLoan (ts := [(tN (i / g.Cols.toNat)), (tN (i % g.Cols.toNat)), (T.rp (eGrid false g)), (T.vp [(T.os 1 0 0 (((List.replicate g.Cells.size false).map (eBool true)).length))]), (vtT 109 (T.rp (eGrid false g)) (T.vp [(T.os 1 0 0 (((List.replicate g.Cells.size false).map (eBool true)).length))]) 37)]) (k := 0) (r := (T.tup [])) (rows := (((partsN g i).2).map (eBool true))) (rows' := ((dfs 37 g ((partsN g i).2) ((i / g.Cols.toNat : Nat) : Int) ((i % g.Cols.toNat : Nat) : Int)).map (eBool true))) rfl rfl (vc (tv (tN (i / g.Cols.toNat)) rfl) (vc (tv (tN (i % g.Cols.toNat)) rfl) vn)) rfl (by simp only [renL, ren, vtT_ren, List.cons_append, List.nil_append]) (tl rfl (tl rfl (tl rfl (tl rfl (tl (vtT_lt rfl rfl _) rfl))))) LRes.none rfl (scMap (fun _ => rfl) _) (scMap (fun _ => rfl) _) (W_impl_PartsOf_1 (n + 0) (((List.replicate g.Cells.size false).map (eBool true)).length) g 37 ((partsN g i).2) ((i / g.Cols.toNat : Nat) : Int) ((i % g.Cols.toNat : Nat) : Int) (by exact fhc0) (by (simp only [partsN_len, List.length_map, List.length_replicate]; done)) (by (simp only [List.length_map, List.length_replicate]; omega)) (by omega) (by omega) (by (refine Nat.lt_of_le_of_lt List.count_le_length ?_; rw [partsN_len]; omega)))) (VRunD.nil (vinB.n (tn (VRun.region (fO (xinc (tv (tN i) rfl) (VEv.int .i64 1) (by omega)) (mO (tN (i + 1)) rfl (VRunO.nil (tn ?_)))))))))))
      have he5 : dfs 37 g ((partsN g i).2) ((i / g.Cols.toNat : Nat) : Int) ((i % g.Cols.toNat : Nat) : Int) = (partsN g (i + 1)).2 := by (rw [q1.2]; exact dfs_all hgo hpl fhc1 (Nat.lt_of_le_of_lt List.count_le_length (by omega)) (partsN_closed i hI1) q0.1)
      refine ⟨(i + 1 : Nat), ?_, ?_, Wk.mk (fun k => k) ?_ ?_ ?_⟩
      · trivial
      · omega
      · exact (b2 (b2 (b2 (b2 (bc ⟨(congrArg (T.int .i64) (show ((((partsN g i).1 + 1) : Nat) : Int) = (((partsN g (i + 1)).1 : Nat) : Int) from (by omega))), rfl⟩ (b2 (b2 bn)))))))
      · exact (bc ⟨(congrArg (fun l_ => some (Obj.rows 1 (List.map (eBool true) l_))) he5), (lb rfl), rfl⟩ bn)
      · exact nd rfl
    have q0 : ¬ isNew g (partsN g i).2 i := fun h => fhc2 ⟨h.1, by have := h.2; unfold on at this; rw [this]; rfl⟩
    refine sk (vinB.n (tn (VRun.region (fO (xinc (tv (tN i) rfl) (VEv.int .i64 1) (by omega)) (mO (tN (i + 1)) rfl (VRunO.nil (tn ?_)))))))
    have he6 : (partsN g i).2 = (partsN g (i + 1)).2 := by (rw [parts_no q0]; done)
    refine ⟨(i + 1 : Nat), ?_, ?_, Wk.mk (fun k => k) ?_ ?_ ?_⟩
    · trivial
    · omega
    · exact (b2 (b2 (b2 (b2 (bc ⟨(congrArg (T.int .i64) (show (((partsN g i).1 : Nat) : Int) = (((partsN g (i + 1)).1 : Nat) : Int) from (by (rw [parts_no q0]; done)))), rfl⟩ (b2 (b2 bn)))))))
    · exact (bc ⟨(congrArg (fun l_ => some (Obj.rows 1 (List.map (eBool true) l_))) he6), (lb rfl), rfl⟩ bn)
    · exact nd rfl
  refine VRun.exit (vthn.e (vthn.e (vinB.e (tn (sr (mO (tN ((partsN g i).1)) rfl (aO (tN ((partsN g i).1)) rfl (nt (rt (vi (n' := (((partsN g i).1 : Nat) : Int)) rfl ?_))))))))))
  exact congrArg (fun x : Nat => (x : Int)) (parts_end hI1 (.inl hgo) (by omega))
end Go.Proofs.Ytjclbdgjkecbeaa.AE
namespace Go.Proofs.Ytjclbdgjkecbeaa.AE
open Go Go.RowKit
set_option linter.unusedVariables false
set_option linter.unusedSimpArgs false
set_option maxRecDepth 20000
set_option maxHeartbeats 2000000
noncomputable section
def formG (g : D.Grid) : Int := if ¬ gridOk g then 1 else if ¬ symG g then 2 else if ¬ partsG g = 1 then 3 else if shortG g then 4 else if aloneG g then 5 else 0
theorem alone_full {g : D.Grid} (h : ∀ j s, j < (slotsG g).length → (slotsG g)[j]? = some s → ¬ badS g j s) (hg : gridOk g) : aloneF g g.Cells ↔ aloneG g := by
  constructor
  · rintro ⟨c, h1, h2, _⟩
    exact .inr ⟨c, h1, hg, h2⟩
  · rintro (⟨j, s, h3, h4⟩ | ⟨c, h1, _, h2⟩)
    · exact absurd h4 (h j s (List.getElem?_eq_some_iff.1 h3).1 h3)
    · refine ⟨c, h1, h2, ?_⟩
      unfold openF
      have := h2.1
      omega
end
theorem W_spec_IsConnected (n : Nat) (g : D.Grid) (hc : g.Cells.size ≤ mx) : Pure (acall Try.prog (n + 4)) 69 [(T.agg (eGrid false g))] (tB (decide (partsG g = 1))) := by
  refine Pure.intro (rs := [ResultVar.tmp 2]) Try.func69 rfl rfl rfl (E0 := [(0, (T.agg (eGrid false g)))]) rfl ?_
  obtain ⟨hlim, hmx, hmax⟩ := lims
  refine sr (kO (B.box (ts := (eGrid false g)) (tv (T.agg (eGrid false g)) rfl) nofun rfl) (fO (OF.assign (VEv.bool false)) (nt (sr (lO (OL.loadOn (us := (eGrid false g)) (tv (T.op 0 0) rfl) rfl st29 sz29 (lb rfl) rfl) (cO (cS (vc (tv (T.agg (eGrid false g)) rfl) vn) (LendL.cons (lg okeGrid) ln) (W_spec_PartsOf (n + 0) g (by assumption)) rfl rfl) (fO (B.eql (c := (decide (partsG g = 1))) (tv (tN (partsG g)) rfl) (VEv.int .i64 1) (decN (by omega))) (aO (tB (decide (partsG g = 1))) rfl (nt (rt ?_))))))))))
  exact vb rfl rfl
theorem W_impl_IsConnected (n : Nat) (g : D.Grid) (hc : g.Cells.size ≤ mx) : Pure (acall Try.prog (n + 40)) 75 [(T.agg (eGrid false g))] (tB (decide (partsG g = 1))) := by
  refine Pure.intro (rs := [ResultVar.tmp 2]) Try.func75 rfl rfl rfl (E0 := [(0, (T.agg (eGrid false g)))]) rfl ?_
  obtain ⟨hlim, hmx, hmax⟩ := lims
  refine sr (kO (B.box (ts := (eGrid false g)) (tv (T.agg (eGrid false g)) rfl) nofun rfl) (fO (OF.assign (VEv.bool false)) (nt (sr (lO (OL.loadOn (us := (eGrid false g)) (tv (T.op 0 0) rfl) rfl st29 sz29 (lb rfl) rfl) (cO (cS (vc (tv (T.agg (eGrid false g)) rfl) vn) (LendL.cons (lg okeGrid) ln) (W_impl_PartsOf (n + 0) g (by assumption)) rfl rfl) (fO (B.eql (c := (decide (partsG g = 1))) (tv (tN (partsG g)) rfl) (VEv.int .i64 1) (decN (by omega))) (aO (tB (decide (partsG g = 1))) rfl (nt (rt ?_))))))))))
  exact vb rfl rfl
theorem W_spec_FormOf (n : Nat) (g : D.Grid) (hc : g.Cells.size ≤ mx) : Pure (acall Try.prog (n + 9)) 31 [(T.agg (eGrid false g))] (tI (formG g)) := by
  refine Pure.intro (rs := [ResultVar.tmp 2]) Try.func31 rfl rfl rfl (E0 := [(0, (T.agg (eGrid false g)))]) rfl ?_
  obtain ⟨hlim, hmx, hmax⟩ := lims
  refine sr (kO (B.box (ts := (eGrid false g)) (tv (T.agg (eGrid false g)) rfl) nofun rfl) (fO (OF.assign (VEv.int .i64 0)) (nt (sq (VRun.block (sr (lO (OL.loadOn (us := (eGrid false g)) (tv (T.op 0 0) rfl) rfl st29 sz29 (lb rfl) rfl) (cO (cS (vc (tv (T.agg (eGrid false g)) rfl) vn) (LendL.cons (lg okeGrid) ln) (W_spec_IsGrid (n + 6) g (by omega)) rfl rfl) (fO (xnot (tv (tB (decide (gridOk g))) rfl)) (aO (tB (!(decide (gridOk g)))) rfl (nt ?_)))))))))))
  refine cn (gridOk g) rfl (fun fhc0 => ?_) fun fhc0 => ?_
  · refine sr ?_
    refine fO (OF.assign (VEv.int .i64 1)) (nt (rt (vinB.r (tr (vi (n' := 1) rfl ?_)))))
    exact (if_pos (by assumption)).symm
  refine sr (lO (OL.loadOn (us := (eGrid false g)) (tv (T.op 0 0) rfl) rfl st29 sz29 (lb rfl) rfl) (cO (cS (vc (tv (T.agg (eGrid false g)) rfl) vn) (LendL.cons (lg okeGrid) ln) (W_spec_IsSymmetric (n + 4) g (by omega)) rfl rfl) (fO (xnot (tv (tB (decide (symG g))) rfl)) (aO (tB (!(decide (symG g)))) rfl (nt ?_)))))
  refine cn (symG g) rfl (fun fhc1 => ?_) fun fhc1 => ?_
  · refine sr ?_
    refine fO (OF.assign (VEv.int .i64 2)) (nt (rt (vinB.r (tr (vi (n' := 2) rfl ?_)))))
    (simp only [formG]; simp [*]; done)
  refine sr (lO (OL.loadOn (us := (eGrid false g)) (tv (T.op 0 0) rfl) rfl st29 sz29 (lb rfl) rfl) (cO (cS (vc (tv (T.agg (eGrid false g)) rfl) vn) (LendL.cons (lg okeGrid) ln) (W_spec_IsConnected (n + 4) g (by assumption)) rfl rfl) (fO (xnot (tv (tB (decide (partsG g = 1))) rfl)) (aO (tB (!(decide (partsG g = 1)))) rfl (nt ?_)))))
  refine cn (partsG g = 1) rfl (fun fhc2 => ?_) fun fhc2 => ?_
  · refine sr ?_
    refine fO (OF.assign (VEv.int .i64 3)) (nt (rt (vinB.r (tr (vi (n' := 3) rfl ?_)))))
    (simp only [formG]; simp [*]; done)
  refine sr (lO (OL.loadOn (us := (eGrid false g)) (tv (T.op 0 0) rfl) rfl st29 sz29 (lb rfl) rfl) (cO (cS (vc (tv (T.agg (eGrid false g)) rfl) vn) (LendL.cons (lg okeGrid) ln) (W_spec_l10Short (n + 4) g (by omega)) rfl rfl) (aO (tB (decide (shortG g))) rfl (nt ?_))))
  refine cd (shortG g) rfl (fun fhc3 => ?_) fun fhc3 => ?_
  · refine sr ?_
    refine fO (OF.assign (VEv.int .i64 4)) (nt (rt (vinB.r (tr (vi (n' := 4) rfl ?_)))))
    (simp only [formG]; simp [*]; done)
  refine sr (lO (OL.loadOn (us := (eGrid false g)) (tv (T.op 0 0) rfl) rfl st29 sz29 (lb rfl) rfl) (cO (cS (vc (tv (T.agg (eGrid false g)) rfl) vn) (LendL.cons (lg okeGrid) ln) (W_spec_l10Alone (n + 0) g (by omega)) rfl rfl) (aO (tB (decide (aloneG g))) rfl (nt ?_))))
  refine cd (aloneG g) rfl (fun fhc4 => ?_) fun fhc4 => ?_
  · refine sr ?_
    refine fO (OF.assign (VEv.int .i64 5)) (nt (rt (vinB.r (tr (vi (n' := 5) rfl ?_)))))
    (simp only [formG]; simp [*]; done)
  refine sk (vinB.n (tn (sr (fO (OF.assign (VEv.int .i64 0)) (nt (rt (vi (n' := 0) rfl ?_)))))))
  (simp only [formG]; simp [*]; done)
theorem W_impl_FormOf (n : Nat) (g : D.Grid) (hc : g.Cells.size ≤ mx) : Pure (acall Try.prog (n + 41)) 37 [(T.agg (eGrid false g))] (tI (formG g)) := by
  refine Pure.intro (rs := [ResultVar.tmp 2]) Try.func37 rfl rfl rfl (E0 := [(0, (T.agg (eGrid false g)))]) rfl ?_
  obtain ⟨hlim, hmx, hmax⟩ := lims
  have hsl := slotsG_len g
  refine sr (kO (B.box (ts := (eGrid false g)) (tv (T.agg (eGrid false g)) rfl) nofun rfl) (fO (OF.assign (VEv.int .i64 0)) (nt (sq (VRun.block (sr (lO (OL.loadOn (us := (eGrid false g)) (tv (T.op 0 0) rfl) rfl st29 sz29 (lb rfl) rfl) (cO (cS (vc (tv (T.agg (eGrid false g)) rfl) vn) (LendL.cons (lg okeGrid) ln) (W_impl_IsGrid (n + 38) g (by omega)) rfl rfl) (fO (xnot (tv (tB (decide (gridOk g))) rfl)) (aO (tB (!(decide (gridOk g)))) rfl (nt ?_)))))))))))
  refine cn (gridOk g) rfl (fun fhc0 => ?_) fun fhc0 => ?_
  · refine sr ?_
    refine fO (OF.assign (VEv.int .i64 1)) (nt (rt (vinB.r (tr (vi (n' := 1) rfl ?_)))))
    exact (if_pos fhc0).symm
  refine sr (lO (OL.loadOn (us := (eGrid false g)) (tv (T.op 0 0) rfl) rfl st29 sz29 (lb rfl) rfl) (cO (cS (vc (tv (T.agg (eGrid false g)) rfl) vn) (LendL.cons (lg okeGrid) ln) (W_impl_IsSymmetric (n + 36) g (by omega)) rfl rfl) (fO (xnot (tv (tB (decide (symG g))) rfl)) (aO (tB (!(decide (symG g)))) rfl (nt ?_)))))
  refine cn (symG g) rfl (fun fhc1 => ?_) fun fhc1 => ?_
  · refine sr ?_
    refine fO (OF.assign (VEv.int .i64 2)) (nt (rt (vinB.r (tr (vi (n' := 2) rfl ?_)))))
    unfold formG; rw [if_neg (not_not_intro fhc0), if_pos fhc1]
  refine sr (lO (OL.loadOn (us := (eGrid false g)) (tv (T.op 0 0) rfl) rfl st29 sz29 (lb rfl) rfl) (cO (cS (vc (tv (T.agg (eGrid false g)) rfl) vn) (LendL.cons (lg okeGrid) ln) (W_impl_IsConnected (n + 0) g (by assumption)) rfl rfl) (fO (xnot (tv (tB (decide (partsG g = 1))) rfl)) (aO (tB (!(decide (partsG g = 1)))) rfl (nt ?_)))))
  refine cn (partsG g = 1) rfl (fun fhc2 => ?_) fun fhc2 => ?_
  · refine sr ?_
    refine fO (OF.assign (VEv.int .i64 3)) (nt (rt (vinB.r (tr (vi (n' := 3) rfl ?_)))))
    unfold formG; rw [if_neg (not_not_intro fhc0), if_neg (not_not_intro fhc1), if_pos fhc2]
  refine sk (vinB.n (tn (sr (lO (OL.loadOn (us := (eGrid false g)) (tv (T.op 0 0) rfl) rfl st29 sz29 (lb rfl) rfl) (cO (OC.callF (us := [(T.agg (eGrid false g))]) (r := (T.sl true 4 ((slotsG g).map (eSlot true)))) (r' := (T.os 4 1 0 (((slotsG g).map (eSlot true)).length))) (objs := [(Obj.rows 4 ((slotsG g).map (eSlot true)))]) rfl (vc (tv (T.agg (eGrid false g)) rfl) vn) (LendL.cons (lg okeGrid) ln) (W_impl_SlotsOf (n + 37) g (by omega)) rfl) (aO (T.os 4 1 0 (((slotsG g).map (eSlot true)).length)) rfl (nt (sq (sr (mO (T.os 4 1 0 (((slotsG g).map (eSlot true)).length)) rfl (lO (B.lenO (m := (slotsG g).length) (tv (T.os 4 1 0 (((slotsG g).map (eSlot true)).length)) rfl) U62 (List.length_map ..)) ?_)))))))))))
  refine fO (OF.move (VEv.int .i64 0)) (nt (VRun.block ?_))
  refine VRun.loop (A := Nat) (fun s_ => [(1, (T.op 0 0)), (3, (T.os 4 1 0 (((slotsG g).map (eSlot true)).length))), (22, (T.os 4 1 0 (((slotsG g).map (eSlot true)).length))), (23, (tN ((slotsG g).length))), (24, (tN s_))]) (fun s_ => mkO [(0, (Obj.cells (eGrid false g))), (1, (Obj.rows 4 ((slotsG g).map (eSlot true))))]) 2 (fun s_ => NoneTo (fun s : D.Slot => s.Length < 3) (slotsG g) s_) (fun s_ => (slotsG g).length - s_) (0 : Nat) ?_ (Wk.mk (fun k => k) ?_ ?_ ?_) ?_
  · exact NoneTo.start _ _
  · exact (b2 (b2 (b2 (b2 (b2 bn)))))
  · exact (b3 (b3 bn))
  · exact nd rfl
  rintro i (hI' : NoneTo (fun s : D.Slot => s.Length < 3) (slotsG g) i)
  show VRun _ _ _ [(1, (T.op 0 0)), (3, (T.os 4 1 0 (((slotsG g).map (eSlot true)).length))), (22, (T.os 4 1 0 (((slotsG g).map (eSlot true)).length))), (23, (tN ((slotsG g).length))), (24, (tN i))] (mkO [(0, (Obj.cells (eGrid false g))), (1, (Obj.rows 4 ((slotsG g).map (eSlot true))))]) 2 _
  have hI1 := hI'.1
  have hns := hI'
  refine sr (fO (xls' (tv (tN i) rfl) (tv (tN ((slotsG g).length)) rfl)) (nt (sq ?_)))
  refine cd (i < (slotsG g).length) rfl (fun fhc3 => ?_) fun fhc3 => ?_
  · have hx0 := fhc3
    refine sk (tn (sq (VRun.block (sr ?_))))
    obtain ⟨x1, hx1⟩ : ∃ x, (slotsG g)[i]? = some x := ⟨_, List.getElem?_eq_getElem (by omega)⟩
    refine fO (B.indexAddrO (i := i) (tv (T.os 4 1 0 (((slotsG g).map (eSlot true)).length)) rfl) (tv (tN i) rfl) rfl (by (simp only [List.length_map]; omega)) U62 sz83 if83) (lO (OL.loadPn (us := (eSlot false x1)) (row := (eSlot true x1)) (tv (T.orp 4 1 i 0) rfl) rfl (map_at _ hx1) st83 sz83 (lb rfl) rfl (bc rfl (bc rfl (bc rfl (bc rfl bn))))) (kO (B.alloc (t := (T.agg [(tN 0), (tB false), (tN 0), (tN 0)])) (ts := [(tN 0), (tB false), (tN 0), (tN 0)]) zo83 zc83 nofun (fun _ => .agg _ _ rfl (RLof (RL.cons (.int _ _) (RL.cons (.bool _) (RL.cons (.int _ _) (RL.cons (.int _ _) (RL.nil _))))))) rfl) (cO (B.storeO (us := (eSlot false x1)) (ws := (eSlot false x1)) (tv (T.op 2 0) rfl) (tv (T.agg (eSlot false x1)) rfl) nofun rfl rfl (lb rfl) if83 sz83 (bc rfl (bc rfl (bc rfl (bc rfl bn)))) rfl) (nt (sr (lf (tI x1.Length) rfl fa83_3 rfl rfl st3 (fO (xls (tv (tI x1.Length) rfl) (VEv.int .i64 3)) (nt ?_))))))))
    refine cd (x1.Length < 3) rfl (fun fhc4 => ?_) fun fhc4 => ?_
    · refine sr ?_
      refine fO (OF.assign (VEv.int .i64 4)) (nt (rt (vinB.r (tr (tr (vinB.r (tr (vi (n' := 4) rfl ?_))))))))
      unfold formG; rw [if_neg (not_not_intro fhc0), if_neg (not_not_intro fhc1), if_neg (not_not_intro fhc2), if_pos (show shortG g from ⟨x1, List.mem_of_getElem? hx1, fhc4⟩)]
    refine sk (vinB.n (tn (VRun.region (fO (xinc (tv (tN i) rfl) (VEv.int .i64 1) (by omega)) (mO (tN (i + 1)) rfl (VRunO.nil (tn ?_)))))))
    refine ⟨(i + 1 : Nat), ?_, ?_, Wk.mk (fun k => k) ?_ ?_ ?_⟩
    · exact hI'.next hx1 fhc4
    · omega
    · exact (b2 (b2 (b2 (b2 (b2 bn)))))
    · exact (b3 (b3 bn))
    · exact nd rfl
  have hsh : ¬ shortG g := by rintro ⟨y, hy, hy2⟩; exact hns.mem fhc3 y hy hy2
  refine VRun.exit (vthn.e (vthn.e (vinB.e (tn (sq (sr (mO (T.os 4 1 0 (((slotsG g).map (eSlot true)).length)) rfl (lO (B.lenO (m := (slotsG g).length) (tv (T.os 4 1 0 (((slotsG g).map (eSlot true)).length)) rfl) U62 (List.length_map ..)) (fO (OF.move (VEv.int .i64 0)) (nt (VRun.block ?_)))))))))))
  refine VRun.loop (A := Nat) (fun s_ => [(1, (T.op 0 0)), (32, (T.os 4 1 0 (((slotsG g).map (eSlot true)).length))), (33, (tN ((slotsG g).length))), (34, (tN s_))]) (fun s_ => mkO [(0, (Obj.cells (eGrid false g))), (1, (Obj.rows 4 ((slotsG g).map (eSlot true))))]) 2 (fun s_ => NoBad g s_) (fun s_ => (slotsG g).length - s_) (0 : Nat) ?_ (Wk.mk (fun k => k) ?_ ?_ ?_) ?_
  · exact NoBad.start _
  · exact (b2 (b2 (b2 (b2 bn))))
  · exact (b3 (b3 bn))
  · exact nd rfl
  rintro k (hI' : NoBad g k)
  show VRun _ _ _ [(1, (T.op 0 0)), (32, (T.os 4 1 0 (((slotsG g).map (eSlot true)).length))), (33, (tN ((slotsG g).length))), (34, (tN k))] (mkO [(0, (Obj.cells (eGrid false g))), (1, (Obj.rows 4 ((slotsG g).map (eSlot true))))]) 2 _
  have hJ1 := hI'.1
  have hub := unG_bd g ((k : Nat) : Int)
  refine sr (fO (xls' (tv (tN k) rfl) (tv (tN ((slotsG g).length)) rfl)) (nt (sq ?_)))
  refine cd (k < (slotsG g).length) rfl (fun fhc5 => ?_) fun fhc5 => ?_
  · refine sk ?_
    refine tn (sq (VRun.block (sr (mO (tN k) rfl ?_))))
    obtain ⟨x1, hx1⟩ : ∃ x, (slotsG g)[k]? = some x := ⟨_, List.getElem?_eq_getElem (by omega)⟩
    refine fO (B.indexAddrO (i := k) (tv (T.os 4 1 0 (((slotsG g).map (eSlot true)).length)) rfl) (tv (tN k) rfl) rfl (by (simp only [List.length_map]; omega)) U62 sz83 if83) (lO (OL.loadPn (us := (eSlot false x1)) (row := (eSlot true x1)) (tv (T.orp 4 1 k 0) rfl) rfl (map_at _ hx1) st83 sz83 (lb rfl) rfl (bc rfl (bc rfl (bc rfl (bc rfl bn))))) (kO (B.alloc (t := (T.agg [(tN 0), (tB false), (tN 0), (tN 0)])) (ts := [(tN 0), (tB false), (tN 0), (tN 0)]) zo83 zc83 nofun (fun _ => .agg _ _ rfl (RLof (RL.cons (.int _ _) (RL.cons (.bool _) (RL.cons (.int _ _) (RL.cons (.int _ _) (RL.nil _))))))) rfl) (aO (tN k) rfl (cO (B.storeO (us := (eSlot false x1)) (ws := (eSlot false x1)) (tv (T.op 2 0) rfl) (tv (T.agg (eSlot false x1)) rfl) nofun rfl rfl (lb rfl) if83 sz83 (bc rfl (bc rfl (bc rfl (bc rfl bn)))) rfl) (nt (sq (VRun.draw (B := [[], [], [1, 0], [0, 1, 2], [], [4], [4, 5, 2, 1, 0, 3]]) (by kernel_rfl) (by kernel_rfl) (lD (OL.loadOn (us := (eGrid false g)) (tv (T.op 0 0) rfl) rfl st29 sz29 (lb rfl) rfl) rfl rfl (mD (tN k) rfl rfl (VRunD.quiet (bi := [1, 0]) rfl VWant.always rfl rfl rfl bn (cS (vc (tv (T.agg (eGrid false g)) rfl) (vc (tv (tN k) rfl) vn)) (LendL.cons (lg okeGrid) (lp rfl ln)) (W_impl_UncheckedIn (n + 33) g ((k : Nat) : Int) (by omega)) rfl rfl) (fD (B.mul (n := (2 * unG g ((k : Nat) : Int))) (VEv.int .i64 2) (tv (tI (unG g ((k : Nat) : Int))) rfl) (by (rw [wrap64 (by omega)]; done))) rfl rfl ?_)))))))))))
    refine fD (OF.fieldAddrO (tv (T.op 2 0) rfl) fa83_3) rfl rfl (lD (OL.loadO1 (t := (tI x1.Length)) (tv (T.op 2 3) rfl) rfl rfl st3) rfl rfl (fD (xgt (tv (tI (2 * unG g ((k : Nat) : Int))) rfl) (tv (tI x1.Length) rfl)) rfl rfl (VRunD.nil (tn ?_))))
    refine cd (x1.Length < (2 * unG g ((k : Nat) : Int))) rfl (fun fhc6 => ?_) fun fhc6 => ?_
    · have q1 : badS g k x1 := by unfold badS; omega
      refine sr (fO (OF.assign (VEv.int .i64 5)) (nt (rt (vinB.r (tr (tr (vinB.r (tr (vi (n' := 5) rfl ?_)))))))))
      unfold formG; rw [if_neg (not_not_intro fhc0), if_neg (not_not_intro fhc1), if_neg (not_not_intro fhc2), if_neg hsh, if_pos (show aloneG g from .inl ⟨k, x1, hx1, q1⟩)]
    have q1 : ¬ badS g k x1 := by unfold badS; omega
    refine sk (vinB.n (tn (VRun.region (fO (xinc (tv (tN k) rfl) (VEv.int .i64 1) (by omega)) (mO (tN (k + 1)) rfl (VRunO.nil (tn ?_)))))))
    refine ⟨(k + 1 : Nat), ?_, ?_, Wk.mk (fun k => k) ?_ ?_ ?_⟩
    · exact hI'.next hx1 q1
    · omega
    · exact (b2 (b2 (b2 (b2 bn))))
    · exact (b3 (b3 bn))
    · exact nd rfl
  have hal := alone_full (g := g) (fun j s hj => hI'.2 j s (by omega)) (by simpa using fhc0)
  refine VRun.exit (vthn.e (vthn.e (vinB.e (tn (sq (sr (lO (OL.loadOn (us := (eGrid false g)) (tv (T.op 0 0) rfl) rfl st29 sz29 (lb rfl) rfl) (lf (tS g.Cells) rfl fa29_2 rfl rfl st9 (cO (cS (vc (tv (T.agg (eGrid false g)) rfl) (vc (tv (tS g.Cells) rfl) vn)) (LendL.cons (lg okeGrid) (lp rfl ln)) (W_impl_alone (n + 35) g g.Cells (by omega) (by omega)) rfl rfl) (nt ?_))))))))))
  refine cd (aloneF g g.Cells) rfl (fun fhc7 => ?_) fun fhc7 => ?_
  · refine sr ?_
    refine fO (OF.assign (VEv.int .i64 5)) (nt (rt (tr (vi (n' := 5) rfl ?_))))
    unfold formG; rw [if_neg (not_not_intro fhc0), if_neg (not_not_intro fhc1), if_neg (not_not_intro fhc2), if_neg hsh, if_pos (hal.1 fhc7)]
  refine sk (tn (sr (fO (OF.assign (VEv.int .i64 0)) (nt (rt (vi (n' := 0) rfl ?_))))))
  unfold formG; rw [if_neg (not_not_intro fhc0), if_neg (not_not_intro fhc1), if_neg (not_not_intro fhc2), if_neg hsh, if_neg (fun h => fhc7 (hal.2 h))]
end Go.Proofs.Ytjclbdgjkecbeaa.AE
namespace Go.Proofs.Ytjclbdgjkecbeaa.AE
open Go Go.RowKit
set_option linter.unusedVariables false
set_option linter.unusedSimpArgs false
set_option maxRecDepth 20000
set_option maxHeartbeats 2000000
noncomputable section
def okC (c : D.Clue) : Prop := (1 ≤ c.Sense ∧ c.Sense ≤ 99) ∧ isPlay c.Play
end
noncomputable section
def badC (c : D.Clue) : Prop := ¬ okC c ∧ ¬ zeroC c
instance (c : D.Clue) : Decidable (badC c) := Classical.propDecidable _
theorem zeroC_iff (c : D.Clue) : c = D.Clue.mk 0 [] ↔ zeroC c := by
  obtain ⟨a, b⟩ := c
  unfold zeroC
  simp [List.length_eq_zero_iff]
def isDraft (x : D.Draft) : Prop := formG x.Grid = 0 ∧ isFill x.Grid x.Fill ∧ x.Clues.length = (slotsG x.Grid).length ∧ (1 ≤ x.Version ∧ x.Version ≤ 9999) ∧ ∀ c ∈ x.Clues, ¬ badC c
instance (x : D.Draft) : Decidable (isDraft x) := Classical.propDecidable _
end
theorem W_impl_IsDraft_1 (n : Nat) (c : D.Clue) (hz : zClue c ≤ mx) : Pure (acall Try.prog (n + 5)) 42 [(T.agg (eClue false c))] (tB (decide (badC c))) := by
  refine Pure.intro (rs := [ResultVar.tmp 2]) Try.func42 rfl rfl rfl (E0 := [(0, (T.agg (eClue false c)))]) rfl ?_
  obtain ⟨hlim, hmx, hmax⟩ := lims
  have hz2 := hz
  simp only [zClue] at hz2
  have hl := zL_len (z := zStep) c.Play
  refine sr (kO (B.box (ts := (eClue false c)) (tv (T.agg (eClue false c)) rfl) nofun rfl) (fO (OF.assign (VEv.bool false)) (nt (sr (lO (OL.loadOn (us := (eClue false c)) (tv (T.op 0 0) rfl) rfl st50 sz50 (lb rfl) rfl) (cO (cS (vc (tv (T.agg (eClue false c)) rfl) vn) (LendL.cons (lg okeClue) ln) (W_impl_IsClue (n + 0) c (by assumption)) rfl rfl) (fO (xnot (tv (tB (decide ((1 ≤ c.Sense ∧ c.Sense ≤ 99) ∧ isPlay c.Play))) rfl)) (mO (tB (!(decide ((1 ≤ c.Sense ∧ c.Sense ≤ 99) ∧ isPlay c.Play)))) rfl ?_))))))))
  refine VRunO.joinB 5 [7, 8, 9, 10] 11 (tB (decide ((¬ ((1 ≤ c.Sense ∧ c.Sense ≤ 99) ∧ isPlay c.Play)) ∧ (¬ (c = (D.Clue.mk 0 ([] : List D.Step))))))) ?_ ?_
  · refine gn ((1 ≤ c.Sense ∧ c.Sense ≤ 99) ∧ isPlay c.Play) (fun fhg6_1 => ?_) fun fhg6_1 => ?_
    · refine gL (ny fhg6_1) rfl rfl (OL.loadOn (us := (eClue false c)) (tv (T.op 0 0) rfl) rfl st50 sz50 (lb rfl) rfl) ?_
      refine gF (ny fhg6_1) rfl rfl (OF.build (l := []) (zs := [(tN 0), T.nils]) (out := [(tN 0), T.nils]) VEvp.nil bn Try.underlying50 zo50 (fun _ => RL.cons (.int _ _) (RL.cons (.nils) (RL.nil _))) (by kernel_rfl) (by kernel_rfl)) (VRunO.chain (VWant.on rfl rfl (ny fhg6_1)) (cS (us := [(T.agg (eClue false c)), (T.agg [(tN 0), (rd 4 eStep ([] : List D.Step))])]) (vc (tv (T.agg (eClue false c)) rfl) (vc (tv (T.agg [(tN 0), T.nils]) rfl) vn)) (LendL.cons (lg okeClue) (LendL.cons (Lend.agg (LendL.cons (Lend.pl rfl) (LendL.cons (Lend.nils (sz := 4)) ln))) ln)) (W_impl_sameClue (n + 2) c (D.Clue.mk 0 ([] : List D.Step)) (by assumption) (by exact Nat.le_of_ble_eq_true rfl)) rfl rfl) (gF (ny fhg6_1) rfl rfl (xnot (tv (tB (decide (c = (D.Clue.mk 0 ([] : List D.Step))))) rfl)) (fO (OF.pickT (VEv.tmpB rfl (ny fhg6_1)) (tv (tB (!(decide (c = (D.Clue.mk 0 ([] : List D.Step)))))) rfl)) (VRunO.nil ?_))))
      exact jq (congrArg T.bool (kAT fhg6_1 dN)) (js rfl (js rfl (js rfl (js rfl (jn)))))
    · refine offs 4 3 true 6 (nz fhg6_1) rfl rfl rfl ?_
      refine fO (OF.pickF (VEv.tmpB rfl (nz fhg6_1)) (VEv.bool false)) (VRunO.nil ?_)
      exact jq (congrArg T.bool (kAF (not_not_intro fhg6_1))) (js rfl (js rfl (js rfl (js rfl (jn)))))
  refine aO (tB (decide ((¬ ((1 ≤ c.Sense ∧ c.Sense ≤ 99) ∧ isPlay c.Play)) ∧ (¬ (c = (D.Clue.mk 0 ([] : List D.Step))))))) rfl (nt (rt (vb (b' := (decide ((¬ ((1 ≤ c.Sense ∧ c.Sense ≤ 99) ∧ isPlay c.Play)) ∧ (¬ (c = (D.Clue.mk 0 ([] : List D.Step))))))) rfl ?_)))
  refine decN ?_; rw [zeroC_iff]; exact Iff.rfl
theorem W_slices_IndexFunc_impl_Clue_impl_Clue_impl_IsDraft_1 (n : Nat) (l : List D.Clue) (hz : zL zClue l ≤ mx) : Pure (acall Try.prog (n + 6)) 80 [(rd 2 eClue l), (T.fn 42 [])] (tI (ixF badC l)) := by
  refine Pure.intro (rs := [ResultVar.tmp 4]) Try.func80 rfl rfl rfl (E0 := [(0, (rd 2 eClue l)), (1, (T.fn 42 []))]) rfl ?_
  obtain ⟨hlim, hmx, hmax⟩ := lims
  have hl := zL_len (z := zClue) l
  refine sr (fO (OF.assign (VEv.int .i64 0)) (nt (sq (sr (mO (rd 2 eClue l) rfl (lO (B.lenR (m := l.length) (tv (rd 2 eClue l) rfl) U30 (List.length_map ..)) (fO (OF.move (VEv.int .i64 0)) (nt (VRun.block ?_)))))))))
  refine VRun.loop (A := Nat) (fun s_ => [(0, (rd 2 eClue l)), (1, (T.fn 42 [])), (7, (tN l.length)), (8, (tN s_))]) (fun s_ => mkO []) 0 (fun s_ => NoneTo badC l s_) (fun s_ => l.length - s_) (0 : Nat) ?_ (Wk.mk (fun k => k) ?_ ?_ ?_) ?_
  · exact NoneTo.start _ _
  · exact (b2 (b2 (b2 (b2 bn))))
  · exact bn
  · exact nd rfl
  rintro i (hI' : NoneTo badC l i)
  show VRun _ _ _ [(0, (rd 2 eClue l)), (1, (T.fn 42 [])), (7, (tN l.length)), (8, (tN i))] (mkO []) 0 _
  have hI1 := hI'.1
  refine sr (fO (xls' (tv (tN i) rfl) (tv (tN l.length) rfl)) (nt (sq ?_)))
  refine cd (i < l.length) rfl (fun fhc0 => ?_) fun fhc0 => ?_
  · refine sk ?_
    refine tn (sq (VRun.block (sr (mO (tN i) rfl (aO (tN i) rfl (nt (sr (mO (T.fn 42 []) rfl (mO (rd 2 eClue l) rfl (mO (tN i) rfl ?_))))))))))
    obtain ⟨x1, hx1⟩ : ∃ x, l[i]? = some x := ⟨_, List.getElem?_eq_getElem (by omega)⟩
    refine fO (OF.indexAddrR (row := (eClue false x1)) (i := i) (tv (rd 2 eClue l) rfl) (tv (tN i) rfl) rfl (map_at _ hx1) U30 sz50 if50) (lO (OL.loadRn (us := (eClue false x1)) (tv (T.rp (eClue false x1)) rfl) st50 sz50 (lb rfl) rfl) (cO (OC.callv (us := [(T.agg (eClue false x1))]) (ucaps := []) (r := (tB (decide (badC x1)))) (r' := (tB (decide (badC x1)))) (objs := []) rfl rfl (vc (tv (T.agg (eClue false x1)) rfl) vn) (LendL.cons (lg okeClue) ln) ln (W_impl_IsDraft_1 (n + 0) x1 (by exact Nat.le_trans (zL_at hx1) hz)) rfl) (nt ?_)))
    refine cd (badC x1) rfl (fun fhc1 => ?_) fun fhc1 => ?_
    · refine sr ?_
      refine mO (tN i) rfl (aO (tN i) rfl (nt (rt (vinB.r (tr (tr (vinB.r (tr (vi (n' := ((i : Nat) : Int)) rfl ?_)))))))))
      exact (ixF_found hx1 fhc1 hI'.2).symm
    refine sk (vinB.n (tn (VRun.region (fO (xinc (tv (tN i) rfl) (VEv.int .i64 1) (by omega)) (mO (tN (i + 1)) rfl (VRunO.nil (tn ?_)))))))
    refine ⟨(i + 1 : Nat), ?_, ?_, Wk.mk (fun k => k) ?_ ?_ ?_⟩
    · exact hI'.next hx1 fhc1
    · omega
    · exact (b2 (b2 (b2 (b2 bn))))
    · exact bn
    · exact nd rfl
  refine VRun.exit (vthn.e (vthn.e (vinB.e (tn (sr (fO (OF.assign (VEv.int .i64 (-1))) (nt (rt (vi (n' := (-1)) rfl ?_)))))))))
  exact (ixF_none (hI'.all fhc0)).symm
theorem W_slices_ContainsFunc_impl_Clue_impl_Clue_impl_IsDraft_1 (n : Nat) (l : List D.Clue) (hz : zL zClue l ≤ mx) : Pure (acall Try.prog (n + 7)) 41 [(rd 2 eClue l), (T.fn 42 [])] (tB (decide (∃ c ∈ l, badC c))) := by
  refine Pure.intro (rs := [ResultVar.tmp 4]) Try.func41 rfl rfl rfl (E0 := [(0, (rd 2 eClue l)), (1, (T.fn 42 []))]) rfl ?_
  obtain ⟨hlim, hmx, hmax⟩ := lims
  refine sr (fO (OF.assign (VEv.bool false)) (nt (sr (mO (rd 2 eClue l) rfl (mO (T.fn 42 []) rfl (cO (cS (us := [(rd 2 eClue l), (T.fn 42 [])]) (vc (tv (rd 2 eClue l) rfl) (vc (tv (T.fn 42 []) rfl) vn)) (lp rfl (LendL.cons (Lend.fn ln) ln)) (W_slices_IndexFunc_impl_Clue_impl_Clue_impl_IsDraft_1 (n + 0) l (by assumption)) rfl rfl) (fO (xge (tv (tI (ixF badC l)) rfl) (VEv.int .i64 0)) (aO (tB (decide (0 ≤ ixF badC l))) rfl (nt (rt (vb (b' := (decide (0 ≤ ixF badC l))) rfl ?_)))))))))))
  refine decN ?_; exact ixF_nn
theorem W_spec_IsDraft (n : Nat) (a : D.Draft) (hz : zDraft a ≤ mx) : Pure (acall Try.prog (n + 10)) 8 [(T.agg (eDraft false a))] (tB (decide (isDraft a))) := by
  refine Pure.intro (rs := [ResultVar.tmp 2]) Try.func8 rfl rfl rfl (E0 := [(0, (T.agg (eDraft false a)))]) rfl ?_
  obtain ⟨hlim, hmx, hmax⟩ := lims
  simp only [zDraft, zGrid] at hz
  have hl := zL_len (z := zClue) a.Clues
  refine sr (kO (B.box (ts := (eDraft false a)) (tv (T.agg (eDraft false a)) rfl) nofun rfl) (fO (OF.assign (VEv.bool false)) (nt (sq (sr (fO (OF.assign (VEv.int .i64 0)) (nt (VRun.block ?_))))))))
  refine VRun.loop (A := Nat) (fun s_ => [(1, (T.op 0 0)), (3, (tN s_))]) (fun s_ => mkO [(0, (Obj.cells (eDraft false a)))]) 1 (fun s_ => NoneTo badC a.Clues s_) (fun s_ => a.Clues.length - s_) (0 : Nat) ?_ (Wk.mk (fun k => k) ?_ ?_ ?_) ?_
  · exact NoneTo.start _ _
  · exact (b2 (b2 bn))
  · exact (b3 bn)
  · exact nd rfl
  rintro i (hI' : NoneTo badC a.Clues i)
  show VRun _ _ _ [(1, (T.op 0 0)), (3, (tN i))] (mkO [(0, (Obj.cells (eDraft false a)))]) 1 _
  have hI1 := hI'.1
  refine sq (sr (mO (tN i) rfl (lf (rd 2 eClue a.Clues) rfl fa32_2 rfl rfl st30 (lO (B.lenR (m := a.Clues.length) (tv (rd 2 eClue a.Clues) rfl) U30 (List.length_map ..)) (fO (xls' (tv (tN i) rfl) (tv (tN a.Clues.length) rfl)) (nt ?_))))))
  refine cd (i < a.Clues.length) rfl (fun fhc0 => ?_) fun fhc0 => ?_
  · refine sk ?_
    refine tn (sq (VRun.block (sr (lf (rd 2 eClue a.Clues) rfl fa32_2 rfl rfl st30 (mO (tN i) rfl ?_)))))
    obtain ⟨x1, hx1⟩ : ∃ x, a.Clues[i]? = some x := ⟨_, List.getElem?_eq_getElem (by omega)⟩
    refine fO (OF.indexAddrR (row := (eClue false x1)) (i := i) (tv (rd 2 eClue a.Clues) rfl) (tv (tN i) rfl) rfl (map_at _ hx1) U30 sz50 if50) (lO (OL.loadRn (us := (eClue false x1)) (tv (T.rp (eClue false x1)) rfl) st50 sz50 (lb rfl) rfl) (cO (cS (vc (tv (T.agg (eClue false x1)) rfl) vn) (LendL.cons (lg okeClue) ln) (W_spec_l27Zero (n + 8) x1 (by (have := zL_at (z := zClue) hx1; simp only [zClue] at this; have h2 := zL_len (z := zStep) x1.Play; omega))) rfl rfl) (fO (xnot (tv (tB (decide (zeroC x1))) rfl)) (mO (tB (!(decide (zeroC x1)))) rfl ?_))))
    refine VRunO.joinB 8 [19, 20, 21, 22, 23, 24, 25] 26 (tB (decide ((¬ (zeroC x1)) ∧ (¬ ((1 ≤ x1.Sense ∧ x1.Sense ≤ 99) ∧ isPlay x1.Play))))) ?_ ?_
    · refine gn (zeroC x1) (fun fhg18_1 => ?_) fun fhg18_1 => ?_
      · refine glf (rd 2 eClue a.Clues) (ny fhg18_1) rfl rfl rfl rfl fa32_2 rfl rfl st30 ?_
        refine gF (ny fhg18_1) rfl rfl (OF.move (tv (tN i) rfl)) (gF (ny fhg18_1) rfl rfl (OF.indexAddrR (row := (eClue false x1)) (i := i) (tv (rd 2 eClue a.Clues) rfl) (tv (tN i) rfl) rfl (map_at _ hx1) U30 sz50 if50) (gL (ny fhg18_1) rfl rfl (OL.loadRn (us := (eClue false x1)) (tv (T.rp (eClue false x1)) rfl) st50 sz50 (lb rfl) rfl) (VRunO.chain (VWant.on rfl rfl (ny fhg18_1)) (cS (vc (tv (T.agg (eClue false x1)) rfl) vn) (LendL.cons (lg okeClue) ln) (W_spec_IsClue (n + 4) x1 (by exact Nat.le_trans (zL_at hx1) (by omega))) rfl rfl) (gF (ny fhg18_1) rfl rfl (xnot (tv (tB (decide ((1 ≤ x1.Sense ∧ x1.Sense ≤ 99) ∧ isPlay x1.Play))) rfl)) (fO (OF.pickT (VEv.tmpB rfl (ny fhg18_1)) (tv (tB (!(decide ((1 ≤ x1.Sense ∧ x1.Sense ≤ 99) ∧ isPlay x1.Play)))) rfl)) (VRunO.nil ?_))))))
        exact jq (congrArg T.bool (kAT fhg18_1 dN)) (js rfl (js rfl (js rfl (js rfl (js rfl (js rfl (js rfl (jn))))))))
      · refine offs 7 7 true 18 (nz fhg18_1) rfl rfl rfl ?_
        refine fO (OF.pickF (VEv.tmpB rfl (nz fhg18_1)) (VEv.bool false)) (VRunO.nil ?_)
        exact jq (congrArg T.bool (kAF (not_not_intro fhg18_1))) (js rfl (js rfl (js rfl (js rfl (js rfl (js rfl (js rfl (jn))))))))
    refine nt ?_
    refine cd ((¬ (zeroC x1)) ∧ (¬ ((1 ≤ x1.Sense ∧ x1.Sense ≤ 99) ∧ isPlay x1.Play))) rfl (fun fhc1 => ?_) fun fhc1 => ?_
    · refine sr ?_
      refine fO (OF.assign (VEv.bool false)) (nt (rt (vinB.r (tr (tr (vinB.r (tr (vb (b' := false) rfl ?_))))))))
      (symm; rw [decide_eq_false_iff_not]; rintro ⟨_, _, _, _, h⟩; exact h x1 (List.mem_of_getElem? hx1) ⟨fhc1.2, fhc1.1⟩)
    refine sk (vinB.n (tn (VRun.region (mO (tN i) rfl (fO (xinc (tv (tN i) rfl) (VEv.int .i64 1) (by (have := zL_at (z := zClue) hx1; simp only [zClue] at this; have h2 := zL_len (z := zStep) x1.Play; omega))) (aO (tN (i + 1)) rfl (VRunO.nil (tn ?_))))))))
    refine ⟨(i + 1 : Nat), ?_, ?_, Wk.mk (fun k => k) ?_ ?_ ?_⟩
    · exact hI'.next hx1 (fun h => fhc1 ⟨h.2, h.1⟩)
    · omega
    · exact (b2 (b2 bn))
    · exact (b3 bn)
    · exact nd rfl
  refine VRun.exit (vthn.e (vthn.e (vinB.e (tn (sq (VRun.draw (B := [[], [0], [0, 1], [1, 0, 2], [2, 0, 1, 3], [3, 1, 0, 2, 4], [4, 2, 0, 1, 3, 5], [3, 1, 0, 2, 4], [4, 2, 0, 1, 3, 7], [7, 8, 5, 3, 1, 0, 2, 4, 6], [6, 5, 8, 7, 9, 3, 1, 0, 2, 4], [4, 2, 0, 1, 3, 9, 7, 8, 5, 6, 10], [10, 6, 5, 8, 7, 9, 3, 1, 0, 2, 4, 11], [11, 4, 2, 0, 1, 3, 9, 7, 8, 5, 6, 10, 12], [12, 10, 6, 5, 8, 7, 9, 3, 1, 0, 2, 4, 11, 13], [10, 6, 5, 8, 7, 9, 3, 1, 0, 2, 4, 11], [11, 4, 2, 0, 1, 3, 9, 7, 8, 5, 6, 10, 15], [15, 10, 6, 5, 8, 7, 9, 3, 1, 0, 2, 4, 11, 16], [16, 11, 4, 2, 0, 1, 3, 9, 7, 8, 5, 6, 10, 15, 17], [17, 15, 16, 18, 13, 11, 4, 2, 0, 1, 3, 9, 7, 8, 5, 6, 10, 12, 14], [14, 12, 13, 18, 16, 15, 17, 19, 10, 6, 5, 8, 7, 9, 3, 1, 0, 2, 4, 11], [11, 4, 2, 0, 1, 3, 9, 7, 8, 5, 6, 10, 19, 17, 15, 16, 18, 13, 12, 14, 20], [20, 14, 12, 13, 18, 16, 15, 17, 19, 10, 6, 5, 8, 7, 9, 3, 1, 0, 2, 4, 11, 21], [21, 11, 4, 2, 0, 1, 3, 9, 7, 8, 5, 6, 10, 19, 17, 15, 16, 18, 13, 12, 14, 20, 22], [22, 20, 14, 12, 13, 18, 16, 15, 17, 19, 10, 6, 5, 8, 7, 9, 3, 1, 0, 2, 4, 11, 21, 23], [23, 22, 24, 20, 14, 12, 13, 18, 16, 15, 17, 19, 10, 6, 5, 8, 7, 9, 3, 1, 0, 2, 4, 11, 21], [21, 11, 4, 2, 0, 1, 3, 9, 7, 8, 5, 6, 10, 19, 17, 15, 16, 18, 13, 12, 14, 20, 24, 22, 23, 25]]) (by kernel_rfl) (by kernel_rfl) (fD (OF.fieldAddrO (tv (T.op 0 0) rfl) fa32_0) rfl rfl (lD (OL.loadOn (us := (eGrid false a.Grid)) (tv (T.op 0 0) rfl) rfl st29 sz29 (lb rfl) rfl) rfl rfl (VRunD.quiet (bi := [0, 1]) rfl VWant.always rfl rfl rfl bn (cS (vc (tv (T.agg (eGrid false a.Grid)) rfl) vn) (LendL.cons (lg okeGrid) ln) (W_spec_FormOf (n + 0) a.Grid (by omega)) rfl rfl) (fD (xeq (tv (tI (formG a.Grid)) rfl) (VEv.int .i64 0)) rfl rfl (mD (tB (decide (formG a.Grid = 0))) rfl rfl ?_)))))))))))
  refine gw (formG a.Grid = 0) (fun fhg31_2 => ?_) fun fhg31_2 => ?_
  · refine VRunD.free rfl (VWant.on rfl rfl (dy fhg31_2)) rfl (OF.fieldAddrO (tv (T.op 0 0) rfl) fa32_0) ?_
    refine VRunD.look rfl (VWant.on rfl rfl (dy fhg31_2)) rfl (OL.loadOn (us := (eGrid false a.Grid)) (tv (T.op 0 0) rfl) rfl st29 sz29 (lb rfl) rfl) (VRunD.free rfl (VWant.on rfl rfl (dy fhg31_2)) rfl (OF.fieldAddrO (tv (T.op 0 0) rfl) fa32_1) (VRunD.look rfl (VWant.on rfl rfl (dy fhg31_2)) rfl (OL.loadO1 (t := (tS a.Fill)) (tv (T.op 0 3) rfl) rfl rfl st9) (VRunD.quiet (bi := [7, 8, 5, 3, 1, 0, 2, 4, 6]) rfl (VWant.on rfl rfl (dy fhg31_2)) rfl rfl rfl bn (cS (vc (tv (T.agg (eGrid false a.Grid)) rfl) (vc (tv (tS a.Fill) rfl) vn)) (LendL.cons (lg okeGrid) (lp rfl ln)) (W_spec_IsFill (n + 6) a.Grid a.Fill (by omega) (by omega)) rfl rfl) (fD (OF.pickT (VEv.tmpB rfl (dy fhg31_2)) (tv (tB (decide (isFill a.Grid a.Fill))) rfl)) rfl rfl (mD (tB (decide (isFill a.Grid a.Fill))) rfl rfl ?_)))))
    refine gw (isFill a.Grid a.Fill) (fun fhg38_3 => ?_) fun fhg38_3 => ?_
    · refine VRunD.free rfl (VWant.on rfl rfl (dy fhg38_3)) rfl (OF.fieldAddrO (tv (T.op 0 0) rfl) fa32_2) ?_
      refine VRunD.look rfl (VWant.on rfl rfl (dy fhg38_3)) rfl (OL.loadO1 (t := (rd 2 eClue a.Clues)) (tv (T.op 0 4) rfl) rfl rfl st30) (VRunD.look rfl (VWant.on rfl rfl (dy fhg38_3)) rfl (B.lenR (m := a.Clues.length) (tv (rd 2 eClue a.Clues) rfl) U30 (List.length_map ..)) (VRunD.free rfl (VWant.on rfl rfl (dy fhg38_3)) rfl (OF.fieldAddrO (tv (T.op 0 0) rfl) fa32_0) (VRunD.look rfl (VWant.on rfl rfl (dy fhg38_3)) rfl (OL.loadOn (us := (eGrid false a.Grid)) (tv (T.op 0 0) rfl) rfl st29 sz29 (lb rfl) rfl) (VRunD.quiet (bi := [15, 10, 6, 5, 8, 7, 9, 3, 1, 0, 2, 4, 11, 16]) rfl (VWant.on rfl rfl (dy fhg38_3)) rfl rfl rfl bn (OC.callF (us := [(T.agg (eGrid false a.Grid))]) (r := (T.sl true 4 ((slotsG a.Grid).map (eSlot true)))) (r' := (T.os 4 1 0 (((slotsG a.Grid).map (eSlot true)).length))) (objs := [(Obj.rows 4 ((slotsG a.Grid).map (eSlot true)))]) rfl (vc (tv (T.agg (eGrid false a.Grid)) rfl) vn) (LendL.cons (lg okeGrid) ln) (W_spec_SlotsOf (n + 6) a.Grid (by omega)) rfl) (VRunD.look rfl (VWant.on rfl rfl (dy fhg38_3)) rfl (B.lenO (m := (slotsG a.Grid).length) (tv (T.os 4 1 0 (((slotsG a.Grid).map (eSlot true)).length)) rfl) U62 (List.length_map ..)) (VRunD.free rfl (VWant.on rfl rfl (dy fhg38_3)) rfl (xeq' (tv (tN a.Clues.length) rfl) (tv (tN ((slotsG a.Grid).length)) rfl)) (fD (OF.pickT (VEv.tmpB rfl (dy fhg38_3)) (tv (tB (decide (a.Clues.length = (slotsG a.Grid).length))) rfl)) rfl rfl (mD (tB (decide (a.Clues.length = (slotsG a.Grid).length))) rfl rfl ?_))))))))
      refine gw (a.Clues.length = (slotsG a.Grid).length) (fun fhg48_4 => ?_) fun fhg48_4 => ?_
      · refine VRunD.free rfl (VWant.on rfl rfl (dy fhg48_4)) rfl (OF.fieldAddrO (tv (T.op 0 0) rfl) fa32_3) ?_
        refine VRunD.look rfl (VWant.on rfl rfl (dy fhg48_4)) rfl (OL.loadO1 (t := (tI a.Version)) (tv (T.op 0 5) rfl) rfl rfl st3) (VRunD.quiet (bi := [22, 20, 14, 12, 13, 18, 16, 15, 17, 19, 10, 6, 5, 8, 7, 9, 3, 1, 0, 2, 4, 11, 21, 23]) rfl (VWant.on rfl rfl (dy fhg48_4)) rfl rfl rfl bn (cS (vc (tv (tI a.Version) rfl) (vc (VEv.int .i64 1) (vc (VEv.int .i64 9999) vn))) (lps rfl) (W_spec_l1In (n + 8) a.Version 1 9999 ) rfl rfl) (fD (OF.pickT (VEv.tmpB rfl (dy fhg48_4)) (tv (tB (decide (1 ≤ a.Version ∧ a.Version ≤ 9999))) rfl)) rfl rfl (fD (OF.assign (tv (tB (decide (1 ≤ a.Version ∧ a.Version ≤ 9999))) rfl)) rfl rfl (VRunD.nil (tn (rt (vb (b' := (decide (1 ≤ a.Version ∧ a.Version ≤ 9999))) rfl ?_)))))))
        (refine decN ⟨fun h => ⟨?_, ?_, ?_, h, fun c hc => hI'.mem fhc0 c hc⟩, fun h => h.2.2.2.1⟩ <;> assumption)
      refine oD rfl rfl (dz fhg48_4) rfl (oD rfl rfl (dz fhg48_4) rfl (oD rfl rfl (dz fhg48_4) rfl (fD (OF.pickF (VEv.tmpB rfl (dz fhg48_4)) (VEv.bool false)) rfl rfl (fD (OF.assign (tv (tB false) rfl)) rfl rfl (VRunD.nil (tn (rt (vb (b' := false) rfl ?_))))))))
      (symm; rw [decide_eq_false_iff_not]; rintro ⟨h1, h2, h3, h4, h5⟩; contradiction)
    refine oD rfl rfl (dz fhg38_3) rfl (oD rfl rfl (dz fhg38_3) rfl (oD rfl rfl (dz fhg38_3) rfl (oD rfl rfl (dz fhg38_3) rfl (oD rfl rfl (dz fhg38_3) rfl (oD rfl rfl (dz fhg38_3) rfl (oD rfl rfl (dz fhg38_3) rfl (oD rfl rfl (dz fhg38_3) rfl (fD (OF.pickF (VEv.tmpB rfl (dz fhg38_3)) (VEv.bool false)) rfl rfl (mD (tB false) rfl rfl (VRunD.off rfl (VWant.not (b := false) rfl rfl rfl) (VRunD.off rfl (VWant.not (b := false) rfl rfl rfl) ?_)))))))))))
    refine VRunD.off rfl (VWant.not (b := false) rfl rfl rfl) (fD (OF.pickF (tv (tB false) rfl) (VEv.bool false)) rfl rfl (fD (OF.assign (tv (tB false) rfl)) rfl rfl (VRunD.nil (tn (rt (vb (b' := false) rfl ?_))))))
    (symm; rw [decide_eq_false_iff_not]; rintro ⟨h1, h2, h3, h4, h5⟩; contradiction)
  refine oD rfl rfl (dz fhg31_2) rfl (oD rfl rfl (dz fhg31_2) rfl (oD rfl rfl (dz fhg31_2) rfl (oD rfl rfl (dz fhg31_2) rfl (oD rfl rfl (dz fhg31_2) rfl (fD (OF.pickF (VEv.tmpB rfl (dz fhg31_2)) (VEv.bool false)) rfl rfl (mD (tB false) rfl rfl (VRunD.off rfl (VWant.not (b := false) rfl rfl rfl) (VRunD.off rfl (VWant.not (b := false) rfl rfl rfl) (VRunD.off rfl (VWant.not (b := false) rfl rfl rfl) (VRunD.off rfl (VWant.not (b := false) rfl rfl rfl) (VRunD.off rfl (VWant.not (b := false) rfl rfl rfl) ?_)))))))))))
  refine VRunD.off rfl (VWant.not (b := false) rfl rfl rfl) (VRunD.off rfl (VWant.not (b := false) rfl rfl rfl) (VRunD.off rfl (VWant.not (b := false) rfl rfl rfl) (fD (OF.pickF (tv (tB false) rfl) (VEv.bool false)) rfl rfl (mD (tB false) rfl rfl (VRunD.off rfl (VWant.not (b := false) rfl rfl rfl) (VRunD.off rfl (VWant.not (b := false) rfl rfl rfl) (VRunD.off rfl (VWant.not (b := false) rfl rfl rfl) (fD (OF.pickF (tv (tB false) rfl) (VEv.bool false)) rfl rfl (fD (OF.assign (tv (tB false) rfl)) rfl rfl (VRunD.nil (tn ?_)))))))))))
  refine rt (vb (b' := false) rfl ?_)
  (symm; rw [decide_eq_false_iff_not]; rintro ⟨h1, h2, h3, h4, h5⟩; contradiction)
theorem W_impl_IsDraft (n : Nat) (a : D.Draft) (hz : zDraft a ≤ mx) : Pure (acall Try.prog (n + 42)) 10 [(T.agg (eDraft false a))] (tB (decide (isDraft a))) := by
  refine Pure.intro (rs := [ResultVar.tmp 2]) Try.func10 rfl rfl rfl (E0 := [(0, (T.agg (eDraft false a)))]) rfl ?_
  obtain ⟨hlim, hmx, hmax⟩ := lims
  simp only [zDraft, zGrid] at hz
  have hl := zL_len (z := zClue) a.Clues
  refine sr (kO (B.box (ts := (eDraft false a)) (tv (T.agg (eDraft false a)) rfl) nofun rfl) (fO (OF.assign (VEv.bool false)) (nt (sq (VRun.draw (B := [[], [0], [0, 1], [1, 0, 2], [2, 0, 1, 3], [3, 1, 0, 2, 4], [4, 2, 0, 1, 3, 5], [3, 1, 0, 2, 4], [4, 2, 0, 1, 3, 7], [7, 8, 5, 3, 1, 0, 2, 4, 6], [6, 5, 8, 7, 9, 3, 1, 0, 2, 4], [4, 2, 0, 1, 3, 9, 7, 8, 5, 6, 10], [10, 6, 5, 8, 7, 9, 3, 1, 0, 2, 4, 11], [11, 4, 2, 0, 1, 3, 9, 7, 8, 5, 6, 10, 12], [12, 10, 6, 5, 8, 7, 9, 3, 1, 0, 2, 4, 11, 13], [10, 6, 5, 8, 7, 9, 3, 1, 0, 2, 4, 11], [11, 4, 2, 0, 1, 3, 9, 7, 8, 5, 6, 10, 15], [15, 10, 6, 5, 8, 7, 9, 3, 1, 0, 2, 4, 11, 16], [16, 11, 4, 2, 0, 1, 3, 9, 7, 8, 5, 6, 10, 15, 17], [17, 15, 16, 18, 13, 11, 4, 2, 0, 1, 3, 9, 7, 8, 5, 6, 10, 12, 14], [14, 12, 13, 18, 16, 15, 17, 19, 10, 6, 5, 8, 7, 9, 3, 1, 0, 2, 4, 11], [11, 4, 2, 0, 1, 3, 9, 7, 8, 5, 6, 10, 19, 17, 15, 16, 18, 13, 12, 14, 20], [20, 14, 12, 13, 18, 16, 15, 17, 19, 10, 6, 5, 8, 7, 9, 3, 1, 0, 2, 4, 11, 21], [21, 11, 4, 2, 0, 1, 3, 9, 7, 8, 5, 6, 10, 19, 17, 15, 16, 18, 13, 12, 14, 20, 22], [22, 20, 14, 12, 13, 18, 16, 15, 17, 19, 10, 6, 5, 8, 7, 9, 3, 1, 0, 2, 4, 11, 21, 23], [23, 22, 24, 20, 14, 12, 13, 18, 16, 15, 17, 19, 10, 6, 5, 8, 7, 9, 3, 1, 0, 2, 4, 11, 21], [21, 11, 4, 2, 0, 1, 3, 9, 7, 8, 5, 6, 10, 19, 17, 15, 16, 18, 13, 12, 14, 20, 24, 22, 23, 25], [25, 23, 22, 24, 20, 14, 12, 13, 18, 16, 15, 17, 19, 10, 6, 5, 8, 7, 9, 3, 1, 0, 2, 4, 11, 21, 26], [26, 21, 11, 4, 2, 0, 1, 3, 9, 7, 8, 5, 6, 10, 19, 17, 15, 16, 18, 13, 12, 14, 20, 24, 22, 23, 25, 27], [27, 25, 23, 22, 24, 20, 14, 12, 13, 18, 16, 15, 17, 19, 10, 6, 5, 8, 7, 9, 3, 1, 0, 2, 4, 11, 21, 26, 28], [28, 26, 21, 11, 4, 2, 0, 1, 3, 9, 7, 8, 5, 6, 10, 19, 17, 15, 16, 18, 13, 12, 14, 20, 24, 22, 23, 25, 27, 29], [29, 27, 28, 30, 25, 23, 22, 24, 20, 14, 12, 13, 18, 16, 15, 17, 19, 10, 6, 5, 8, 7, 9, 3, 1, 0, 2, 4, 11, 21, 26], [26, 21, 11, 4, 2, 0, 1, 3, 9, 7, 8, 5, 6, 10, 19, 17, 15, 16, 18, 13, 12, 14, 20, 24, 22, 23, 25, 30, 28, 27, 29, 31]]) (by kernel_rfl) (by kernel_rfl) (fD (OF.fieldAddrO (tv (T.op 0 0) rfl) fa32_0) rfl rfl (lD (OL.loadOn (us := (eGrid false a.Grid)) (tv (T.op 0 0) rfl) rfl st29 sz29 (lb rfl) rfl) rfl rfl (VRunD.quiet (bi := [0, 1]) rfl VWant.always rfl rfl rfl bn (cS (vc (tv (T.agg (eGrid false a.Grid)) rfl) vn) (LendL.cons (lg okeGrid) ln) (W_impl_FormOf (n + 0) a.Grid (by omega)) rfl rfl) (fD (xeq (tv (tI (formG a.Grid)) rfl) (VEv.int .i64 0)) rfl rfl (mD (tB (decide (formG a.Grid = 0))) rfl rfl ?_))))))))))
  refine gw (formG a.Grid = 0) (fun fhg7_1 => ?_) fun fhg7_1 => ?_
  · refine VRunD.free rfl (VWant.on rfl rfl (dy fhg7_1)) rfl (OF.fieldAddrO (tv (T.op 0 0) rfl) fa32_0) ?_
    refine VRunD.look rfl (VWant.on rfl rfl (dy fhg7_1)) rfl (OL.loadOn (us := (eGrid false a.Grid)) (tv (T.op 0 0) rfl) rfl st29 sz29 (lb rfl) rfl) (VRunD.free rfl (VWant.on rfl rfl (dy fhg7_1)) rfl (OF.fieldAddrO (tv (T.op 0 0) rfl) fa32_1) (VRunD.look rfl (VWant.on rfl rfl (dy fhg7_1)) rfl (OL.loadO1 (t := (tS a.Fill)) (tv (T.op 0 3) rfl) rfl rfl st9) (VRunD.quiet (bi := [7, 8, 5, 3, 1, 0, 2, 4, 6]) rfl (VWant.on rfl rfl (dy fhg7_1)) rfl rfl rfl bn (cS (vc (tv (T.agg (eGrid false a.Grid)) rfl) (vc (tv (tS a.Fill) rfl) vn)) (LendL.cons (lg okeGrid) (lp rfl ln)) (W_impl_IsFill (n + 38) a.Grid a.Fill (by omega) (by omega)) rfl rfl) (fD (OF.pickT (VEv.tmpB rfl (dy fhg7_1)) (tv (tB (decide (isFill a.Grid a.Fill))) rfl)) rfl rfl (mD (tB (decide (isFill a.Grid a.Fill))) rfl rfl ?_)))))
    refine gw (isFill a.Grid a.Fill) (fun fhg14_2 => ?_) fun fhg14_2 => ?_
    · refine VRunD.free rfl (VWant.on rfl rfl (dy fhg14_2)) rfl (OF.fieldAddrO (tv (T.op 0 0) rfl) fa32_2) ?_
      refine VRunD.look rfl (VWant.on rfl rfl (dy fhg14_2)) rfl (OL.loadO1 (t := (rd 2 eClue a.Clues)) (tv (T.op 0 4) rfl) rfl rfl st30) (VRunD.look rfl (VWant.on rfl rfl (dy fhg14_2)) rfl (B.lenR (m := a.Clues.length) (tv (rd 2 eClue a.Clues) rfl) U30 (List.length_map ..)) (VRunD.free rfl (VWant.on rfl rfl (dy fhg14_2)) rfl (OF.fieldAddrO (tv (T.op 0 0) rfl) fa32_0) (VRunD.look rfl (VWant.on rfl rfl (dy fhg14_2)) rfl (OL.loadOn (us := (eGrid false a.Grid)) (tv (T.op 0 0) rfl) rfl st29 sz29 (lb rfl) rfl) (VRunD.quiet (bi := [15, 10, 6, 5, 8, 7, 9, 3, 1, 0, 2, 4, 11, 16]) rfl (VWant.on rfl rfl (dy fhg14_2)) rfl rfl rfl bn (OC.callF (us := [(T.agg (eGrid false a.Grid))]) (r := (T.sl true 4 ((slotsG a.Grid).map (eSlot true)))) (r' := (T.os 4 1 0 (((slotsG a.Grid).map (eSlot true)).length))) (objs := [(Obj.rows 4 ((slotsG a.Grid).map (eSlot true)))]) rfl (vc (tv (T.agg (eGrid false a.Grid)) rfl) vn) (LendL.cons (lg okeGrid) ln) (W_impl_SlotsOf (n + 38) a.Grid (by omega)) rfl) (VRunD.look rfl (VWant.on rfl rfl (dy fhg14_2)) rfl (B.lenO (m := (slotsG a.Grid).length) (tv (T.os 4 1 0 (((slotsG a.Grid).map (eSlot true)).length)) rfl) U62 (List.length_map ..)) (VRunD.free rfl (VWant.on rfl rfl (dy fhg14_2)) rfl (xeq' (tv (tN a.Clues.length) rfl) (tv (tN ((slotsG a.Grid).length)) rfl)) (fD (OF.pickT (VEv.tmpB rfl (dy fhg14_2)) (tv (tB (decide (a.Clues.length = (slotsG a.Grid).length))) rfl)) rfl rfl (mD (tB (decide (a.Clues.length = (slotsG a.Grid).length))) rfl rfl ?_))))))))
      refine gw (a.Clues.length = (slotsG a.Grid).length) (fun fhg24_3 => ?_) fun fhg24_3 => ?_
      · refine VRunD.free rfl (VWant.on rfl rfl (dy fhg24_3)) rfl (OF.fieldAddrO (tv (T.op 0 0) rfl) fa32_3) ?_
        refine VRunD.look rfl (VWant.on rfl rfl (dy fhg24_3)) rfl (OL.loadO1 (t := (tI a.Version)) (tv (T.op 0 5) rfl) rfl rfl st3) (VRunD.quiet (bi := [22, 20, 14, 12, 13, 18, 16, 15, 17, 19, 10, 6, 5, 8, 7, 9, 3, 1, 0, 2, 4, 11, 21, 23]) rfl (VWant.on rfl rfl (dy fhg24_3)) rfl rfl rfl bn (cS (vc (tv (tI a.Version) rfl) (vc (VEv.int .i64 1) (vc (VEv.int .i64 9999) vn))) (lps rfl) (W_impl_InRange (n + 40) a.Version 1 9999 ) rfl rfl) (fD (OF.pickT (VEv.tmpB rfl (dy fhg24_3)) (tv (tB (decide (1 ≤ a.Version ∧ a.Version ≤ 9999))) rfl)) rfl rfl (mD (tB (decide (1 ≤ a.Version ∧ a.Version ≤ 9999))) rfl rfl ?_)))
        refine gw (1 ≤ a.Version ∧ a.Version ≤ 9999) (fun fhg29_4 => ?_) fun fhg29_4 => ?_
        · refine VRunD.free rfl (VWant.on rfl rfl (dy fhg29_4)) rfl (OF.fieldAddrO (tv (T.op 0 0) rfl) fa32_2) ?_
          refine VRunD.look rfl (VWant.on rfl rfl (dy fhg29_4)) rfl (OL.loadO1 (t := (rd 2 eClue a.Clues)) (tv (T.op 0 4) rfl) rfl rfl st30) (VRunD.quiet (bi := [27, 25, 23, 22, 24, 20, 14, 12, 13, 18, 16, 15, 17, 19, 10, 6, 5, 8, 7, 9, 3, 1, 0, 2, 4, 11, 21, 26, 28]) rfl (VWant.on rfl rfl (dy fhg29_4)) rfl rfl rfl bn (cS (us := [(rd 2 eClue a.Clues), (T.fn 42 [])]) (vc (tv (rd 2 eClue a.Clues) rfl) (vc (VEv.func 42) vn)) (lp rfl (LendL.cons (Lend.fn ln) ln)) (W_slices_ContainsFunc_impl_Clue_impl_Clue_impl_IsDraft_1 (n + 34) a.Clues (by omega)) rfl rfl) (VRunD.free rfl (VWant.on rfl rfl (dy fhg29_4)) rfl (xnot (tv (tB (decide (∃ c ∈ a.Clues, badC c))) rfl)) (fD (OF.pickT (VEv.tmpB rfl (dy fhg29_4)) (tv (tB (!(decide (∃ c ∈ a.Clues, badC c)))) rfl)) rfl rfl (fD (OF.assign (tv (tB (!(decide (∃ c ∈ a.Clues, badC c)))) rfl)) rfl rfl (VRunD.nil (tn (rt (vb (b' := (!(decide (∃ c ∈ a.Clues, badC c)))) rfl ?_))))))))
          (rw [dN]; refine decN ⟨fun h => ⟨?_, ?_, ?_, ?_, fun c hc hb => h ⟨c, hc, hb⟩⟩, fun h => ?_⟩ <;> first | assumption | (rintro ⟨c, hc, hb⟩; exact h.2.2.2.2 c hc hb))
        refine oD rfl rfl (dz fhg29_4) rfl (oD rfl rfl (dz fhg29_4) rfl (oD rfl rfl (dz fhg29_4) rfl (oD rfl rfl (dz fhg29_4) rfl (fD (OF.pickF (VEv.tmpB rfl (dz fhg29_4)) (VEv.bool false)) rfl rfl (fD (OF.assign (tv (tB false) rfl)) rfl rfl (VRunD.nil (tn (rt (vb (b' := false) rfl ?_)))))))))
        (symm; rw [decide_eq_false_iff_not]; rintro ⟨h1, h2, h3, h4, h5⟩; contradiction)
      refine oD rfl rfl (dz fhg24_3) rfl (oD rfl rfl (dz fhg24_3) rfl (oD rfl rfl (dz fhg24_3) rfl (fD (OF.pickF (VEv.tmpB rfl (dz fhg24_3)) (VEv.bool false)) rfl rfl (mD (tB false) rfl rfl (VRunD.off rfl (VWant.not (b := false) rfl rfl rfl) (VRunD.off rfl (VWant.not (b := false) rfl rfl rfl) (VRunD.off rfl (VWant.not (b := false) rfl rfl rfl) (VRunD.off rfl (VWant.not (b := false) rfl rfl rfl) (fD (OF.pickF (tv (tB false) rfl) (VEv.bool false)) rfl rfl (fD (OF.assign (tv (tB false) rfl)) rfl rfl (VRunD.nil ?_)))))))))))
      refine tn (rt (vb (b' := false) rfl ?_))
      (symm; rw [decide_eq_false_iff_not]; rintro ⟨h1, h2, h3, h4, h5⟩; contradiction)
    refine oD rfl rfl (dz fhg14_2) rfl (oD rfl rfl (dz fhg14_2) rfl (oD rfl rfl (dz fhg14_2) rfl (oD rfl rfl (dz fhg14_2) rfl (oD rfl rfl (dz fhg14_2) rfl (oD rfl rfl (dz fhg14_2) rfl (oD rfl rfl (dz fhg14_2) rfl (oD rfl rfl (dz fhg14_2) rfl (fD (OF.pickF (VEv.tmpB rfl (dz fhg14_2)) (VEv.bool false)) rfl rfl (mD (tB false) rfl rfl (VRunD.off rfl (VWant.not (b := false) rfl rfl rfl) (VRunD.off rfl (VWant.not (b := false) rfl rfl rfl) ?_)))))))))))
    refine VRunD.off rfl (VWant.not (b := false) rfl rfl rfl) (fD (OF.pickF (tv (tB false) rfl) (VEv.bool false)) rfl rfl (mD (tB false) rfl rfl (VRunD.off rfl (VWant.not (b := false) rfl rfl rfl) (VRunD.off rfl (VWant.not (b := false) rfl rfl rfl) (VRunD.off rfl (VWant.not (b := false) rfl rfl rfl) (VRunD.off rfl (VWant.not (b := false) rfl rfl rfl) (fD (OF.pickF (tv (tB false) rfl) (VEv.bool false)) rfl rfl (fD (OF.assign (tv (tB false) rfl)) rfl rfl (VRunD.nil (tn (rt ?_)))))))))))
    refine vb (b' := false) rfl ?_
    (symm; rw [decide_eq_false_iff_not]; rintro ⟨h1, h2, h3, h4, h5⟩; contradiction)
  refine oD rfl rfl (dz fhg7_1) rfl (oD rfl rfl (dz fhg7_1) rfl (oD rfl rfl (dz fhg7_1) rfl (oD rfl rfl (dz fhg7_1) rfl (oD rfl rfl (dz fhg7_1) rfl (fD (OF.pickF (VEv.tmpB rfl (dz fhg7_1)) (VEv.bool false)) rfl rfl (mD (tB false) rfl rfl (VRunD.off rfl (VWant.not (b := false) rfl rfl rfl) (VRunD.off rfl (VWant.not (b := false) rfl rfl rfl) (VRunD.off rfl (VWant.not (b := false) rfl rfl rfl) (VRunD.off rfl (VWant.not (b := false) rfl rfl rfl) (VRunD.off rfl (VWant.not (b := false) rfl rfl rfl) ?_)))))))))))
  refine VRunD.off rfl (VWant.not (b := false) rfl rfl rfl) (VRunD.off rfl (VWant.not (b := false) rfl rfl rfl) (VRunD.off rfl (VWant.not (b := false) rfl rfl rfl) (fD (OF.pickF (tv (tB false) rfl) (VEv.bool false)) rfl rfl (mD (tB false) rfl rfl (VRunD.off rfl (VWant.not (b := false) rfl rfl rfl) (VRunD.off rfl (VWant.not (b := false) rfl rfl rfl) (VRunD.off rfl (VWant.not (b := false) rfl rfl rfl) (fD (OF.pickF (tv (tB false) rfl) (VEv.bool false)) rfl rfl (mD (tB false) rfl rfl (VRunD.off rfl (VWant.not (b := false) rfl rfl rfl) (VRunD.off rfl (VWant.not (b := false) rfl rfl rfl) ?_)))))))))))
  refine VRunD.off rfl (VWant.not (b := false) rfl rfl rfl) (VRunD.off rfl (VWant.not (b := false) rfl rfl rfl) (fD (OF.pickF (tv (tB false) rfl) (VEv.bool false)) rfl rfl (fD (OF.assign (tv (tB false) rfl)) rfl rfl (VRunD.nil (tn (rt (vb (b' := false) rfl ?_)))))))
  (symm; rw [decide_eq_false_iff_not]; rintro ⟨h1, h2, h3, h4, h5⟩; contradiction)
end Go.Proofs.Ytjclbdgjkecbeaa.AE
namespace Go.Proofs.Ytjclbdgjkecbeaa.AE
open Go Go.RowKit
set_option linter.unusedVariables false
set_option linter.unusedSimpArgs false
set_option maxRecDepth 20000
set_option maxHeartbeats 2000000
noncomputable section
def mDig : Nat → Int → ByteArray → ByteArray
  | 0, _, acc => acc
  | f + 1, k, acc => if 0 < k then mDig f (k.tdiv 10) (mkStr [IntKind.u8.wrap (48 + k.tmod 10)] ++ acc) else acc
def mtxt (k : Int) : ByteArray := if k ≤ 0 then ⟨#[109, 48]⟩ else ⟨#[109]⟩ ++ mDig k.toNat k ⟨#[]⟩
theorem mDig_next {f : Nat} {k : Int} {acc : ByteArray} (hk : 0 < k) (hf : k.toNat ≤ f) : 0 ≤ k.tdiv 10 ∧ (k.tdiv 10).toNat ≤ f - 1 ∧ mDig f k acc = mDig (f - 1) (k.tdiv 10) (mkStr [IntKind.u8.wrap (48 + k.tmod 10)] ++ acc) := by
  have h1 : k.tdiv 10 = k / 10 := Int.tdiv_eq_ediv_of_nonneg (by omega)
  cases f with
  | zero => omega
  | succ f =>
    refine ⟨by omega, by omega, ?_⟩
    simp only [mDig, if_pos hk]
    rfl
theorem mDig_end {f : Nat} {k : Int} {acc : ByteArray} (hk : ¬ 0 < k) : mDig f k acc = acc := by
  cases f with
  | zero => rfl
  | succ f => simp only [mDig, if_neg hk]
theorem mkStr1 (n : Int) : (mkStr [n]).size = 1 := rfl
theorem tmod10 {k : Int} (h : 0 < k) : 0 ≤ k.tmod 10 ∧ k.tmod 10 < 10 ∧ 0 ≤ k.tdiv 10 ∧ k.tdiv 10 ≤ k := by
  rw [Int.tmod_eq_emod_of_nonneg (by omega), Int.tdiv_eq_ediv_of_nonneg (by omega)]
  omega
end
theorem W_laws_markText (n : Nat) (q : Int) (hq : q ≤ lim) : Pure (acall Try.prog (n + 1)) 90 [(tI q)] (tS (mtxt q)) := by
  refine Pure.intro (rs := [ResultVar.tmp 2]) Try.func90 rfl rfl rfl (E0 := [(0, (tI q))]) rfl ?_
  obtain ⟨hlim, hmx, hmax⟩ := lims
  refine sr (fO (OF.assign (VEv.str (⟨#[]⟩ : ByteArray))) (nt (sq (sr (mO (tI q) rfl (fO (xle (tv (tI q) rfl) (VEv.int .i64 0)) (nt ?_)))))))
  refine cd (q ≤ 0) rfl (fun fhc0 => ?_) fun fhc0 => ?_
  · refine sr ?_
    refine fO (OF.assign (VEv.str (⟨#[109, 48]⟩ : ByteArray))) (nt (rt (tr ?_)))
    refine vfin.eq (r' := (tS (⟨#[109, 48]⟩ : ByteArray))) ?_ (vfin.r (VRes.tmp (t := (tS (⟨#[109, 48]⟩ : ByteArray))) rfl VRes.nil) (Give.str _))
    show (tS (⟨#[109, 48]⟩ : ByteArray)) = (tS (mtxt q))
    refine congrArg T.str ?_
    exact (if_pos fhc0).symm
  refine sk (tn (sr (fO (OF.assign (VEv.str (⟨#[]⟩ : ByteArray))) (nt (sq (VRun.block ?_))))))
  refine VRun.loop (A := Int × Nat × ByteArray) (fun s_ => [(0, (tI s_.1)), (2, (tS (⟨#[]⟩ : ByteArray))), (3, (tS s_.2.2))]) (fun s_ => mkO []) 0 (fun s_ => 0 ≤ s_.1 ∧ s_.1.toNat ≤ s_.2.1 ∧ s_.2.2.size + s_.2.1 ≤ q.toNat ∧ mDig q.toNat q ⟨#[]⟩ = mDig s_.2.1 s_.1 s_.2.2) (fun s_ => s_.2.1) ((q, q.toNat, ⟨#[]⟩) : Int × Nat × ByteArray) ?_ (Wk.mk (fun k => k) ?_ ?_ ?_) ?_
  · exact ⟨by omega, Nat.le_refl _, by show 0 + q.toNat ≤ q.toNat; omega, rfl⟩
  · exact (b2 (b2 (bc ⟨(congrArg T.str (show (⟨#[]⟩ : ByteArray) = ⟨#[]⟩ from (by rfl))), rfl⟩ bn)))
  · exact bn
  · exact nd rfl
  rintro ⟨k, f, acc⟩ (hI' : 0 ≤ k ∧ k.toNat ≤ f ∧ acc.size + f ≤ q.toNat ∧ mDig q.toNat q ⟨#[]⟩ = mDig f k acc)
  show VRun _ _ _ [(0, (tI k)), (2, (tS (⟨#[]⟩ : ByteArray))), (3, (tS acc))] (mkO []) 0 _
  have hI1 := hI'.1
  have hI2 := hI'.2.1
  have hI3 := hI'.2.2.1
  have hI4 := hI'.2.2.2
  refine sq (sr (mO (tI k) rfl (fO (xgt (tv (tI k) rfl) (VEv.int .i64 0)) (nt ?_))))
  refine cd (0 < k) rfl (fun fhc1 => ?_) fun fhc1 => ?_
  · obtain ⟨m1, m2, m3, m4⟩ := tmod10 fhc1
    refine sk (tn (VRun.block (sr (mO (tI k) rfl (fO (B.rem (n := (k.tmod 10)) (tv (tI k) rfl) (VEv.int .i64 10) (by omega) (by rfl)) (fO (B.add (n := (48 + (k.tmod 10))) (VEv.int .i64 48) (tv (tI (k.tmod 10)) rfl) (by (rw [wrap64 (by omega)]; done))) (fO (OF.convI (tv (tI (48 + (k.tmod 10))) rfl) (k0 := .i64) U3 U5) (kO (OM.buildSlice (l := [(T.int .u8 (IntKind.u8.wrap (48 + (k.tmod 10))))]) (VEvp.cons (tv (T.int .u8 (IntKind.u8.wrap (48 + (k.tmod 10)))) rfl) VEvp.nil) rfl (by decide) (bc (nofun) bn) (bc ((bc (rfl) bn)) bn) (bc (rfl) bn) U104 zo5 (by kernel_rfl) rfl (by rw [sz5]; decide) sz5 (Nat.le_of_ble_eq_true rfl)) (lO (B.convBS (l := [IntKind.u8.wrap (48 + (k.tmod 10))]) (tv (T.os 1 0 0 1) rfl) rfl rfl U104 U5 U9) (mO (tS acc) rfl (fO (B.sadd (tv (tS (mkStr [IntKind.u8.wrap (48 + (k.tmod 10))])) rfl) (tv (tS acc) rfl) (by (simp only [mkStr1]; omega))) ?_)))))))))))
    refine aO (tS ((mkStr [IntKind.u8.wrap (48 + (k.tmod 10))]) ++ acc)) rfl (nt (VRun.region (mO (tI k) rfl (fO (B.quo (n := (k.tdiv 10)) (tv (tI k) rfl) (VEv.int .i64 10) (by omega) (by (rw [wrap64 (by omega)]; done))) (aO (tI (k.tdiv 10)) rfl (VRunO.nil (vinB.n (tn ?_))))))))
    obtain ⟨n1, n2, n3⟩ := mDig_next (acc := acc) fhc1 hI2
    refine ⟨((k.tdiv 10, f - 1, mkStr [IntKind.u8.wrap (48 + k.tmod 10)] ++ acc) : Int × Nat × ByteArray), ?_, ?_, Wk.mk (fun k => k) ?_ ?_ ?_⟩
    · exact ⟨n1, n2, by show (mkStr _ ++ acc).size + (f - 1) ≤ q.toNat; rw [ByteArray.size_append, mkStr1]; omega, hI4.trans n3⟩
    · (simp only []; omega)
    · exact (b2 (b2 (bc ⟨(congrArg T.str (show ((mkStr [IntKind.u8.wrap (48 + (k.tmod 10))]) ++ acc) = (mkStr [IntKind.u8.wrap (48 + k.tmod 10)] ++ acc) from (by rfl))), rfl⟩ bn)))
    · exact bn
    · exact nd rfl
  refine VRun.exit (vthn.e (vthn.e (vinB.e (tn (sr (mO (tS acc) rfl (fO (B.sadd (VEv.str (⟨#[109]⟩ : ByteArray)) (tv (tS acc) rfl) (by (rw [show (⟨#[109]⟩ : ByteArray).size = 1 from rfl]; omega))) (aO (tS ((⟨#[109]⟩ : ByteArray) ++ acc)) rfl (nt (rt ?_))))))))))
  refine vfin.eq (r' := (tS ((⟨#[109]⟩ : ByteArray) ++ acc))) ?_ (vfin.r (VRes.tmp (t := (tS ((⟨#[109]⟩ : ByteArray) ++ acc))) rfl VRes.nil) (Give.str _))
  show (tS ((⟨#[109]⟩ : ByteArray) ++ acc)) = (tS (mtxt q))
  refine congrArg T.str ?_
  unfold mtxt
  rw [if_neg fhc0, hI4, mDig_end fhc1]
end Go.Proofs.Ytjclbdgjkecbeaa.AE
namespace Go.Proofs.Ytjclbdgjkecbeaa.AE
open Go Go.RowKit
set_option linter.unusedVariables false
set_option linter.unusedSimpArgs false
set_option maxRecDepth 20000
set_option maxHeartbeats 2000000
noncomputable section
def mStep (k : Nat) : D.Step := (D.Step.mk ((k : Nat) : Int) (mtxt ((k + 1 : Nat) : Int)) ((k + 2 : Nat) : Int) ((k + 3 : Nat) : Int))
end
theorem W_laws_markStepS (n : Nat) (a : List D.Step) (k : Nat) (hk : k + 4 * a.length ≤ lim) : Mut (acall Try.prog (n + 2)) 59 4 (a.map (eStep true)) [(tN k)] (some ((k + 4 * a.length : Nat) : Int)) ((mkN mStep 4 k a.length).map (eStep true)) := by
  refine Mut.intro (rt := 4) Try.func59 rfl rfl rfl (by kernel_rfl) (scMap (fun _ => rfl) _) (scMap (fun _ => rfl) _) (E0 := [(1, (tN k))]) rfl ?_
  obtain ⟨hlim, hmx, hmax⟩ := lims
  refine sr (fO (OF.assign (VEv.int .i64 0)) (nt (sq (sr (fO (OF.assign (VEv.int .i64 0)) (nt (VRun.block ?_)))))))
  have he1 : a = mkI mStep 4 k a 0 := by rfl
  refine VRun.loop (A := Nat) (fun s_ => [(0, (T.os 4 0 0 (((mkI mStep 4 k a s_).map (eStep true)).length))), (1, (tN (k + 4 * s_))), (4, (tN 0)), (5, (tN s_))]) (fun s_ => mkO [(0, (Obj.rows 4 ((mkI mStep 4 k a s_).map (eStep true))))]) 1 (fun s_ => s_ ≤ a.length) (fun s_ => a.length - s_) (0 : Nat) ?_ (Wk.mk (fun k => k) ?_ ?_ ?_) ?_
  · (simp; done)
  · exact (bc ⟨(congrArg (fun l_ => T.os 4 0 0 (List.map (eStep true) l_).length) he1), rfl⟩ (bc ⟨(congrArg (T.int .i64) (show ((k : Nat) : Int) = ((k + 4 * 0 : Nat) : Int) from (by rfl))), rfl⟩ (b2 (b2 bn))))
  · exact (bc ⟨(congrArg (fun l_ => some (Obj.rows 4 (List.map (eStep true) l_))) he1), (lb rfl), rfl⟩ bn)
  · exact nd rfl
  rintro i (hI' : i ≤ a.length)
  show VRun _ _ _ [(0, (T.os 4 0 0 (((mkI mStep 4 k a i).map (eStep true)).length))), (1, (tN (k + 4 * i))), (4, (tN 0)), (5, (tN i))] (mkO [(0, (Obj.rows 4 ((mkI mStep 4 k a i).map (eStep true))))]) 1 _
  have hml := mkI_len (f := mStep) (w := 4) (k := k) hI'
  refine sq (sr (mO (tN i) rfl (mO (T.os 4 0 0 (((mkI mStep 4 k a i).map (eStep true)).length)) rfl (lO (B.lenO (m := (mkI mStep 4 k a i).length) (tv (T.os 4 0 0 (((mkI mStep 4 k a i).map (eStep true)).length)) rfl) U48 (List.length_map ..)) (fO (xls' (tv (tN i) rfl) (tv (tN ((mkI mStep 4 k a i).length)) rfl)) (nt ?_))))))
  refine cd (i < (mkI mStep 4 k a i).length) rfl (fun fhc0 => ?_) fun fhc0 => ?_
  · refine sk ?_
    refine tn (sq (VRun.block (sr (mO (T.os 4 0 0 (((mkI mStep 4 k a i).map (eStep true)).length)) rfl (mO (tN i) rfl (mO (tN (k + 4 * i)) rfl ?_))))))
    obtain ⟨x1, hx1⟩ : ∃ x, (mkI mStep 4 k a i)[i]? = some x := ⟨_, List.getElem?_eq_getElem (by omega)⟩
    refine fO (B.indexAddrO (i := i) (tv (T.os 4 0 0 (((mkI mStep 4 k a i).map (eStep true)).length)) rfl) (tv (tN i) rfl) rfl (by (simp only [List.length_map]; omega)) U48 sz95 if95) (fO (OF.fieldAddrP (tv (T.orp 4 0 i 0) rfl) fa95_0) (cO (B.storeP (us := [(tN (k + 4 * i))]) (rows' := (((mkI mStep 4 k a i).set i (D.Step.mk ((k + 4 * i : Nat) : Int) x1.Word x1.A x1.B)).map (eStep true))) (row := (eStep true x1)) (tv (T.orp 4 0 i 0) rfl) (tv (tN (k + 4 * i)) rfl) nofun rfl (map_at _ hx1) rfl (lb rfl) if3 sz3 (bc rfl bn) (by intro r hr t ht; obtain ⟨x, _, rfl⟩ := List.mem_map.1 hr; rw [flStep] at ht; exact isPl_flat (okeStep.pl _ t ht)) (set_mapE rfl)) (nt (sr (mO (tN (k + 4 * i)) rfl (fO (xinc (tv (tN (k + 4 * i)) rfl) (VEv.int .i64 1) (by omega)) (aO (tN (k + 4 * i + 1)) rfl (nt (sr (mO (T.os 4 0 0 (((mkI mStep 4 k a i).map (eStep true)).length)) rfl (mO (tN i) rfl ?_)))))))))))
    refine mO (tN (k + 4 * i + 1)) rfl (cO (cS (vc (tv (tN (k + 4 * i + 1)) rfl) vn) (lps rfl) (W_laws_markText (n + 0) (((k + 4 * i + 1) : Nat) : Int) (by omega)) rfl rfl) (fO (B.indexAddrO (i := i) (tv (T.os 4 0 0 (((mkI mStep 4 k a i).map (eStep true)).length)) rfl) (tv (tN i) rfl) rfl (by (simp only [List.length_map]; omega)) U48 sz95 if95) (fO (OF.fieldAddrP (tv (T.orp 4 0 i 0) rfl) fa95_1) (cO (B.storeP (us := [(tS (mtxt (((k + 4 * i + 1) : Nat) : Int)))]) (rows' := ((((mkI mStep 4 k a i).set i (D.Step.mk ((k + 4 * i : Nat) : Int) x1.Word x1.A x1.B)).set i (D.Step.mk ((D.Step.mk ((k + 4 * i : Nat) : Int) x1.Word x1.A x1.B).Kind) (mtxt (((k + 4 * i + 1) : Nat) : Int)) ((D.Step.mk ((k + 4 * i : Nat) : Int) x1.Word x1.A x1.B).A) ((D.Step.mk ((k + 4 * i : Nat) : Int) x1.Word x1.A x1.B).B))).map (eStep true))) (row := (eStep true (D.Step.mk ((k + 4 * i : Nat) : Int) x1.Word x1.A x1.B))) (tv (T.orp 4 0 i 1) rfl) (tv (tS (mtxt (((k + 4 * i + 1) : Nat) : Int))) rfl) nofun rfl (map_at _ (set_at (by omega))) rfl (lb rfl) if9 sz9 (bc rfl bn) (by intro r hr t ht; obtain ⟨x, _, rfl⟩ := List.mem_map.1 hr; rw [flStep] at ht; exact isPl_flat (okeStep.pl _ t ht)) (set_mapE rfl)) (nt (sr (mO (tN (k + 4 * i + 1)) rfl (fO (xinc (tv (tN (k + 4 * i + 1)) rfl) (VEv.int .i64 1) (by omega)) (aO (tN ((k + 4 * i + 1) + 1)) rfl (nt (sr ?_)))))))))))
    refine mO (T.os 4 0 0 (((mkI mStep 4 k a i).map (eStep true)).length)) rfl (mO (tN i) rfl (mO (tN ((k + 4 * i + 1) + 1)) rfl (fO (B.indexAddrO (i := i) (tv (T.os 4 0 0 (((mkI mStep 4 k a i).map (eStep true)).length)) rfl) (tv (tN i) rfl) rfl (by (simp only [List.length_map]; omega)) U48 sz95 if95) (fO (OF.fieldAddrP (tv (T.orp 4 0 i 0) rfl) fa95_2) (cO (B.storeP (us := [(tN ((k + 4 * i + 1) + 1))]) (rows' := (((((mkI mStep 4 k a i).set i (D.Step.mk ((k + 4 * i : Nat) : Int) x1.Word x1.A x1.B)).set i (D.Step.mk ((D.Step.mk ((k + 4 * i : Nat) : Int) x1.Word x1.A x1.B).Kind) (mtxt (((k + 4 * i + 1) : Nat) : Int)) ((D.Step.mk ((k + 4 * i : Nat) : Int) x1.Word x1.A x1.B).A) ((D.Step.mk ((k + 4 * i : Nat) : Int) x1.Word x1.A x1.B).B))).set i (D.Step.mk ((D.Step.mk ((D.Step.mk ((k + 4 * i : Nat) : Int) x1.Word x1.A x1.B).Kind) (mtxt (((k + 4 * i + 1) : Nat) : Int)) ((D.Step.mk ((k + 4 * i : Nat) : Int) x1.Word x1.A x1.B).A) ((D.Step.mk ((k + 4 * i : Nat) : Int) x1.Word x1.A x1.B).B)).Kind) ((D.Step.mk ((D.Step.mk ((k + 4 * i : Nat) : Int) x1.Word x1.A x1.B).Kind) (mtxt (((k + 4 * i + 1) : Nat) : Int)) ((D.Step.mk ((k + 4 * i : Nat) : Int) x1.Word x1.A x1.B).A) ((D.Step.mk ((k + 4 * i : Nat) : Int) x1.Word x1.A x1.B).B)).Word) ((((k + 4 * i + 1) + 1) : Nat) : Int) ((D.Step.mk ((D.Step.mk ((k + 4 * i : Nat) : Int) x1.Word x1.A x1.B).Kind) (mtxt (((k + 4 * i + 1) : Nat) : Int)) ((D.Step.mk ((k + 4 * i : Nat) : Int) x1.Word x1.A x1.B).A) ((D.Step.mk ((k + 4 * i : Nat) : Int) x1.Word x1.A x1.B).B)).B))).map (eStep true))) (row := (eStep true (D.Step.mk ((D.Step.mk ((k + 4 * i : Nat) : Int) x1.Word x1.A x1.B).Kind) (mtxt (((k + 4 * i + 1) : Nat) : Int)) ((D.Step.mk ((k + 4 * i : Nat) : Int) x1.Word x1.A x1.B).A) ((D.Step.mk ((k + 4 * i : Nat) : Int) x1.Word x1.A x1.B).B)))) (tv (T.orp 4 0 i 2) rfl) (tv (tN ((k + 4 * i + 1) + 1)) rfl) nofun rfl (map_at _ (set_at (by (simp only [List.length_set]; omega)))) rfl (lb rfl) if3 sz3 (bc rfl bn) (by intro r hr t ht; obtain ⟨x, _, rfl⟩ := List.mem_map.1 hr; rw [flStep] at ht; exact isPl_flat (okeStep.pl _ t ht)) (set_mapE rfl)) (nt (sr (mO (tN ((k + 4 * i + 1) + 1)) rfl (fO (xinc (tv (tN ((k + 4 * i + 1) + 1)) rfl) (VEv.int .i64 1) (by omega)) (aO (tN (((k + 4 * i + 1) + 1) + 1)) rfl (nt ?_)))))))))))
    refine sr (mO (T.os 4 0 0 (((mkI mStep 4 k a i).map (eStep true)).length)) rfl (mO (tN i) rfl (mO (tN (((k + 4 * i + 1) + 1) + 1)) rfl (fO (B.indexAddrO (i := i) (tv (T.os 4 0 0 (((mkI mStep 4 k a i).map (eStep true)).length)) rfl) (tv (tN i) rfl) rfl (by (simp only [List.length_map]; omega)) U48 sz95 if95) (fO (OF.fieldAddrP (tv (T.orp 4 0 i 0) rfl) fa95_3) (cO (B.storeP (us := [(tN (((k + 4 * i + 1) + 1) + 1))]) (rows' := ((((((mkI mStep 4 k a i).set i (D.Step.mk ((k + 4 * i : Nat) : Int) x1.Word x1.A x1.B)).set i (D.Step.mk ((D.Step.mk ((k + 4 * i : Nat) : Int) x1.Word x1.A x1.B).Kind) (mtxt (((k + 4 * i + 1) : Nat) : Int)) ((D.Step.mk ((k + 4 * i : Nat) : Int) x1.Word x1.A x1.B).A) ((D.Step.mk ((k + 4 * i : Nat) : Int) x1.Word x1.A x1.B).B))).set i (D.Step.mk ((D.Step.mk ((D.Step.mk ((k + 4 * i : Nat) : Int) x1.Word x1.A x1.B).Kind) (mtxt (((k + 4 * i + 1) : Nat) : Int)) ((D.Step.mk ((k + 4 * i : Nat) : Int) x1.Word x1.A x1.B).A) ((D.Step.mk ((k + 4 * i : Nat) : Int) x1.Word x1.A x1.B).B)).Kind) ((D.Step.mk ((D.Step.mk ((k + 4 * i : Nat) : Int) x1.Word x1.A x1.B).Kind) (mtxt (((k + 4 * i + 1) : Nat) : Int)) ((D.Step.mk ((k + 4 * i : Nat) : Int) x1.Word x1.A x1.B).A) ((D.Step.mk ((k + 4 * i : Nat) : Int) x1.Word x1.A x1.B).B)).Word) ((((k + 4 * i + 1) + 1) : Nat) : Int) ((D.Step.mk ((D.Step.mk ((k + 4 * i : Nat) : Int) x1.Word x1.A x1.B).Kind) (mtxt (((k + 4 * i + 1) : Nat) : Int)) ((D.Step.mk ((k + 4 * i : Nat) : Int) x1.Word x1.A x1.B).A) ((D.Step.mk ((k + 4 * i : Nat) : Int) x1.Word x1.A x1.B).B)).B))).set i (D.Step.mk ((D.Step.mk ((D.Step.mk ((D.Step.mk ((k + 4 * i : Nat) : Int) x1.Word x1.A x1.B).Kind) (mtxt (((k + 4 * i + 1) : Nat) : Int)) ((D.Step.mk ((k + 4 * i : Nat) : Int) x1.Word x1.A x1.B).A) ((D.Step.mk ((k + 4 * i : Nat) : Int) x1.Word x1.A x1.B).B)).Kind) ((D.Step.mk ((D.Step.mk ((k + 4 * i : Nat) : Int) x1.Word x1.A x1.B).Kind) (mtxt (((k + 4 * i + 1) : Nat) : Int)) ((D.Step.mk ((k + 4 * i : Nat) : Int) x1.Word x1.A x1.B).A) ((D.Step.mk ((k + 4 * i : Nat) : Int) x1.Word x1.A x1.B).B)).Word) ((((k + 4 * i + 1) + 1) : Nat) : Int) ((D.Step.mk ((D.Step.mk ((k + 4 * i : Nat) : Int) x1.Word x1.A x1.B).Kind) (mtxt (((k + 4 * i + 1) : Nat) : Int)) ((D.Step.mk ((k + 4 * i : Nat) : Int) x1.Word x1.A x1.B).A) ((D.Step.mk ((k + 4 * i : Nat) : Int) x1.Word x1.A x1.B).B)).B)).Kind) ((D.Step.mk ((D.Step.mk ((D.Step.mk ((k + 4 * i : Nat) : Int) x1.Word x1.A x1.B).Kind) (mtxt (((k + 4 * i + 1) : Nat) : Int)) ((D.Step.mk ((k + 4 * i : Nat) : Int) x1.Word x1.A x1.B).A) ((D.Step.mk ((k + 4 * i : Nat) : Int) x1.Word x1.A x1.B).B)).Kind) ((D.Step.mk ((D.Step.mk ((k + 4 * i : Nat) : Int) x1.Word x1.A x1.B).Kind) (mtxt (((k + 4 * i + 1) : Nat) : Int)) ((D.Step.mk ((k + 4 * i : Nat) : Int) x1.Word x1.A x1.B).A) ((D.Step.mk ((k + 4 * i : Nat) : Int) x1.Word x1.A x1.B).B)).Word) ((((k + 4 * i + 1) + 1) : Nat) : Int) ((D.Step.mk ((D.Step.mk ((k + 4 * i : Nat) : Int) x1.Word x1.A x1.B).Kind) (mtxt (((k + 4 * i + 1) : Nat) : Int)) ((D.Step.mk ((k + 4 * i : Nat) : Int) x1.Word x1.A x1.B).A) ((D.Step.mk ((k + 4 * i : Nat) : Int) x1.Word x1.A x1.B).B)).B)).Word) ((D.Step.mk ((D.Step.mk ((D.Step.mk ((k + 4 * i : Nat) : Int) x1.Word x1.A x1.B).Kind) (mtxt (((k + 4 * i + 1) : Nat) : Int)) ((D.Step.mk ((k + 4 * i : Nat) : Int) x1.Word x1.A x1.B).A) ((D.Step.mk ((k + 4 * i : Nat) : Int) x1.Word x1.A x1.B).B)).Kind) ((D.Step.mk ((D.Step.mk ((k + 4 * i : Nat) : Int) x1.Word x1.A x1.B).Kind) (mtxt (((k + 4 * i + 1) : Nat) : Int)) ((D.Step.mk ((k + 4 * i : Nat) : Int) x1.Word x1.A x1.B).A) ((D.Step.mk ((k + 4 * i : Nat) : Int) x1.Word x1.A x1.B).B)).Word) ((((k + 4 * i + 1) + 1) : Nat) : Int) ((D.Step.mk ((D.Step.mk ((k + 4 * i : Nat) : Int) x1.Word x1.A x1.B).Kind) (mtxt (((k + 4 * i + 1) : Nat) : Int)) ((D.Step.mk ((k + 4 * i : Nat) : Int) x1.Word x1.A x1.B).A) ((D.Step.mk ((k + 4 * i : Nat) : Int) x1.Word x1.A x1.B).B)).B)).A) (((((k + 4 * i + 1) + 1) + 1) : Nat) : Int))).map (eStep true))) (row := (eStep true (D.Step.mk ((D.Step.mk ((D.Step.mk ((k + 4 * i : Nat) : Int) x1.Word x1.A x1.B).Kind) (mtxt (((k + 4 * i + 1) : Nat) : Int)) ((D.Step.mk ((k + 4 * i : Nat) : Int) x1.Word x1.A x1.B).A) ((D.Step.mk ((k + 4 * i : Nat) : Int) x1.Word x1.A x1.B).B)).Kind) ((D.Step.mk ((D.Step.mk ((k + 4 * i : Nat) : Int) x1.Word x1.A x1.B).Kind) (mtxt (((k + 4 * i + 1) : Nat) : Int)) ((D.Step.mk ((k + 4 * i : Nat) : Int) x1.Word x1.A x1.B).A) ((D.Step.mk ((k + 4 * i : Nat) : Int) x1.Word x1.A x1.B).B)).Word) ((((k + 4 * i + 1) + 1) : Nat) : Int) ((D.Step.mk ((D.Step.mk ((k + 4 * i : Nat) : Int) x1.Word x1.A x1.B).Kind) (mtxt (((k + 4 * i + 1) : Nat) : Int)) ((D.Step.mk ((k + 4 * i : Nat) : Int) x1.Word x1.A x1.B).A) ((D.Step.mk ((k + 4 * i : Nat) : Int) x1.Word x1.A x1.B).B)).B)))) (tv (T.orp 4 0 i 3) rfl) (tv (tN (((k + 4 * i + 1) + 1) + 1)) rfl) nofun rfl (map_at _ (set_at (by (simp only [List.length_set]; omega)))) rfl (lb rfl) if3 sz3 (bc rfl bn) (by intro r hr t ht; obtain ⟨x, _, rfl⟩ := List.mem_map.1 hr; rw [flStep] at ht; exact isPl_flat (okeStep.pl _ t ht)) (set_mapE rfl)) ?_))))))
    refine nt (VRun.region (mO (tN (((k + 4 * i + 1) + 1) + 1)) rfl (fO (xinc (tv (tN (((k + 4 * i + 1) + 1) + 1)) rfl) (VEv.int .i64 1) (by omega)) (aO (tN ((((k + 4 * i + 1) + 1) + 1) + 1)) rfl (VRunO.nil (vinB.n (tn (VRun.region (mO (tN i) rfl (fO (xinc (tv (tN i) rfl) (VEv.int .i64 1) (by omega)) (aO (tN (i + 1)) rfl ?_)))))))))))
    refine VRunO.nil (tn ?_)
    have hi1 : i + 1 ≤ a.length := by omega
    have he2 : (((((mkI mStep 4 k a i).set i (D.Step.mk ((k + 4 * i : Nat) : Int) x1.Word x1.A x1.B)).set i (D.Step.mk ((D.Step.mk ((k + 4 * i : Nat) : Int) x1.Word x1.A x1.B).Kind) (mtxt (((k + 4 * i + 1) : Nat) : Int)) ((D.Step.mk ((k + 4 * i : Nat) : Int) x1.Word x1.A x1.B).A) ((D.Step.mk ((k + 4 * i : Nat) : Int) x1.Word x1.A x1.B).B))).set i (D.Step.mk ((D.Step.mk ((D.Step.mk ((k + 4 * i : Nat) : Int) x1.Word x1.A x1.B).Kind) (mtxt (((k + 4 * i + 1) : Nat) : Int)) ((D.Step.mk ((k + 4 * i : Nat) : Int) x1.Word x1.A x1.B).A) ((D.Step.mk ((k + 4 * i : Nat) : Int) x1.Word x1.A x1.B).B)).Kind) ((D.Step.mk ((D.Step.mk ((k + 4 * i : Nat) : Int) x1.Word x1.A x1.B).Kind) (mtxt (((k + 4 * i + 1) : Nat) : Int)) ((D.Step.mk ((k + 4 * i : Nat) : Int) x1.Word x1.A x1.B).A) ((D.Step.mk ((k + 4 * i : Nat) : Int) x1.Word x1.A x1.B).B)).Word) ((((k + 4 * i + 1) + 1) : Nat) : Int) ((D.Step.mk ((D.Step.mk ((k + 4 * i : Nat) : Int) x1.Word x1.A x1.B).Kind) (mtxt (((k + 4 * i + 1) : Nat) : Int)) ((D.Step.mk ((k + 4 * i : Nat) : Int) x1.Word x1.A x1.B).A) ((D.Step.mk ((k + 4 * i : Nat) : Int) x1.Word x1.A x1.B).B)).B))).set i (D.Step.mk ((D.Step.mk ((D.Step.mk ((D.Step.mk ((k + 4 * i : Nat) : Int) x1.Word x1.A x1.B).Kind) (mtxt (((k + 4 * i + 1) : Nat) : Int)) ((D.Step.mk ((k + 4 * i : Nat) : Int) x1.Word x1.A x1.B).A) ((D.Step.mk ((k + 4 * i : Nat) : Int) x1.Word x1.A x1.B).B)).Kind) ((D.Step.mk ((D.Step.mk ((k + 4 * i : Nat) : Int) x1.Word x1.A x1.B).Kind) (mtxt (((k + 4 * i + 1) : Nat) : Int)) ((D.Step.mk ((k + 4 * i : Nat) : Int) x1.Word x1.A x1.B).A) ((D.Step.mk ((k + 4 * i : Nat) : Int) x1.Word x1.A x1.B).B)).Word) ((((k + 4 * i + 1) + 1) : Nat) : Int) ((D.Step.mk ((D.Step.mk ((k + 4 * i : Nat) : Int) x1.Word x1.A x1.B).Kind) (mtxt (((k + 4 * i + 1) : Nat) : Int)) ((D.Step.mk ((k + 4 * i : Nat) : Int) x1.Word x1.A x1.B).A) ((D.Step.mk ((k + 4 * i : Nat) : Int) x1.Word x1.A x1.B).B)).B)).Kind) ((D.Step.mk ((D.Step.mk ((D.Step.mk ((k + 4 * i : Nat) : Int) x1.Word x1.A x1.B).Kind) (mtxt (((k + 4 * i + 1) : Nat) : Int)) ((D.Step.mk ((k + 4 * i : Nat) : Int) x1.Word x1.A x1.B).A) ((D.Step.mk ((k + 4 * i : Nat) : Int) x1.Word x1.A x1.B).B)).Kind) ((D.Step.mk ((D.Step.mk ((k + 4 * i : Nat) : Int) x1.Word x1.A x1.B).Kind) (mtxt (((k + 4 * i + 1) : Nat) : Int)) ((D.Step.mk ((k + 4 * i : Nat) : Int) x1.Word x1.A x1.B).A) ((D.Step.mk ((k + 4 * i : Nat) : Int) x1.Word x1.A x1.B).B)).Word) ((((k + 4 * i + 1) + 1) : Nat) : Int) ((D.Step.mk ((D.Step.mk ((k + 4 * i : Nat) : Int) x1.Word x1.A x1.B).Kind) (mtxt (((k + 4 * i + 1) : Nat) : Int)) ((D.Step.mk ((k + 4 * i : Nat) : Int) x1.Word x1.A x1.B).A) ((D.Step.mk ((k + 4 * i : Nat) : Int) x1.Word x1.A x1.B).B)).B)).Word) ((D.Step.mk ((D.Step.mk ((D.Step.mk ((k + 4 * i : Nat) : Int) x1.Word x1.A x1.B).Kind) (mtxt (((k + 4 * i + 1) : Nat) : Int)) ((D.Step.mk ((k + 4 * i : Nat) : Int) x1.Word x1.A x1.B).A) ((D.Step.mk ((k + 4 * i : Nat) : Int) x1.Word x1.A x1.B).B)).Kind) ((D.Step.mk ((D.Step.mk ((k + 4 * i : Nat) : Int) x1.Word x1.A x1.B).Kind) (mtxt (((k + 4 * i + 1) : Nat) : Int)) ((D.Step.mk ((k + 4 * i : Nat) : Int) x1.Word x1.A x1.B).A) ((D.Step.mk ((k + 4 * i : Nat) : Int) x1.Word x1.A x1.B).B)).Word) ((((k + 4 * i + 1) + 1) : Nat) : Int) ((D.Step.mk ((D.Step.mk ((k + 4 * i : Nat) : Int) x1.Word x1.A x1.B).Kind) (mtxt (((k + 4 * i + 1) : Nat) : Int)) ((D.Step.mk ((k + 4 * i : Nat) : Int) x1.Word x1.A x1.B).A) ((D.Step.mk ((k + 4 * i : Nat) : Int) x1.Word x1.A x1.B).B)).B)).A) (((((k + 4 * i + 1) + 1) + 1) : Nat) : Int))) = mkI mStep 4 k a (i + 1) := by (simp only [List.set_set]; refine mkI_set ?_; omega)
    refine ⟨(i + 1 : Nat), ?_, ?_, Wk.mk (fun k => k) ?_ ?_ ?_⟩
    · trivial
    · omega
    · exact (bc ⟨(congrArg (fun n_ => T.os 4 0 0 n_) (show ((mkI mStep 4 k a i).map (eStep true)).length = ((mkI mStep 4 k a (i + 1)).map (eStep true)).length from (by rw [List.length_map, List.length_map, mkI_len hI', mkI_len hi1]))), rfl⟩ (bc ⟨(congrArg (T.int .i64) (show ((((((k + 4 * i + 1) + 1) + 1) + 1) : Nat) : Int) = ((k + 4 * (i + 1) : Nat) : Int) from (by rfl))), rfl⟩ (b2 (b2 bn))))
    · exact (bc ⟨(congrArg (fun l_ => some (Obj.rows 4 (List.map (eStep true) l_))) he2), (lb rfl), rfl⟩ bn)
    · exact nd rfl
  refine VRun.exit (vthn.e (vthn.e (vinB.e (tn (sr (mO (tN (k + 4 * i)) rfl (aO (tN (k + 4 * i)) rfl (nt (rt ?_)))))))))
  refine vmut.r (r0 := ((k + 4 * i : Nat) : Int)) (rows := ((mkI mStep 4 k a i).map (eStep true))) rfl rfl rfl ?_ ?_ rfl
  · (push_cast; omega)
  · show List.map _ (mkI mStep 4 k a i) = List.map _ (mkN mStep 4 k a.length)
    refine congrArg (List.map _) ?_
    exact mkI_all hI' (by omega)
theorem W_laws_heldStepS (n : Nat) (a : List D.Step) (k : Nat) (hh : a = mkN mStep 4 k a.length) (hk : k + 4 * a.length ≤ lim) : Pure (acall Try.prog (n + 2)) 91 [(rd 4 eStep a), (tN k)] (tN (k + 4 * a.length)) := by
  refine Pure.intro (rs := [ResultVar.tmp 4]) Try.func91 rfl rfl rfl (E0 := [(0, (rd 4 eStep a)), (1, (tN k))]) rfl ?_
  obtain ⟨hlim, hmx, hmax⟩ := lims
  refine sr (fO (OF.assign (VEv.int .i64 0)) (nt (sq (sr (fO (OF.assign (VEv.int .i64 0)) (nt (VRun.block ?_)))))))
  refine VRun.loop (A := Nat) (fun s_ => [(0, (rd 4 eStep a)), (1, (tN (k + 4 * s_))), (5, (tN s_))]) (fun s_ => mkO []) 0 (fun s_ => s_ ≤ a.length) (fun s_ => a.length - s_) (0 : Nat) ?_ (Wk.mk (fun k => k) ?_ ?_ ?_) ?_
  · (simp; done)
  · exact (b2 (bc ⟨(congrArg (T.int .i64) (show ((k : Nat) : Int) = ((k + 4 * 0 : Nat) : Int) from (by rfl))), rfl⟩ (b2 bn)))
  · exact bn
  · exact nd rfl
  rintro i (hI' : i ≤ a.length)
  show VRun _ _ _ [(0, (rd 4 eStep a)), (1, (tN (k + 4 * i))), (5, (tN i))] (mkO []) 0 _
  refine sq (sr (mO (tN i) rfl (mO (rd 4 eStep a) rfl (lO (B.lenR (m := a.length) (tv (rd 4 eStep a) rfl) U48 (List.length_map ..)) (fO (xls' (tv (tN i) rfl) (tv (tN a.length) rfl)) (nt ?_))))))
  refine cd (i < a.length) rfl (fun fhc0 => ?_) fun fhc0 => ?_
  · refine sk ?_
    refine tn (sq (VRun.block (sq (sr (mO (rd 4 eStep a) rfl (mO (tN i) rfl ?_))))))
    obtain ⟨x1, hx1⟩ : ∃ x, a[i]? = some x := ⟨_, List.getElem?_eq_getElem (by omega)⟩
    refine fO (OF.indexAddrR (row := (eStep false x1)) (i := i) (tv (rd 4 eStep a) rfl) (tv (tN i) rfl) rfl (map_at _ hx1) U48 sz95 if95) (lr (tI x1.Kind) rfl (lb rfl) fa95_0 rfl st3 (mO (tN (k + 4 * i)) rfl (fO (xne (tv (tI x1.Kind) rfl) (tv (tN (k + 4 * i)) rfl)) (nt ?_))))
    refine cn (x1.Kind = ((k + 4 * i : Nat) : Int)) rfl (fun fhc1 => ?_) fun fhc1 => ?_
    · exact absurd (congrArg (fun x => x.Kind) (mkN_at hh hx1)) fhc1
    refine sk (tn (sr (mO (tN (k + 4 * i)) rfl (fO (xinc (tv (tN (k + 4 * i)) rfl) (VEv.int .i64 1) (by omega)) (aO (tN (k + 4 * i + 1)) rfl (nt (sq (sq (VRun.draw (B := [[], [], [1, 0], [0, 1, 2], [2, 1, 0, 3], [], [5], [5, 6, 3, 0, 1, 2, 4]]) (by kernel_rfl) (by kernel_rfl) (mD (rd 4 eStep a) rfl rfl (mD (tN i) rfl rfl ?_)))))))))))
    refine fD (OF.indexAddrR (row := (eStep false x1)) (i := i) (tv (rd 4 eStep a) rfl) (tv (tN i) rfl) rfl (map_at _ hx1) U48 sz95 if95) rfl rfl (fD (B.fieldAddrR (us := ((eStep false x1).drop 1)) (tv (T.rp (eStep false x1)) rfl) (lb rfl) fa95_1 rfl) rfl rfl (lD (OL.loadR1 (t := (tS x1.Word)) (tv (T.rp ((eStep false x1).drop 1)) rfl) rfl st9) rfl rfl (mD (tN (k + 4 * i + 1)) rfl rfl (VRunD.quiet (bi := [5]) rfl VWant.always rfl rfl rfl bn (cS (vc (tv (tN (k + 4 * i + 1)) rfl) vn) (lps rfl) (W_laws_markText (n + 0) (((k + 4 * i + 1) : Nat) : Int) (by omega)) rfl rfl) (fD (B.sneq (c := (!(decide (x1.Word = mtxt (((k + 4 * i + 1) : Nat) : Int))))) (tv (tS x1.Word) rfl) (tv (tS (mtxt (((k + 4 * i + 1) : Nat) : Int))) rfl) rfl) rfl rfl (VRunD.nil (tn ?_)))))))
    refine cn (x1.Word = mtxt (((k + 4 * i + 1) : Nat) : Int)) rfl (fun fhc2 => ?_) fun fhc2 => ?_
    · exact absurd (congrArg (fun x => x.Word) (mkN_at hh hx1)) fhc2
    refine sk (tn (sr (mO (tN (k + 4 * i + 1)) rfl (fO (xinc (tv (tN (k + 4 * i + 1)) rfl) (VEv.int .i64 1) (by omega)) (aO (tN ((k + 4 * i + 1) + 1)) rfl (nt (sq (sr (mO (rd 4 eStep a) rfl (mO (tN i) rfl (fO (OF.indexAddrR (row := (eStep false x1)) (i := i) (tv (rd 4 eStep a) rfl) (tv (tN i) rfl) rfl (map_at _ hx1) U48 sz95 if95) ?_)))))))))))
    refine lr (tI x1.A) rfl (lb rfl) fa95_2 rfl st3 (mO (tN ((k + 4 * i + 1) + 1)) rfl (fO (xne (tv (tI x1.A) rfl) (tv (tN ((k + 4 * i + 1) + 1)) rfl)) (nt ?_)))
    refine cn (x1.A = ((((k + 4 * i + 1) + 1) : Nat) : Int)) rfl (fun fhc3 => ?_) fun fhc3 => ?_
    · exact absurd (congrArg (fun x => x.A) (mkN_at hh hx1)) fhc3
    refine sk (tn (sr (mO (tN ((k + 4 * i + 1) + 1)) rfl (fO (xinc (tv (tN ((k + 4 * i + 1) + 1)) rfl) (VEv.int .i64 1) (by omega)) (aO (tN (((k + 4 * i + 1) + 1) + 1)) rfl (nt (sq (sr (mO (rd 4 eStep a) rfl (mO (tN i) rfl (fO (OF.indexAddrR (row := (eStep false x1)) (i := i) (tv (rd 4 eStep a) rfl) (tv (tN i) rfl) rfl (map_at _ hx1) U48 sz95 if95) ?_)))))))))))
    refine lr (tI x1.B) rfl (lb rfl) fa95_3 rfl st3 (mO (tN (((k + 4 * i + 1) + 1) + 1)) rfl (fO (xne (tv (tI x1.B) rfl) (tv (tN (((k + 4 * i + 1) + 1) + 1)) rfl)) (nt ?_)))
    refine cn (x1.B = (((((k + 4 * i + 1) + 1) + 1) : Nat) : Int)) rfl (fun fhc4 => ?_) fun fhc4 => ?_
    · exact absurd (congrArg (fun x => x.B) (mkN_at hh hx1)) fhc4
    refine sk (tn (VRun.region (mO (tN (((k + 4 * i + 1) + 1) + 1)) rfl (fO (xinc (tv (tN (((k + 4 * i + 1) + 1) + 1)) rfl) (VEv.int .i64 1) (by omega)) (aO (tN ((((k + 4 * i + 1) + 1) + 1) + 1)) rfl (VRunO.nil (vinB.n (tn (VRun.region (mO (tN i) rfl (fO (xinc (tv (tN i) rfl) (VEv.int .i64 1) (by omega)) ?_)))))))))))
    refine aO (tN (i + 1)) rfl (VRunO.nil (tn ?_))
    refine ⟨(i + 1 : Nat), ?_, ?_, Wk.mk (fun k => k) ?_ ?_ ?_⟩
    · trivial
    · omega
    · exact (b2 (bc ⟨(congrArg (T.int .i64) (show ((((((k + 4 * i + 1) + 1) + 1) + 1) : Nat) : Int) = ((k + 4 * (i + 1) : Nat) : Int) from (by rfl))), rfl⟩ (b2 bn)))
    · exact bn
    · exact nd rfl
  refine VRun.exit (vthn.e (vthn.e (vinB.e (tn (sr (mO (tN (k + 4 * i)) rfl (aO (tN (k + 4 * i)) rfl (nt (rt (vi (n' := ((k + 4 * i : Nat) : Int)) rfl ?_))))))))))
  omega
end Go.Proofs.Ytjclbdgjkecbeaa.AE
namespace Go.Proofs.Ytjclbdgjkecbeaa.AE
open Go Go.RowKit
set_option linter.unusedVariables false
set_option linter.unusedSimpArgs false
set_option maxRecDepth 20000
set_option maxHeartbeats 2000000
noncomputable section
def wClue (c : D.Clue) : Nat := 1 + 4 * c.Play.length
def fClue (k : Nat) (c : D.Clue) : D.Clue := D.Clue.mk ((k : Nat) : Int) (mkN mStep 4 (k + 1) c.Play.length)
theorem fClue_w (k : Nat) (c : D.Clue) : wClue (fClue k c) = wClue c := by unfold wClue fClue; simp only [mkN_len]
theorem fClue_f (k : Nat) (c : D.Clue) : fClue k (fClue k c) = fClue k c := by unfold fClue; simp only [mkN_len]
theorem wClue_z (c : D.Clue) : wClue c ≤ 5 * (1 + zClue c) := by
  have := zL_len (z := zStep) c.Play
  unfold wClue zClue
  omega
def mkClues : Nat → List D.Clue → List D.Clue := mkL fClue wClue
def enClues : Nat → List D.Clue → Nat := mkE wClue
theorem mkClues_self (k : Nat) (l : List D.Clue) : mkClues k l = mkClues k (mkClues k l) := mkL_self fClue_w fClue_f k l
theorem enClues_self (k k2 : Nat) (l : List D.Clue) : enClues k (mkClues k2 l) = enClues k l := mkE_self fClue_w k k2 l
theorem enClues_le (k : Nat) (l : List D.Clue) : enClues k l ≤ k + 5 * zL zClue l := mkE_le wClue_z k l
theorem mkClues_len (k : Nat) (l : List D.Clue) : (mkClues k l).length = l.length := mkL_len k l
end
theorem W_laws_markClueS (n : Nat) (a : List D.Clue) (k : Nat) (hk : enClues k a ≤ lim) : LoanM (acall Try.prog (n + 3)) 50 [(2, (a.map (eClue true)))] [(T.os 2 0 0 ((a.map (eClue true)).length)), (tN k)] (tN (enClues k a)) [(2, ((mkClues k a).map (eClue true)))] := by
  refine LoanM.intro (rs := [ResultVar.tmp 4]) [(0, (T.os 2 0 0 ((a.map (eClue true)).length)))] Try.func50 rfl rfl rfl rfl (bc ⟨by kernel_rfl, rfl⟩ bn) (PinsTo.at (And.intro trivial ⟨_, (.head _), (.os _ _)⟩)) (.int _ _) (bc (okeClue.cleanMap _) bn) (E0 := [(0, (T.os 2 0 0 ((a.map (eClue true)).length))), (1, (tN k))]) rfl (fun asg => ?_)
  obtain ⟨hlim, hmx, hmax⟩ := lims
  show VRun _ _ _ [(0, (T.os 2 0 0 ((a.map (eClue true)).length))), (1, (tN k))] (mkO [(0, (Obj.rowsN 2 (a.map (eClue true)) (asg 0)))]) 1 _
  have hk2 := hk
  unfold enClues at hk2
  have hla := mkE_len (w := wClue) (fun x => Nat.le_add_right _ _) k a
  refine sr (fO (OF.assign (VEv.int .i64 0)) (nt (sq (sr (fO (OF.assign (VEv.int .i64 0)) (nt (VRun.block ?_)))))))
  have he1 : a = mkT fClue wClue k a 0 := by rfl
  refine VRun.loop (A := Nat) (fun s_ => [(0, (T.os 2 0 0 (((mkT fClue wClue k a s_).map (eClue true)).length))), (1, (tN (mkE wClue k (a.take s_)))), (4, (tN 0)), (5, (tN s_))]) (fun s_ => mkO [(0, (Obj.rowsN 2 ((mkT fClue wClue k a s_).map (eClue true)) (asg 0)))]) 1 (fun s_ => s_ ≤ a.length) (fun s_ => a.length - s_) (0 : Nat) ?_ (Wk.mk (fun k => k) ?_ ?_ ?_) ?_
  · (simp; done)
  · exact (bc ⟨(congrArg (fun l_ => T.os 2 0 0 (List.map (eClue true) l_).length) he1), rfl⟩ (bc ⟨(congrArg (T.int .i64) (show ((k : Nat) : Int) = ((mkE wClue k (a.take 0) : Nat) : Int) from (by rfl))), rfl⟩ (b2 (b2 bn))))
  · exact (bc ⟨(congrArg (fun l_ => some (Obj.rowsN 2 (List.map (eClue true) l_) (asg 0))) he1), (lb rfl), rfl⟩ bn)
  · exact nd rfl
  rintro i (hI' : i ≤ a.length)
  show VRun _ _ _ [(0, (T.os 2 0 0 (((mkT fClue wClue k a i).map (eClue true)).length))), (1, (tN (mkE wClue k (a.take i)))), (4, (tN 0)), (5, (tN i))] (mkO [(0, (Obj.rowsN 2 ((mkT fClue wClue k a i).map (eClue true)) (asg 0)))]) 1 _
  have hml := mkT_len (f := fClue) (w := wClue) k a i
  have hme := mkE_take (w := wClue) k a i
  refine sq (sr (mO (tN i) rfl (mO (T.os 2 0 0 (((mkT fClue wClue k a i).map (eClue true)).length)) rfl (lO (B.lenO (m := (mkT fClue wClue k a i).length) (tv (T.os 2 0 0 (((mkT fClue wClue k a i).map (eClue true)).length)) rfl) U30 (List.length_map ..)) (fO (xls' (tv (tN i) rfl) (tv (tN ((mkT fClue wClue k a i).length)) rfl)) (nt ?_))))))
  refine cd (i < (mkT fClue wClue k a i).length) rfl (fun fhc0 => ?_) fun fhc0 => ?_
  · refine sk ?_
    refine tn (sq (VRun.block (sr (mO (T.os 2 0 0 (((mkT fClue wClue k a i).map (eClue true)).length)) rfl (mO (tN i) rfl (mO (tN (mkE wClue k (a.take i))) rfl ?_))))))
    obtain ⟨x1, hx1⟩ : ∃ x, (mkT fClue wClue k a i)[i]? = some x := ⟨_, List.getElem?_eq_getElem (by omega)⟩
    (have hy1 := mkT_at (show i < a.length by omega) hx1; have hnx := mkE_next (w := wClue) (k := k) hy1; have hnt := mkE_take (w := wClue) k a (i + 1); have hw2 : wClue x1 = 1 + 4 * x1.Play.length := rfl)
    refine fO (B.indexAddrO (i := i) (tv (T.os 2 0 0 (((mkT fClue wClue k a i).map (eClue true)).length)) rfl) (tv (tN i) rfl) rfl (by (simp only [List.length_map]; omega)) U30 sz50 if50) (fO (OF.fieldAddrP (tv (T.orp 2 0 i 0) rfl) fa50_0) (cO (B.storeN (t0 := (tI x1.Sense)) (rows' := (((mkT fClue wClue k a i).set i (D.Clue.mk ((mkE wClue k (a.take i) : Nat) : Int) x1.Play)).map (eClue true))) (row := (eClue true x1)) (tv (T.orp 2 0 i 0) rfl) (tv (tN (mkE wClue k (a.take i))) rfl) rfl rfl (map_at _ hx1) rfl rfl if3 sz3 (set_mapE rfl)) (nt (sr (mO (tN (mkE wClue k (a.take i))) rfl (fO (xinc (tv (tN (mkE wClue k (a.take i))) rfl) (VEv.int .i64 1) (by omega)) (aO (tN (mkE wClue k (a.take i) + 1)) rfl (nt (VRun.region (mO (T.os 2 0 0 (((mkT fClue wClue k a i).map (eClue true)).length)) rfl (mO (tN i) rfl ?_)))))))))))
    refine fO (B.indexAddrO (i := i) (tv (T.os 2 0 0 (((mkT fClue wClue k a i).map (eClue true)).length)) rfl) (tv (tN i) rfl) rfl (by (simp only [List.length_map]; omega)) U30 sz50 if50) (fO (OF.fieldAddrP (tv (T.orp 2 0 i 0) rfl) fa50_1) (VRunO.nest (row := (eClue true (D.Clue.mk ((mkE wClue k (a.take i) : Nat) : Int) x1.Play))) (rs := (((D.Clue.mk ((mkE wClue k (a.take i) : Nat) : Int) x1.Play).Play).map (eStep true))) (rs' := ((mkN mStep 4 (mkE wClue k (a.take i) + 1) ((D.Clue.mk ((mkE wClue k (a.take i) : Nat) : Int) x1.Play).Play).length).map (eStep true))) (rows' := ((((mkT fClue wClue k a i).set i (D.Clue.mk ((mkE wClue k (a.take i) : Nat) : Int) x1.Play)).set i (D.Clue.mk ((D.Clue.mk ((mkE wClue k (a.take i) : Nat) : Int) x1.Play).Sense) (mkN mStep 4 (mkE wClue k (a.take i) + 1) ((D.Clue.mk ((mkE wClue k (a.take i) : Nat) : Int) x1.Play).Play).length))).map (eClue true))) (n := (((mkE wClue k (a.take i) + 1) : Nat) : Int)) (r := (((mkE wClue k (a.take i) + 1) + 4 * ((D.Clue.mk ((mkE wClue k (a.take i) : Nat) : Int) x1.Play).Play).length : Nat) : Int)) rfl (tv (T.orp 2 0 i 1) rfl) rfl (map_at _ (set_at (by omega))) rfl st48 (tv (tN (mkE wClue k (a.take i) + 1)) rfl) rfl (W_laws_markStepS (n + 0) ((D.Clue.mk ((mkE wClue k (a.take i) : Nat) : Int) x1.Play).Play) (mkE wClue k (a.take i) + 1) (by (simp only [List.length_set]; omega))) (okeStep.cleanMap _) (set_mapE rfl) (aO (tN ((mkE wClue k (a.take i) + 1) + 4 * ((D.Clue.mk ((mkE wClue k (a.take i) : Nat) : Int) x1.Play).Play).length)) rfl (VRunO.nil (vinB.n (tn (VRun.region (mO (tN i) rfl (fO (xinc (tv (tN i) rfl) (VEv.int .i64 1) (by omega)) (aO (tN (i + 1)) rfl (VRunO.nil ?_)))))))))))
    refine tn ?_
    have he2 : (((mkT fClue wClue k a i).set i (D.Clue.mk ((mkE wClue k (a.take i) : Nat) : Int) x1.Play)).set i (D.Clue.mk ((D.Clue.mk ((mkE wClue k (a.take i) : Nat) : Int) x1.Play).Sense) (mkN mStep 4 (mkE wClue k (a.take i) + 1) ((D.Clue.mk ((mkE wClue k (a.take i) : Nat) : Int) x1.Play).Play).length))) = mkT fClue wClue k a (i + 1) := by (rw [List.set_set]; exact mkT_set hy1 rfl)
    refine ⟨(i + 1 : Nat), ?_, ?_, Wk.mk (fun k => k) ?_ ?_ ?_⟩
    · omega
    · omega
    · exact (bc ⟨(congrArg (fun n_ => T.os 2 0 0 n_) (show ((mkT fClue wClue k a i).map (eClue true)).length = ((mkT fClue wClue k a (i + 1)).map (eClue true)).length from (by rw [List.length_map, List.length_map, mkT_len, mkT_len]))), rfl⟩ (bc ⟨(congrArg (T.int .i64) (show (((mkE wClue k (a.take i) + 1) + 4 * ((D.Clue.mk ((mkE wClue k (a.take i) : Nat) : Int) x1.Play).Play).length : Nat) : Int) = ((mkE wClue k (a.take (i + 1)) : Nat) : Int) from (by (push_cast; omega)))), rfl⟩ (b2 (b2 bn))))
    · exact (bc ⟨(congrArg (fun l_ => some (Obj.rowsN 2 (List.map (eClue true) l_) (asg 0))) he2), (lb rfl), rfl⟩ bn)
    · exact nd rfl
  refine VRun.exit (vthn.e (vthn.e (vinB.e (tn (sr (mO (tN (mkE wClue k (a.take i))) rfl (aO (tN (mkE wClue k (a.take i))) rfl (nt (rt ?_)))))))))
  have hnew0 : mkT fClue wClue k a i = mkClues k a := by
    exact mkT_done (by omega)
  exact vloanM.r (L1 := [(2, ((mkT fClue wClue k a i).map (eClue true)))]) (fun k => k) (VRes.tmp (t := (tN (mkE wClue k (a.take i)))) rfl VRes.nil) (congrArg (T.int .i64) (show ((mkE wClue k (a.take i) : Nat) : Int) = ((enClues k a : Nat) : Int) by rw [List.take_of_length_le (by omega)]; rfl)) (bc (congrArg (fun n_ => T.os 2 0 0 n_) (show ((mkT fClue wClue k a i).map (eClue true)).length = (a.map (eClue true)).length from (by rw [List.length_map, List.length_map, mkT_len]))) bn) (And.intro rfl (trivial)) (by rw [hnew0])
theorem W_laws_heldClueS (n : Nat) (a : List D.Clue) (k : Nat) (hh : a = mkClues k a) (hk : enClues k a ≤ lim) : Pure (acall Try.prog (n + 3)) 60 [(rd 2 eClue a), (tN k)] (tN (enClues k a)) := by
  refine Pure.intro (rs := [ResultVar.tmp 4]) Try.func60 rfl rfl rfl (E0 := [(0, (rd 2 eClue a)), (1, (tN k))]) rfl ?_
  obtain ⟨hlim, hmx, hmax⟩ := lims
  have hk2 := hk
  unfold enClues at hk2
  have hla := mkE_len (w := wClue) (fun x => Nat.le_add_right _ _) k a
  refine sr (fO (OF.assign (VEv.int .i64 0)) (nt (sq (sr (fO (OF.assign (VEv.int .i64 0)) (nt (VRun.block ?_)))))))
  refine VRun.loop (A := Nat) (fun s_ => [(0, (rd 2 eClue a)), (1, (tN (mkE wClue k (a.take s_)))), (5, (tN s_))]) (fun s_ => mkO []) 0 (fun s_ => s_ ≤ a.length) (fun s_ => a.length - s_) (0 : Nat) ?_ (Wk.mk (fun k => k) ?_ ?_ ?_) ?_
  · (simp; done)
  · exact (b2 (bc ⟨(congrArg (T.int .i64) (show ((k : Nat) : Int) = ((mkE wClue k (a.take 0) : Nat) : Int) from (by rfl))), rfl⟩ (b2 bn)))
  · exact bn
  · exact nd rfl
  rintro i (hI' : i ≤ a.length)
  show VRun _ _ _ [(0, (rd 2 eClue a)), (1, (tN (mkE wClue k (a.take i)))), (5, (tN i))] (mkO []) 0 _
  have hme := mkE_take (w := wClue) k a i
  refine sq (sr (mO (tN i) rfl (mO (rd 2 eClue a) rfl (lO (B.lenR (m := a.length) (tv (rd 2 eClue a) rfl) U30 (List.length_map ..)) (fO (xls' (tv (tN i) rfl) (tv (tN a.length) rfl)) (nt ?_))))))
  refine cd (i < a.length) rfl (fun fhc0 => ?_) fun fhc0 => ?_
  · refine sk ?_
    refine tn (sq (VRun.block (sq (sr (mO (rd 2 eClue a) rfl (mO (tN i) rfl ?_))))))
    obtain ⟨x1, hx1⟩ : ∃ x, a[i]? = some x := ⟨_, List.getElem?_eq_getElem (by omega)⟩
    have hel := mkL_held (f := fClue) (w := wClue) hh hx1
    have hnx := mkE_next (w := wClue) (k := k) hx1
    have hnt := mkE_take (w := wClue) k a (i + 1)
    have hsn := congrArg (fun c : D.Clue => c.Sense) hel
    have hpl := congrArg (fun c : D.Clue => c.Play) hel
    have hw3 : wClue x1 = 1 + 4 * x1.Play.length := rfl
    refine fO (OF.indexAddrR (row := (eClue false x1)) (i := i) (tv (rd 2 eClue a) rfl) (tv (tN i) rfl) rfl (map_at _ hx1) U30 sz50 if50) (lr (tI x1.Sense) rfl (lb rfl) fa50_0 rfl st3 (mO (tN (mkE wClue k (a.take i))) rfl (fO (xne (tv (tI x1.Sense) rfl) (tv (tN (mkE wClue k (a.take i))) rfl)) (nt ?_))))
    refine cn (x1.Sense = ((mkE wClue k (a.take i) : Nat) : Int)) rfl (fun fhc1 => ?_) fun fhc1 => ?_
    · exact absurd hsn fhc1
    refine sk (tn (sr (mO (tN (mkE wClue k (a.take i))) rfl (fO (xinc (tv (tN (mkE wClue k (a.take i))) rfl) (VEv.int .i64 1) (by (have hw2 : wClue x1 = 1 + 4 * x1.Play.length := rfl; omega))) (aO (tN (mkE wClue k (a.take i) + 1)) rfl (nt (sr (mO (rd 2 eClue a) rfl (mO (tN i) rfl (fO (OF.indexAddrR (row := (eClue false x1)) (i := i) (tv (rd 2 eClue a) rfl) (tv (tN i) rfl) rfl (map_at _ hx1) U30 sz50 if50) (lr (rd 4 eStep x1.Play) rfl (lb rfl) fa50_1 rfl st48 ?_)))))))))))
    refine mO (tN (mkE wClue k (a.take i) + 1)) rfl (cO (cS (vc (tv (rd 4 eStep x1.Play) rfl) (vc (tv (tN (mkE wClue k (a.take i) + 1)) rfl) vn)) (lps rfl) (W_laws_heldStepS (n + 0) x1.Play (mkE wClue k (a.take i) + 1) (by exact hpl) (by (have hw2 : wClue x1 = 1 + 4 * x1.Play.length := rfl; omega))) rfl rfl) (aO (tN ((mkE wClue k (a.take i) + 1) + 4 * x1.Play.length)) rfl (nt (sr (mO (tN ((mkE wClue k (a.take i) + 1) + 4 * x1.Play.length)) rfl (fO (B.lss (c := (decide ((mkE wClue k (a.take i) + 1) + 4 * x1.Play.length < 0))) (tv (tN ((mkE wClue k (a.take i) + 1) + 4 * x1.Play.length)) rfl) (VEv.int .i64 0) (by exact decN (by omega))) (nt ?_)))))))
    refine cd ((mkE wClue k (a.take i) + 1) + 4 * x1.Play.length < 0) rfl (fun fhc2 => ?_) fun fhc2 => ?_
    · omega
    refine sk (vinB.n (tn (VRun.region (mO (tN i) rfl (fO (xinc (tv (tN i) rfl) (VEv.int .i64 1) (by (have hw2 : wClue x1 = 1 + 4 * x1.Play.length := rfl; omega))) (aO (tN (i + 1)) rfl (VRunO.nil (tn ?_))))))))
    refine ⟨(i + 1 : Nat), ?_, ?_, Wk.mk (fun k => k) ?_ ?_ ?_⟩
    · trivial
    · omega
    · exact (b2 (bc ⟨(congrArg (T.int .i64) (show (((mkE wClue k (a.take i) + 1) + 4 * x1.Play.length : Nat) : Int) = ((mkE wClue k (a.take (i + 1)) : Nat) : Int) from (by omega))), rfl⟩ (b2 bn)))
    · exact bn
    · exact nd rfl
  refine VRun.exit (vthn.e (vthn.e (vinB.e (tn (sr (mO (tN (mkE wClue k (a.take i))) rfl (aO (tN (mkE wClue k (a.take i))) rfl (nt (rt (vi (n' := ((mkE wClue k (a.take i) : Nat) : Int)) rfl ?_))))))))))
  exact congrArg (fun x : Nat => (x : Int)) (by rw [List.take_of_length_le (by omega)]; rfl)
theorem W_laws_markDraft (n : Nat) (a : D.Draft) (k : Nat) (hk : enClues k a.Clues ≤ lim) : LoanM (acall Try.prog (n + 4)) 15 [(2, (a.Clues.map (eClue true)))] [(T.agg [(tI a.Grid.Rows), (tI a.Grid.Cols), (tS a.Grid.Cells), (tS a.Fill), (T.os 2 0 0 ((a.Clues.map (eClue true)).length)), (tI a.Version)]), (tN k)] (tN (enClues k a.Clues)) [(2, ((mkClues k a.Clues).map (eClue true)))] := by
  refine LoanM.intro (rs := [ResultVar.tmp 4]) [(0, (T.agg [(tI a.Grid.Rows), (tI a.Grid.Cols), (tS a.Grid.Cells), (tS a.Fill), (T.os 2 0 0 ((a.Clues.map (eClue true)).length)), (tI a.Version)]))] Try.func15 rfl rfl rfl rfl (bc ⟨by kernel_rfl, rfl⟩ bn) (PinsTo.at (And.intro trivial ⟨_, (.head _), (.agg 4 rfl (.os _ _))⟩)) (.int _ _) (bc (okeClue.cleanMap _) bn) (E0 := [(0, (T.agg [(tI a.Grid.Rows), (tI a.Grid.Cols), (tS a.Grid.Cells), (tS a.Fill), (T.os 2 0 0 ((a.Clues.map (eClue true)).length)), (tI a.Version)])), (1, (tN k))]) rfl (fun asg => ?_)
  obtain ⟨hlim, hmx, hmax⟩ := lims
  show VRun _ _ _ [(0, (T.agg [(tI a.Grid.Rows), (tI a.Grid.Cols), (tS a.Grid.Cells), (tS a.Fill), (T.os 2 0 0 ((a.Clues.map (eClue true)).length)), (tI a.Version)])), (1, (tN k))] (mkO [(0, (Obj.rowsN 2 (a.Clues.map (eClue true)) (asg 0)))]) 1 _
  refine sr (kO (B.box (ts := [(tI a.Grid.Rows), (tI a.Grid.Cols), (tS a.Grid.Cells), (tS a.Fill), (T.os 2 0 0 ((a.Clues.map (eClue true)).length)), (tI a.Version)]) (tv (T.agg [(tI a.Grid.Rows), (tI a.Grid.Cols), (tS a.Grid.Cells), (tS a.Fill), (T.os 2 0 0 ((a.Clues.map (eClue true)).length)), (tI a.Version)]) rfl) nofun rfl) (fO (OF.assign (VEv.int .i64 0)) (nt (sr (lf (T.os 2 0 0 ((a.Clues.map (eClue true)).length)) rfl fa32_2 rfl rfl st30 (mO (tN k) rfl (cO (OC.callL (ts := [(T.os 2 0 0 ((a.Clues.map (eClue true)).length)), (tN k)]) [0] (r := (tN (enClues k a.Clues))) (L := [(2, (a.Clues.map (eClue true)))]) [(2, ((mkClues k a.Clues).map (eClue true)))] [(Obj.rowsN 2 (a.Clues.map (eClue true)) (asg 0))] rfl (vc (tv (T.os 2 0 0 ((a.Clues.map (eClue true)).length)) rfl) (vc (tv (tN k) rfl) vn)) (by decide) rfl (And.intro (And.intro rfl rfl) (trivial)) (bc (okeClue.cleanMap _) bn) (bc (okeClue.cleanMap _) bn) rfl rfl (.int _ _) (W_laws_markClueS (n + 0) a.Clues k (by assumption))) (aO (tN (enClues k a.Clues)) rfl (nt (sr (mO (tN (enClues k a.Clues)) rfl ?_)))))))))))
  refine aO (tN (enClues k a.Clues)) rfl (nt (rt ?_))
  have hnew0 : mkClues k a.Clues = mkClues k a.Clues := by
    rfl
  exact vloanM.r (L1 := [(2, ((mkClues k a.Clues).map (eClue true)))]) (fun k => k) (VRes.tmp (t := (tN (enClues k a.Clues))) rfl VRes.nil) rfl (bc rfl bn) (And.intro rfl (trivial)) (by rw [hnew0])
theorem W_laws_heldDraft (n : Nat) (a : D.Draft) (k : Nat) (hh : a.Clues = mkClues k a.Clues) (hk : enClues k a.Clues ≤ lim) : Pure (acall Try.prog (n + 4)) 24 [(T.agg (eDraft false a)), (tN k)] (tN (enClues k a.Clues)) := by
  refine Pure.intro (rs := [ResultVar.tmp 4]) Try.func24 rfl rfl rfl (E0 := [(0, (T.agg (eDraft false a))), (1, (tN k))]) rfl ?_
  obtain ⟨hlim, hmx, hmax⟩ := lims
  refine sr (kO (B.box (ts := (eDraft false a)) (tv (T.agg (eDraft false a)) rfl) nofun rfl) (fO (OF.assign (VEv.int .i64 0)) (nt (sr (lf (rd 2 eClue a.Clues) rfl fa32_2 rfl rfl st30 (mO (tN k) rfl (cO (cS (vc (tv (rd 2 eClue a.Clues) rfl) (vc (tv (tN k) rfl) vn)) (lps rfl) (W_laws_heldClueS (n + 0) a.Clues k (by assumption) (by assumption)) rfl rfl) (aO (tN (enClues k a.Clues)) rfl (nt (sq (sr ?_)))))))))))
  refine mO (tN (enClues k a.Clues)) rfl (fO (B.lss (c := (decide (enClues k a.Clues < 0))) (tv (tN (enClues k a.Clues)) rfl) (VEv.int .i64 0) (decN (by omega))) (nt ?_))
  refine cd (enClues k a.Clues < 0) rfl (fun fhc0 => ?_) fun fhc0 => ?_
  · omega
  refine sk (tn (sr (mO (tN (enClues k a.Clues)) rfl (aO (tN (enClues k a.Clues)) rfl (nt (rt ?_))))))
  exact vi rfl rfl
end Go.Proofs.Ytjclbdgjkecbeaa.AE
namespace Go.Proofs.Ytjclbdgjkecbeaa.AE
open Go Go.RowKit
set_option linter.unusedVariables false
set_option linter.unusedSimpArgs false
set_option maxRecDepth 20000
set_option maxHeartbeats 2000000
noncomputable section
theorem runN_ok {ok : Nat → Prop} [DecidablePred ok] : ∀ (f n k : Nat), n ≤ k → k < runN ok f n → ok k
  | 0, n, k, h1, h2 => by simp only [runN] at h2; omega
  | f + 1, n, k, h1, h2 => by
    simp only [runN] at h2
    split at h2
    · by_cases e : k = n
      · subst e; assumption
      · exact runN_ok f (n + 1) k (by omega) h2
    · omega
theorem fromG_in {g : D.Grid} {cell k : Nat} {down : Bool} (hg : gridOk g) (hc : cell < g.Cells.size) (hk : k < fromG g cell down) : 0 ≤ ((cell : Nat) : Int) + ((k : Nat) : Int) * (if down = true then g.Cols else 1) ∧ ((cell : Nat) : Int) + ((k : Nat) : Int) * (if down = true then g.Cols else 1) < ((g.Cells.size : Nat) : Int) := by
  have hB := hg.2.1
  obtain ⟨_, _, _, h4, h5⟩ := cell_at hg hc
  unfold fromG at hk
  cases down with
  | true =>
    rw [if_pos rfl] at hk
    unfold fromD at hk
    split at hk
    · have h1 := runN_ok _ _ k (Nat.zero_le _) hk
      have h2 := h5 k h1.1
      have h3 : 0 ≤ ((k : Nat) : Int) * g.Cols := Int.mul_nonneg (by omega) (by omega)
      rw [if_pos rfl]
      omega
    · omega
  | false =>
    rw [if_neg (by simp)] at hk
    unfold fromA at hk
    split at hk
    · have h1 := runN_ok _ _ k (Nat.zero_le _) hk
      have h2 := h4 k h1.1
      rw [if_neg (by simp), Int.mul_one]
      omega
    · omega
theorem slotsN_from (g : D.Grid) : ∀ i, ∀ s ∈ (slotsN g i).1, ∃ c : Nat, c < i ∧ s.Cell = ((c : Nat) : Int) ∧ s.Length = ((fromG g c s.Down : Nat) : Int)
  | 0, s, hs => by simp [slotsN] at hs
  | i + 1, s, hs => by
    rw [slotsN1, List.mem_append, List.mem_append] at hs
    rcases hs with (hs | hs) | hs
    · obtain ⟨c, h1, h2⟩ := slotsN_from g i s hs
      exact ⟨c, by omega, h2⟩
    · split at hs
      · obtain rfl := List.mem_singleton.1 hs
        exact ⟨i, by omega, rfl, rfl⟩
      · cases hs
    · split at hs
      · obtain rfl := List.mem_singleton.1 hs
        exact ⟨i, by omega, rfl, rfl⟩
      · cases hs
theorem cellsS_in {g : D.Grid} {s : D.Slot} {c : Int} (hs : s ∈ slotsG g) (hc : c ∈ cellsS g s s.Length.toNat) : 0 ≤ c ∧ c < ((g.Cells.size : Nat) : Int) := by
  have hg := (slotsG_ok hs).1
  unfold slotsG at hs
  rw [if_pos hg] at hs
  obtain ⟨c0, h1, h2, h3⟩ := slotsN_from g _ s hs
  unfold cellsS at hc
  obtain ⟨k, hk, rfl⟩ := List.mem_map.1 hc
  rw [List.mem_range] at hk
  have := fromG_in (down := s.Down) hg h1 (k := k) (by omega)
  rw [h2]
  unfold stepS
  exact this
end
end Go.Proofs.Ytjclbdgjkecbeaa.AE
namespace Go.Proofs.Ytjclbdgjkecbeaa.AE
open Go Go.RowKit
set_option linter.unusedVariables false
set_option linter.unusedSimpArgs false
set_option maxRecDepth 20000
set_option maxHeartbeats 2000000
theorem W_slices_Clone_impl_Step_impl_Step_ (n : Nat) (a : List D.Step) (ha : a.length ≤ mx) : Pure (acall Try.prog (n + 1)) 88 [(rd 4 eStep a)] (T.sl true 4 (a.map (eStep true))) := by
  refine Pure.intro (rs := [ResultVar.tmp 2]) Try.func88 rfl rfl rfl (E0 := [(0, (rd 4 eStep a))]) rfl ?_
  obtain ⟨hlim, hmx, hmax⟩ := lims
  refine sr (fO (OF.assign VEv.nils) (nt (sq (sr (mO (rd 4 eStep a) rfl ?_)))))
  refine VRunO.nilEq VWant.always (tv (rd 4 eStep a) rfl) VEv.nils U48 (fun bn1 hbn1 => ?_)
  refine nt ?_
  refine VRun.cond (tv (tB bn1) rfl) (fun hc0 => ?_) (fun hc0 => ?_)
  · have fhc0 : bn1 = true := hc0
    have ebn1 := hbn1 hc0
    refine sr (fO (OF.assign VEv.nils) (nt (rt (tr ?_))))
    refine vfin.eq (r' := (T.sl true 4 [])) ?_ (vfin.r (VRes.tmp (t := T.nils) rfl VRes.nil) (Give.nils 4))
    show (T.sl true 4 []) = (T.sl true 4 (a.map (eStep true)))
    refine congrArg (fun l_ => T.sl true 4 (List.map (eStep true) l_)) (a₁ := []) ?_
    exact (List.map_eq_nil_iff.1 ebn1).symm
  have fhc0 : bn1 = false := hc0
  refine sk (tn (sr (kO (OM.slice0 U48 zo95 (by kernel_rfl) rfl (by rw [sz95]; decide) sz95) (mO (rd 4 eStep a) rfl (cO (B.append (rows := []) (rows2 := (a.map (eStep false))) (rows3 := (a.map (eStep true))) (VDst.own (tv (T.os 4 0 0 0) rfl) rfl rfl) (VSrc.read (tv (rd 4 eStep a) rfl) U48 (okeStep.okMap _ _)) nofun U48 sz95 (by decide) zo95 rfl (of_decide_eq_true (by kernel_rfl)) (by first | omega | (simp only [List.length_map]; omega) | (simp only [List.length_map, List.length_append, List.length_cons, List.length_nil, List.length_replicate, List.length_set, List.length_drop, List.length_take, lim] at *; omega)) (List.nil_append _)) (aO (T.os 4 1 0 ((a.map (eStep true)).length)) rfl (nt (rt ?_))))))))
  refine vfin.eq (r' := (T.sl true 4 (a.map (eStep true)))) ?_ (vfin.r (VRes.tmp (t := (T.os 4 1 0 ((a.map (eStep true)).length))) rfl VRes.nil) (Give.os rfl rfl (okeStep.cleanMap _)))
  rfl
theorem W_spec_l18Copy (n : Nat) (c : D.Clue) (hz : zClue c ≤ mx) : Pure (acall Try.prog (n + 1)) 53 [(T.agg (eClue false c))] (T.agg (eClue true c)) := by
  refine Pure.intro (rs := [ResultVar.cell 2 50]) Try.func53 rfl rfl rfl (E0 := [(0, (T.agg (eClue false c)))]) rfl ?_
  obtain ⟨hlim, hmx, hmax⟩ := lims
  simp only [zClue] at hz
  have hl := zL_len (z := zStep) c.Play
  refine sr (kO (B.box (ts := (eClue false c)) (tv (T.agg (eClue false c)) rfl) nofun rfl) (kO (B.alloc (t := (T.agg [(tN 0), T.nils])) (ts := [(tN 0), T.nils]) zo50 zc50 nofun (fun _ => .agg _ _ rfl (RLof (RL.cons (.int _ _) (RL.cons (.nils) (RL.nil _))))) rfl) (nt (sq (VRun.draw (B := [[], [0], [], [], [3], [3, 4, 2], [2, 4, 3, 5, 0, 1], [1, 0, 5, 3, 4, 2, 6]]) (by kernel_rfl) (by kernel_rfl) (fD (OF.fieldAddrO (tv (T.op 0 0) rfl) fa50_0) rfl rfl (lD (OL.loadO1 (t := (tI c.Sense)) (tv (T.op 0 0) rfl) rfl rfl st3) rfl rfl (VRunD.make rfl VWant.always rfl (OM.slice0 U48 zo95 (by kernel_rfl) rfl (by rw [sz95]; decide) sz95) (fD (OF.fieldAddrO (tv (T.op 0 0) rfl) fa50_1) rfl rfl (lD (OL.loadO1 (t := (rd 4 eStep c.Play)) (tv (T.op 0 1) rfl) rfl rfl st48) rfl rfl (VRunD.quiet (bi := [3, 4, 2]) rfl VWant.always rfl rfl rfl (bc (lb rfl) bn) (B.append (rows := []) (rows2 := (c.Play.map (eStep false))) (rows3 := (c.Play.map (eStep true))) (VDst.own (tv (T.os 4 2 0 0) rfl) rfl rfl) (VSrc.read (tv (rd 4 eStep c.Play) rfl) U48 (okeStep.okMap _ _)) nofun U48 sz95 (by decide) zo95 rfl (of_decide_eq_true (by kernel_rfl)) (by first | omega | (simp only [List.length_map]; omega) | (simp only [List.length_map, List.length_append, List.length_cons, List.length_nil, List.length_replicate, List.length_set, List.length_drop, List.length_take, lim] at *; omega)) (List.nil_append _)) ?_)))))))))))
  refine fD (OF.build (l := [(0, (tI c.Sense)), (1, (T.os 4 3 0 ((c.Play.map (eStep true)).length)))]) (zs := [(tN 0), T.nils]) (out := [(tI c.Sense), (T.os 4 3 0 ((c.Play.map (eStep true)).length))]) (VEvp.cons (i := 0) (tv (tI c.Sense) rfl) (VEvp.cons (i := 1) (tv (T.os 4 3 0 ((c.Play.map (eStep true)).length)) rfl) VEvp.nil)) (bc nofun (bc nofun bn)) Try.underlying50 zo50 (fun _ => RL.cons (.int _ _) (RL.cons (.nils) (RL.nil _))) (by kernel_rfl) (by kernel_rfl)) rfl rfl (VRunD.chain (bi := [1, 0, 5, 3, 4, 2, 6]) rfl VWant.always rfl rfl rfl (by kernel_rfl) (B.storeO (us := [(tI c.Sense), (T.os 4 3 0 ((c.Play.map (eStep true)).length))]) (ws := [(tI c.Sense), (T.os 4 3 0 ((c.Play.map (eStep true)).length))]) (tv (T.op 1 0) rfl) (tv (T.agg [(tI c.Sense), (T.os 4 3 0 ((c.Play.map (eStep true)).length))]) rfl) nofun rfl rfl (lb rfl) if50 sz50 (bc rfl (bc rfl bn)) rfl) (VRunD.nil (tn (rt ?_))))
  refine vfin.eq (r' := (T.agg [(tI c.Sense), (T.sl true 4 (c.Play.map (eStep true)))])) ?_ (vfin.r (VRes.celln (ws := [(tI c.Sense), (T.os 4 3 0 ((c.Play.map (eStep true)).length))]) rfl rfl st50 sz50 (lb rfl) rfl VRes.nil) (Give.agg (GiveL.cons (Give.int _ _) (GiveL.cons (Give.os rfl rfl (okeStep.cleanMap _)) GiveL.nil (by decide)) (by decide))))
  show (T.agg [(tI c.Sense), (T.sl true 4 (c.Play.map (eStep true)))]) = (T.agg (eClue true c))
  first | rfl | (exact decN (by omega)) | (symm; rw [decide_eq_false_iff_not]; omega) | (symm; rw [decide_eq_true_eq]; omega) | (simp_all; done)
theorem W_impl_copyClue (n : Nat) (c : D.Clue) (hz : zClue c ≤ mx) : Pure (acall Try.prog (n + 2)) 57 [(T.agg (eClue false c))] (T.agg (eClue true c)) := by
  refine Pure.intro (rs := [ResultVar.cell 2 50]) Try.func57 rfl rfl rfl (E0 := [(0, (T.agg (eClue false c)))]) rfl ?_
  obtain ⟨hlim, hmx, hmax⟩ := lims
  simp only [zClue] at hz
  have hl := zL_len (z := zStep) c.Play
  refine sr (kO (B.box (ts := (eClue false c)) (tv (T.agg (eClue false c)) rfl) nofun rfl) (kO (B.alloc (t := (T.agg [(tN 0), T.nils])) (ts := [(tN 0), T.nils]) zo50 zc50 nofun (fun _ => .agg _ _ rfl (RLof (RL.cons (.int _ _) (RL.cons (.nils) (RL.nil _))))) rfl) (nt (sq (VRun.draw (B := [[], [0], [], [2], [2, 3], [3, 2, 4, 0, 1], [1, 0, 4, 2, 3, 5]]) (by kernel_rfl) (by kernel_rfl) (fD (OF.fieldAddrO (tv (T.op 0 0) rfl) fa50_0) rfl rfl (lD (OL.loadO1 (t := (tI c.Sense)) (tv (T.op 0 0) rfl) rfl rfl st3) rfl rfl (fD (OF.fieldAddrO (tv (T.op 0 0) rfl) fa50_1) rfl rfl (lD (OL.loadO1 (t := (rd 4 eStep c.Play)) (tv (T.op 0 1) rfl) rfl rfl st48) rfl rfl (VRunD.quiet (bi := [2, 3]) rfl VWant.always rfl rfl rfl bn (OC.callF (us := [(rd 4 eStep c.Play)]) (r := (T.sl true 4 (c.Play.map (eStep true)))) (r' := (T.os 4 2 0 ((c.Play.map (eStep true)).length))) (objs := [(Obj.rows 4 (c.Play.map (eStep true)))]) rfl (vc (tv (rd 4 eStep c.Play) rfl) vn) (lps rfl) (W_slices_Clone_impl_Step_impl_Step_ (n + 0) c.Play (by first | assumption | omega)) rfl) (fD (OF.build (l := [(0, (tI c.Sense)), (1, (T.os 4 2 0 ((c.Play.map (eStep true)).length)))]) (zs := [(tN 0), T.nils]) (out := [(tI c.Sense), (T.os 4 2 0 ((c.Play.map (eStep true)).length))]) (VEvp.cons (i := 0) (tv (tI c.Sense) rfl) (VEvp.cons (i := 1) (tv (T.os 4 2 0 ((c.Play.map (eStep true)).length)) rfl) VEvp.nil)) (bc nofun (bc nofun bn)) Try.underlying50 zo50 (fun _ => RL.cons (.int _ _) (RL.cons (.nils) (RL.nil _))) (by kernel_rfl) (by kernel_rfl)) rfl rfl ?_)))))))))))
  refine VRunD.chain (bi := [1, 0, 4, 2, 3, 5]) rfl VWant.always rfl rfl rfl (by kernel_rfl) (B.storeO (us := [(tI c.Sense), (T.os 4 2 0 ((c.Play.map (eStep true)).length))]) (ws := [(tI c.Sense), (T.os 4 2 0 ((c.Play.map (eStep true)).length))]) (tv (T.op 1 0) rfl) (tv (T.agg [(tI c.Sense), (T.os 4 2 0 ((c.Play.map (eStep true)).length))]) rfl) nofun rfl rfl (lb rfl) if50 sz50 (bc rfl (bc rfl bn)) rfl) (VRunD.nil (tn (rt ?_)))
  refine vfin.eq (r' := (T.agg [(tI c.Sense), (T.sl true 4 (c.Play.map (eStep true)))])) ?_ (vfin.r (VRes.celln (ws := [(tI c.Sense), (T.os 4 2 0 ((c.Play.map (eStep true)).length))]) rfl rfl st50 sz50 (lb rfl) rfl VRes.nil) (Give.agg (GiveL.cons (Give.int _ _) (GiveL.cons (Give.os rfl rfl (okeStep.cleanMap _)) GiveL.nil (by decide)) (by decide))))
  show (T.agg [(tI c.Sense), (T.sl true 4 (c.Play.map (eStep true)))]) = (T.agg (eClue true c))
  first | rfl | (exact decN (by omega)) | (symm; rw [decide_eq_false_iff_not]; omega) | (symm; rw [decide_eq_true_eq]; omega) | (simp_all; done)
noncomputable section
theorem snoc_take {α : Type} {l : List α} {i : Nat} {x : α} (h : l[i]? = some x) : l.take i ++ [x] = l.take (i + 1) := by
  rw [List.take_add_one, h]; rfl
end
theorem W_spec_l21Clues (n : Nat) (l : List D.Clue) (hz : zL zClue l ≤ mx) : Pure (acall Try.prog (n + 2)) 85 [(rd 2 eClue l)] (T.sl true 2 (l.map (eClue true))) := by
  refine Pure.intro (rs := [ResultVar.tmp 2]) Try.func85 rfl rfl rfl (E0 := [(0, (rd 2 eClue l))]) rfl ?_
  obtain ⟨hlim, hmx, hmax⟩ := lims
  have hl := zL_len (z := zClue) l
  refine sr (fO (OF.assign VEv.nils) (nt (sr (kO (OM.slice0 U30 zo50 (by kernel_rfl) rfl (by rw [sz50]; decide) sz50) (aO (T.os 2 0 0 0) rfl (nt (sq (sr (fO (OF.assign (VEv.int .i64 0)) (nt (VRun.block ?_)))))))))))
  have he1 : [] = ((l.take 0).map (eClue true)) := by first | rfl | (exact snoc_take hx1) | (simp; done) | omega
  refine VRun.loop (A := Nat) (fun s_ => [(0, (rd 2 eClue l)), (2, T.nils), (3, (T.os 2 0 0 (((l.take s_).map (eClue true)).length))), (4, (tN s_))]) (fun s_ => mkO [(0, (Obj.rows 2 ((l.take s_).map (eClue true))))]) 1 (fun s_ => s_ ≤ l.length) (fun s_ => l.length - s_) (0 : Nat) ?_ (Wk.mk (fun k => k) ?_ ?_ ?_) ?_
  · first | trivial | (simp; done) | omega | (constructor <;> simp)
  · exact (b2 (b2 (bc ⟨(congrArg (fun n_ => T.os 2 0 0 n_) (show 0 = ((l.take 0).map (eClue true)).length from (by first | rfl | (simp only [List.length_map]; omega) | (simp only [List.length_map, List.length_set, List.length_append, List.length_take, List.length_replicate, List.length_cons, List.length_nil]; omega)))), rfl⟩ (b2 bn))))
  · exact (bc ⟨(congrArg (fun l_ => some (Obj.rows 2 l_)) he1), (lb rfl), rfl⟩ bn)
  · exact nd rfl
  rintro i (hI' : i ≤ l.length)
  show VRun _ _ _ [(0, (rd 2 eClue l)), (2, T.nils), (3, (T.os 2 0 0 (((l.take i).map (eClue true)).length))), (4, (tN i))] (mkO [(0, (Obj.rows 2 ((l.take i).map (eClue true))))]) 1 _
  have hI1 := hI'
  have htl := take_len_le l i
  refine sq (sr (mO (tN i) rfl (mO (rd 2 eClue l) rfl (lO (B.lenR (m := l.length) (tv (rd 2 eClue l) rfl) U30 (List.length_map ..)) (fO (xls' (tv (tN i) rfl) (tv (tN l.length) rfl)) (nt ?_))))))
  refine cd (i < l.length) rfl (fun fhc0 => ?_) fun fhc0 => ?_
  · refine sk ?_
    refine tn (sq (VRun.block (VRun.region (mO (T.os 2 0 0 (((l.take i).map (eClue true)).length)) rfl (mO (rd 2 eClue l) rfl (mO (tN i) rfl ?_))))))
    obtain ⟨x1, hx1⟩ : ∃ x, l[i]? = some x := ⟨_, List.getElem?_eq_getElem (by first | exact Nat.le_trans (zL_at hx1) hz | (rw [List.length_map, List.length_take]; simp only [List.length_cons, List.length_nil]; omega) | omega)⟩
    refine fO (OF.indexAddrR (row := (eClue false x1)) (i := i) (tv (rd 2 eClue l) rfl) (tv (tN i) rfl) rfl (map_at _ hx1) U30 sz50 if50) (lO (OL.loadRn (us := (eClue false x1)) (tv (T.rp (eClue false x1)) rfl) st50 sz50 (lb rfl) rfl) (cO (OC.callF (us := [(T.agg (eClue false x1))]) (r := (T.agg (eClue true x1))) (r' := (T.agg [(tI x1.Sense), (T.os 4 1 0 ((x1.Play.map (eStep true)).length))])) (objs := [(Obj.rows 4 (x1.Play.map (eStep true)))]) rfl (vc (tv (T.agg (eClue false x1)) rfl) vn) (LendL.cons (lg okeClue) ln) (W_spec_l18Copy (n + 0) x1 (by first | exact Nat.le_trans (zL_at hx1) hz | (rw [List.length_map, List.length_take]; simp only [List.length_cons, List.length_nil]; omega) | assumption | omega)) rfl) ?_))
    refine B.sliceB (t := (T.agg [(tI x1.Sense), (T.os 4 1 0 ((x1.Play.map (eStep true)).length))])) (us := [(tI x1.Sense), (T.os 4 1 0 ((x1.Play.map (eStep true)).length))]) (rows := [[(tI x1.Sense), (T.sl true 4 (x1.Play.map (eStep true)))]]) VWant.always (VEvp.cons (tv (T.agg [(tI x1.Sense), (T.os 4 1 0 ((x1.Play.map (eStep true)).length))]) rfl) VEvp.nil) nofun rfl (Bury.pl rfl (Bury.os rfl rfl Bury.nil (by decide))) rfl (bc rfl bn) rfl U30 zo50 (by kernel_rfl) rfl (by rw [sz50]; decide) sz50 (Nat.le_of_ble_eq_true rfl) ?_
    refine cO (B.append (rows := ((l.take i).map (eClue true))) (rows2 := [[(tI x1.Sense), (T.sl true 4 (x1.Play.map (eStep true)))]]) (rows3 := ((l.take i ++ [x1]).map (eClue true))) (VDst.own (tv (T.os 2 0 0 (((l.take i).map (eClue true)).length)) rfl) rfl rfl) (VSrc.own (tv (T.os 2 2 0 1) rfl) rfl rfl U30 (bc (bc rfl (bc rfl bn)) bn)) (by decide) U30 sz50 (by decide) zo50 rfl (of_decide_eq_true (by kernel_rfl)) (by first | exact Nat.le_trans (zL_at hx1) hz | (rw [List.length_map, List.length_take]; simp only [List.length_cons, List.length_nil]; omega) | omega | (simp only [List.length_map]; omega) | (simp only [List.length_map, List.length_append, List.length_cons, List.length_nil, List.length_replicate, List.length_set, List.length_drop, List.length_take, lim] at *; omega)) ((List.map_append (f := eClue true) (l₁ := l.take i) (l₂ := [x1])).symm)) (aO (T.os 2 3 0 (((l.take i ++ [x1]).map (eClue true)).length)) rfl (VRunO.nil (vinB.n (tn (VRun.region (mO (tN i) rfl (fO (xinc (tv (tN i) rfl) (VEv.int .i64 1) (by first | exact Nat.le_trans (zL_at hx1) hz | (rw [List.length_map, List.length_take]; simp only [List.length_cons, List.length_nil]; omega) | omega)) (aO (tN (i + 1)) rfl (VRunO.nil (tn ?_))))))))))
    have he2 : (l.take i ++ [x1]) = l.take (i + 1) := by first | rfl | (exact snoc_take hx1) | (simp; done) | omega
    refine ⟨(i + 1 : Nat), ?_, ?_, Wk.mk (fun k => if k = 0 then 3 else  k) ?_ ?_ ?_⟩
    · first | trivial | omega | (simp; done) | exact ⟨by omega, hI'.2⟩
    · first | omega | (simp only []; omega) | (show _ < _; omega) | (simp; omega)
    · exact (b2 (b2 (bc ⟨(congrArg (fun l_ => T.os 2 3 0 (List.map (eClue true) l_).length) he2), rfl⟩ (b2 bn))))
    · exact (bc ⟨(congrArg (fun l_ => some (Obj.rows 2 (List.map (eClue true) l_))) he2), (lb rfl), rfl⟩ bn)
    · exact nd rfl
  refine VRun.exit (vthn.e (vthn.e (vinB.e (tn (sr (mO (T.os 2 0 0 (((l.take i).map (eClue true)).length)) rfl (aO (T.os 2 0 0 (((l.take i).map (eClue true)).length)) rfl (nt (rt ?_)))))))))
  refine vfin.eq (r' := (T.sl true 2 ((l.take i).map (eClue true)))) ?_ (vfin.r (VRes.tmp (t := (T.os 2 0 0 (((l.take i).map (eClue true)).length))) rfl VRes.nil) (Give.os rfl rfl (okeClue.cleanMap _)))
  show (T.sl true 2 ((l.take i).map (eClue true))) = (T.sl true 2 (l.map (eClue true)))
  refine congrArg (fun l_ => T.sl true 2 (List.map (eClue true) l_)) ?_
  rw [take_all hI' fhc0]
theorem W_impl_copyClues (n : Nat) (l : List D.Clue) (hz : zL zClue l ≤ mx) : Pure (acall Try.prog (n + 3)) 87 [(rd 2 eClue l)] (T.sl true 2 (l.map (eClue true))) := by
  refine Pure.intro (rs := [ResultVar.tmp 2]) Try.func87 rfl rfl rfl (E0 := [(0, (rd 2 eClue l))]) rfl ?_
  obtain ⟨hlim, hmx, hmax⟩ := lims
  have hl := zL_len (z := zClue) l
  refine sr (fO (OF.assign VEv.nils) (nt (sr (fO (OF.assign VEv.nils) (nt (sq (sr (mO (rd 2 eClue l) rfl (lO (B.lenR (m := l.length) (tv (rd 2 eClue l) rfl) U30 (List.length_map ..)) (fO (OF.move (VEv.int .i64 0)) (nt ?_)))))))))))
  refine VRun.block (VRun.wk (Wk.phantom 3 2 rfl) ?_)
  have he1 : [] = ((l.take 0).map (eClue true)) := by first | rfl | (exact snoc_take hx1) | (simp; done) | omega
  refine VRun.loop (A := Nat) (fun s_ => [(2, T.nils), (3, (T.os 2 0 0 (((l.take s_).map (eClue true)).length))), (6, (rd 2 eClue l)), (7, (tN l.length)), (8, (tN s_))]) (fun s_ => mkO [(0, (Obj.rows 2 ((l.take s_).map (eClue true))))]) 1 (fun s_ => s_ ≤ l.length) (fun s_ => l.length - s_) (0 : Nat) ?_ (Wk.mk (fun k => k) ?_ ?_ ?_) ?_
  · first | trivial | (simp; done) | omega | (constructor <;> simp)
  · exact (b2 (bc ⟨(congrArg (fun n_ => T.os 2 0 0 n_) (show 0 = ((l.take 0).map (eClue true)).length from (by first | rfl | (simp only [List.length_map]; omega) | (simp only [List.length_map, List.length_set, List.length_append, List.length_take, List.length_replicate, List.length_cons, List.length_nil]; omega)))), rfl⟩ (b2 (b2 (b2 bn)))))
  · exact (bc ⟨(congrArg (fun l_ => some (Obj.rows 2 l_)) he1), (lb rfl), rfl⟩ bn)
  · exact nd rfl
  rintro i (hI' : i ≤ l.length)
  show VRun _ _ _ [(2, T.nils), (3, (T.os 2 0 0 (((l.take i).map (eClue true)).length))), (6, (rd 2 eClue l)), (7, (tN l.length)), (8, (tN i))] (mkO [(0, (Obj.rows 2 ((l.take i).map (eClue true))))]) 1 _
  have hI1 := hI'
  have htl := take_len_le l i
  refine sr (fO (xls' (tv (tN i) rfl) (tv (tN l.length) rfl)) (nt (sq ?_)))
  refine cd (i < l.length) rfl (fun fhc0 => ?_) fun fhc0 => ?_
  · refine sk ?_
    refine tn (sq (VRun.block (sr ?_)))
    obtain ⟨x1, hx1⟩ : ∃ x, l[i]? = some x := ⟨_, List.getElem?_eq_getElem (by first | exact Nat.le_trans (zL_at hx1) hz | (rw [List.length_map, List.length_take]; simp only [List.length_cons, List.length_nil]; omega) | omega)⟩
    refine fO (OF.indexAddrR (row := (eClue false x1)) (i := i) (tv (rd 2 eClue l) rfl) (tv (tN i) rfl) rfl (map_at _ hx1) U30 sz50 if50) (lO (OL.loadRn (us := (eClue false x1)) (tv (T.rp (eClue false x1)) rfl) st50 sz50 (lb rfl) rfl) (kO (B.alloc (t := (T.agg [(tN 0), T.nils])) (ts := [(tN 0), T.nils]) zo50 zc50 nofun (fun _ => .agg _ _ rfl (RLof (RL.cons (.int _ _) (RL.cons (.nils) (RL.nil _))))) rfl) (cO (B.storeO (us := (eClue false x1)) (ws := (eClue false x1)) (tv (T.op 1 0) rfl) (tv (T.agg (eClue false x1)) rfl) nofun rfl rfl (lb rfl) if50 sz50 (bc rfl (bc rfl bn)) rfl) (nt (VRun.region (mO (T.os 2 0 0 (((l.take i).map (eClue true)).length)) rfl (lO (OL.loadOn (us := (eClue false x1)) (tv (T.op 1 0) rfl) rfl st50 sz50 (lb rfl) rfl) (cO (OC.callF (us := [(T.agg (eClue false x1))]) (r := (T.agg (eClue true x1))) (r' := (T.agg [(tI x1.Sense), (T.os 4 2 0 ((x1.Play.map (eStep true)).length))])) (objs := [(Obj.rows 4 (x1.Play.map (eStep true)))]) rfl (vc (tv (T.agg (eClue false x1)) rfl) vn) (LendL.cons (lg okeClue) ln) (W_impl_copyClue (n + 0) x1 (by first | exact Nat.le_trans (zL_at hx1) hz | (rw [List.length_map, List.length_take]; simp only [List.length_cons, List.length_nil]; omega) | assumption | omega)) rfl) ?_))))))))
    refine B.sliceB (t := (T.agg [(tI x1.Sense), (T.os 4 2 0 ((x1.Play.map (eStep true)).length))])) (us := [(tI x1.Sense), (T.os 4 2 0 ((x1.Play.map (eStep true)).length))]) (rows := [[(tI x1.Sense), (T.sl true 4 (x1.Play.map (eStep true)))]]) VWant.always (VEvp.cons (tv (T.agg [(tI x1.Sense), (T.os 4 2 0 ((x1.Play.map (eStep true)).length))]) rfl) VEvp.nil) nofun rfl (Bury.pl rfl (Bury.os rfl rfl Bury.nil (by decide))) rfl (bc rfl bn) rfl U30 zo50 (by kernel_rfl) rfl (by rw [sz50]; decide) sz50 (Nat.le_of_ble_eq_true rfl) ?_
    refine cO (B.append (rows := ((l.take i).map (eClue true))) (rows2 := [[(tI x1.Sense), (T.sl true 4 (x1.Play.map (eStep true)))]]) (rows3 := ((l.take i ++ [x1]).map (eClue true))) (VDst.own (tv (T.os 2 0 0 (((l.take i).map (eClue true)).length)) rfl) rfl rfl) (VSrc.own (tv (T.os 2 3 0 1) rfl) rfl rfl U30 (bc (bc rfl (bc rfl bn)) bn)) (by decide) U30 sz50 (by decide) zo50 rfl (of_decide_eq_true (by kernel_rfl)) (by first | exact Nat.le_trans (zL_at hx1) hz | (rw [List.length_map, List.length_take]; simp only [List.length_cons, List.length_nil]; omega) | omega | (simp only [List.length_map]; omega) | (simp only [List.length_map, List.length_append, List.length_cons, List.length_nil, List.length_replicate, List.length_set, List.length_drop, List.length_take, lim] at *; omega)) ((List.map_append (f := eClue true) (l₁ := l.take i) (l₂ := [x1])).symm)) (aO (T.os 2 4 0 (((l.take i ++ [x1]).map (eClue true)).length)) rfl (VRunO.nil (vinB.n (tn (VRun.region (fO (xinc (tv (tN i) rfl) (VEv.int .i64 1) (by first | exact Nat.le_trans (zL_at hx1) hz | (rw [List.length_map, List.length_take]; simp only [List.length_cons, List.length_nil]; omega) | omega)) (mO (tN (i + 1)) rfl (VRunO.nil (tn ?_)))))))))
    have he2 : (l.take i ++ [x1]) = l.take (i + 1) := by first | rfl | (exact snoc_take hx1) | (simp; done) | omega
    refine ⟨(i + 1 : Nat), ?_, ?_, Wk.mk (fun k => if k = 0 then 4 else  k) ?_ ?_ ?_⟩
    · first | trivial | omega | (simp; done) | exact ⟨by omega, hI'.2⟩
    · first | omega | (simp only []; omega) | (show _ < _; omega) | (simp; omega)
    · exact (b2 (bc ⟨(congrArg (fun l_ => T.os 2 4 0 (List.map (eClue true) l_).length) he2), rfl⟩ (b2 (b2 (b2 bn)))))
    · exact (bc ⟨(congrArg (fun l_ => some (Obj.rows 2 (List.map (eClue true) l_))) he2), (lb rfl), rfl⟩ bn)
    · exact nd rfl
  refine VRun.exit (vthn.e (vthn.e (vinB.e (tn (sr (mO (T.os 2 0 0 (((l.take i).map (eClue true)).length)) rfl (aO (T.os 2 0 0 (((l.take i).map (eClue true)).length)) rfl (nt (rt ?_)))))))))
  refine vfin.eq (r' := (T.sl true 2 ((l.take i).map (eClue true)))) ?_ (vfin.r (VRes.tmp (t := (T.os 2 0 0 (((l.take i).map (eClue true)).length))) rfl VRes.nil) (Give.os rfl rfl (okeClue.cleanMap _)))
  show (T.sl true 2 ((l.take i).map (eClue true))) = (T.sl true 2 (l.map (eClue true)))
  refine congrArg (fun l_ => T.sl true 2 (List.map (eClue true) l_)) ?_
  rw [take_all hI' fhc0]
theorem W_spec_l27Copy (n : Nat) (a : D.Draft) (hz : zDraft a ≤ mx) : Pure (acall Try.prog (n + 3)) 52 [(T.agg (eDraft false a))] (T.agg (eDraft true a)) := by
  refine Pure.intro (rs := [ResultVar.cell 2 32]) Try.func52 rfl rfl rfl (E0 := [(0, (T.agg (eDraft false a)))]) rfl ?_
  obtain ⟨hlim, hmx, hmax⟩ := lims
  simp only [zDraft] at hz
  refine sr (kO (B.box (ts := (eDraft false a)) (tv (T.agg (eDraft false a)) rfl) nofun rfl) (kO (B.alloc (t := (T.agg [(tN 0), (tN 0), (tS ByteArray.empty), (tS ByteArray.empty), T.nils, (tN 0)])) (ts := [(tN 0), (tN 0), (tS ByteArray.empty), (tS ByteArray.empty), T.nils, (tN 0)]) zo32 zc32 nofun (fun _ => .agg _ _ rfl (RLof (RL.cons (.int _ _) (RL.cons (.int _ _) (RL.cons (.str _) (RL.cons (.str _) (RL.cons (.nils) (RL.cons (.int _ _) (RL.nil _))))))))) rfl) (nt (sr (lf (rd 2 eClue a.Clues) rfl fa32_2 rfl rfl st30 (cO (OC.callF (us := [(rd 2 eClue a.Clues)]) (r := (T.sl true 2 (a.Clues.map (eClue true)))) (r' := (T.os 2 2 0 ((a.Clues.map (eClue true)).length))) (objs := [(Obj.rows 2 (a.Clues.map (eClue true)))]) rfl (vc (tv (rd 2 eClue a.Clues) rfl) vn) (lps rfl) (W_spec_l21Clues (n + 0) a.Clues (by first | assumption | omega)) rfl) (fO (OF.fieldAddrO (tv (T.op 0 0) rfl) fa32_2) (cO (B.storeO (us := [(T.os 2 2 0 ((a.Clues.map (eClue true)).length))]) (ws := [(tI a.Grid.Rows), (tI a.Grid.Cols), (tS a.Grid.Cells), (tS a.Fill), (T.os 2 2 0 ((a.Clues.map (eClue true)).length)), (tI a.Version)]) (tv (T.op 0 4) rfl) (tv (T.os 2 2 0 ((a.Clues.map (eClue true)).length)) rfl) nofun rfl rfl (lb rfl) if30 sz30 (bc rfl bn) rfl) (nt (sr (lO (OL.loadOn (us := [(tI a.Grid.Rows), (tI a.Grid.Cols), (tS a.Grid.Cells), (tS a.Fill), (T.os 2 2 0 ((a.Clues.map (eClue true)).length)), (tI a.Version)]) (tv (T.op 0 0) rfl) rfl st32 sz32 (lb rfl) rfl) ?_)))))))))))
  refine cO (B.storeO (us := [(tI a.Grid.Rows), (tI a.Grid.Cols), (tS a.Grid.Cells), (tS a.Fill), (T.os 2 2 0 ((a.Clues.map (eClue true)).length)), (tI a.Version)]) (ws := [(tI a.Grid.Rows), (tI a.Grid.Cols), (tS a.Grid.Cells), (tS a.Fill), (T.os 2 2 0 ((a.Clues.map (eClue true)).length)), (tI a.Version)]) (tv (T.op 1 0) rfl) (tv (T.agg [(tI a.Grid.Rows), (tI a.Grid.Cols), (tS a.Grid.Cells), (tS a.Fill), (T.os 2 2 0 ((a.Clues.map (eClue true)).length)), (tI a.Version)]) rfl) nofun rfl rfl (lb rfl) if32 sz32 (bc rfl (bc rfl (bc rfl (bc rfl (bc rfl (bc rfl bn)))))) rfl) (nt (rt ?_))
  refine vfin.eq (r' := (T.agg [(tI a.Grid.Rows), (tI a.Grid.Cols), (tS a.Grid.Cells), (tS a.Fill), (T.sl true 2 (a.Clues.map (eClue true))), (tI a.Version)])) ?_ (vfin.r (VRes.celln (ws := [(tI a.Grid.Rows), (tI a.Grid.Cols), (tS a.Grid.Cells), (tS a.Fill), (T.os 2 2 0 ((a.Clues.map (eClue true)).length)), (tI a.Version)]) rfl rfl st32 sz32 (lb rfl) rfl VRes.nil) (Give.agg (GiveL.cons (Give.int _ _) (GiveL.cons (Give.int _ _) (GiveL.cons (Give.str _) (GiveL.cons (Give.str _) (GiveL.cons (Give.os rfl rfl (okeClue.cleanMap _)) (GiveL.cons (Give.int _ _) GiveL.nil (by decide)) (by decide)) (by decide)) (by decide)) (by decide)) (by decide))))
  show (T.agg [(tI a.Grid.Rows), (tI a.Grid.Cols), (tS a.Grid.Cells), (tS a.Fill), (T.sl true 2 (a.Clues.map (eClue true))), (tI a.Version)]) = (T.agg (eDraft true a))
  first | rfl | (exact decN (by omega)) | (symm; rw [decide_eq_false_iff_not]; omega) | (symm; rw [decide_eq_true_eq]; omega) | (simp_all; done)
theorem W_impl_copyDraft (n : Nat) (a : D.Draft) (hz : zDraft a ≤ mx) : Pure (acall Try.prog (n + 4)) 55 [(T.agg (eDraft false a))] (T.agg (eDraft true a)) := by
  refine Pure.intro (rs := [ResultVar.cell 2 32]) Try.func55 rfl rfl rfl (E0 := [(0, (T.agg (eDraft false a)))]) rfl ?_
  obtain ⟨hlim, hmx, hmax⟩ := lims
  simp only [zDraft] at hz
  refine sr (kO (B.box (ts := (eDraft false a)) (tv (T.agg (eDraft false a)) rfl) nofun rfl) (kO (B.alloc (t := (T.agg [(tN 0), (tN 0), (tS ByteArray.empty), (tS ByteArray.empty), T.nils, (tN 0)])) (ts := [(tN 0), (tN 0), (tS ByteArray.empty), (tS ByteArray.empty), T.nils, (tN 0)]) zo32 zc32 nofun (fun _ => .agg _ _ rfl (RLof (RL.cons (.int _ _) (RL.cons (.int _ _) (RL.cons (.str _) (RL.cons (.str _) (RL.cons (.nils) (RL.cons (.int _ _) (RL.nil _))))))))) rfl) (nt (sr (lf (rd 2 eClue a.Clues) rfl fa32_2 rfl rfl st30 (cO (OC.callF (us := [(rd 2 eClue a.Clues)]) (r := (T.sl true 2 (a.Clues.map (eClue true)))) (r' := (T.os 2 2 0 ((a.Clues.map (eClue true)).length))) (objs := [(Obj.rows 2 (a.Clues.map (eClue true)))]) rfl (vc (tv (rd 2 eClue a.Clues) rfl) vn) (lps rfl) (W_impl_copyClues (n + 0) a.Clues (by first | assumption | omega)) rfl) (fO (OF.fieldAddrO (tv (T.op 0 0) rfl) fa32_2) (cO (B.storeO (us := [(T.os 2 2 0 ((a.Clues.map (eClue true)).length))]) (ws := [(tI a.Grid.Rows), (tI a.Grid.Cols), (tS a.Grid.Cells), (tS a.Fill), (T.os 2 2 0 ((a.Clues.map (eClue true)).length)), (tI a.Version)]) (tv (T.op 0 4) rfl) (tv (T.os 2 2 0 ((a.Clues.map (eClue true)).length)) rfl) nofun rfl rfl (lb rfl) if30 sz30 (bc rfl bn) rfl) (nt (sr (lO (OL.loadOn (us := [(tI a.Grid.Rows), (tI a.Grid.Cols), (tS a.Grid.Cells), (tS a.Fill), (T.os 2 2 0 ((a.Clues.map (eClue true)).length)), (tI a.Version)]) (tv (T.op 0 0) rfl) rfl st32 sz32 (lb rfl) rfl) ?_)))))))))))
  refine cO (B.storeO (us := [(tI a.Grid.Rows), (tI a.Grid.Cols), (tS a.Grid.Cells), (tS a.Fill), (T.os 2 2 0 ((a.Clues.map (eClue true)).length)), (tI a.Version)]) (ws := [(tI a.Grid.Rows), (tI a.Grid.Cols), (tS a.Grid.Cells), (tS a.Fill), (T.os 2 2 0 ((a.Clues.map (eClue true)).length)), (tI a.Version)]) (tv (T.op 1 0) rfl) (tv (T.agg [(tI a.Grid.Rows), (tI a.Grid.Cols), (tS a.Grid.Cells), (tS a.Fill), (T.os 2 2 0 ((a.Clues.map (eClue true)).length)), (tI a.Version)]) rfl) nofun rfl rfl (lb rfl) if32 sz32 (bc rfl (bc rfl (bc rfl (bc rfl (bc rfl (bc rfl bn)))))) rfl) (nt (rt ?_))
  refine vfin.eq (r' := (T.agg [(tI a.Grid.Rows), (tI a.Grid.Cols), (tS a.Grid.Cells), (tS a.Fill), (T.sl true 2 (a.Clues.map (eClue true))), (tI a.Version)])) ?_ (vfin.r (VRes.celln (ws := [(tI a.Grid.Rows), (tI a.Grid.Cols), (tS a.Grid.Cells), (tS a.Fill), (T.os 2 2 0 ((a.Clues.map (eClue true)).length)), (tI a.Version)]) rfl rfl st32 sz32 (lb rfl) rfl VRes.nil) (Give.agg (GiveL.cons (Give.int _ _) (GiveL.cons (Give.int _ _) (GiveL.cons (Give.str _) (GiveL.cons (Give.str _) (GiveL.cons (Give.os rfl rfl (okeClue.cleanMap _)) (GiveL.cons (Give.int _ _) GiveL.nil (by decide)) (by decide)) (by decide)) (by decide)) (by decide)) (by decide))))
  show (T.agg [(tI a.Grid.Rows), (tI a.Grid.Cols), (tS a.Grid.Cells), (tS a.Fill), (T.sl true 2 (a.Clues.map (eClue true))), (tI a.Version)]) = (T.agg (eDraft true a))
  first | rfl | (exact decN (by omega)) | (symm; rw [decide_eq_false_iff_not]; omega) | (symm; rw [decide_eq_true_eq]; omega) | (simp_all; done)
end Go.Proofs.Ytjclbdgjkecbeaa.AE
