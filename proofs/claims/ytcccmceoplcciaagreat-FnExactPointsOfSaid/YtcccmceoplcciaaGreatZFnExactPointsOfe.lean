/- A part of what the row of FnExactPointsOf uses. Conditions: as each theorem states. -/
import Derived.Test.YtcccmceoplcciaaGreatZFnExactPointsOfd
namespace Go.Proofs.YtcccmceoplcciaaGreat.AE
open Go Go.RowKit
set_option linter.unusedVariables false
set_option linter.unusedSimpArgs false
set_option maxRecDepth 20000
set_option maxHeartbeats 2000000
noncomputable section
def on (s : List Bool) (j : Nat) : Bool := s[j]?.getD false
theorem on_lt {s : List Bool} {j : Nat} (h : on s j = true) : j < s.length := by
  rcases Nat.lt_or_ge j s.length with h1 | h1
  · exact h1
  · rw [on, List.getElem?_eq_none h1] at h; cases h
theorem on_set {s : List Bool} {i j : Nat} (hi : i < s.length) : on (s.set i true) j = (if j = i then true else on s j) := by
  unfold on
  rw [List.getElem?_set]
  by_cases h : i = j
  · subst h; simp [hi]
  · rw [if_neg h, if_neg (fun e => h e.symm)]
theorem on_ext {s t : List Bool} (hl : s.length = t.length) (h : ∀ j, on s j = true ↔ on t j = true) : s = t := by
  refine List.ext_getElem? fun j => ?_
  rcases Nat.lt_or_ge j s.length with h1 | h1
  · have h2 : j < t.length := by omega
    have h3 := h j
    unfold on at h3
    rw [List.getElem?_eq_getElem h1, List.getElem?_eq_getElem h2] at h3 ⊢
    simp only [Option.getD_some] at h3
    rw [Bool.eq_iff_iff.2 h3]
  · rw [List.getElem?_eq_none h1, List.getElem?_eq_none (by omega)]
theorem on_no {s : List Bool} {j : Nat} : on s j = false ↔ ¬ on s j = true := by cases on s j <;> simp
def wG (g : D.Grid) : Nat := g.Cols.toNat
def adj (g : D.Grid) (i j : Nat) : Prop := (j = i + 1 ∧ i % wG g + 1 < wG g) ∨ (i = j + 1 ∧ j % wG g + 1 < wG g) ∨ j = i + wG g ∨ i = j + wG g
inductive Rch (g : D.Grid) (s : List Bool) : Nat → Prop
  | base {j : Nat} (h : on s j = true) : Rch g s j
  | step {i j : Nat} (h : Rch g s i) (ha : adj g i j) (hj : j < s.length) (hw : bAt g.Cells j = 46) : Rch g s j
instance (g : D.Grid) (s : List Bool) (j : Nat) : Decidable (Rch g s j) := Classical.propDecidable _
def reachL (g : D.Grid) (s : List Bool) : List Bool := (List.range s.length).map fun j => decide (Rch g s j)
theorem Rch.lt {g : D.Grid} {s : List Bool} {j : Nat} (h : Rch g s j) : j < s.length := by
  cases h with
  | base h => exact on_lt h
  | step _ _ hj _ => exact hj
theorem reachL_len (g : D.Grid) (s : List Bool) : (reachL g s).length = s.length := by simp [reachL]
theorem on_reachL {g : D.Grid} {s : List Bool} {j : Nat} : on (reachL g s) j = true ↔ Rch g s j := by
  unfold on reachL
  rw [List.getElem?_map]
  rcases Nat.lt_or_ge j s.length with h1 | h1
  · rw [List.getElem?_eq_getElem (by simpa using h1), List.getElem_range]
    simp
  · rw [List.getElem?_eq_none (by simpa using h1)]
    simp only [Option.map_none, Option.getD_none, Bool.false_eq_true, false_iff]
    intro h
    have := h.lt
    omega
def nearN (g : D.Grid) (s : List Bool) (i : Nat) : Prop := ∃ j, adj g j i ∧ on s j = true
theorem mod_pred {i w : Nat} (h : 0 < i % w) (hw : i % w < w) : (i - 1) % w + 1 = i % w ∧ 1 ≤ i := by
  have h1 : i % w ≤ i := Nat.mod_le _ _
  have h2 := Nat.div_add_mod i w
  refine ⟨?_, by omega⟩
  have e : i - 1 = (i % w - 1) + w * (i / w) := by omega
  rw [e, Nat.add_mul_mod_self_left, Nat.mod_eq_of_lt (by omega)]
  omega
theorem mod_succ {i w : Nat} (h : i % w + 1 < w) : (i + 1) % w = i % w + 1 := by
  have h2 := Nat.div_add_mod i w
  have e : i + 1 = (i % w + 1) + w * (i / w) := by omega
  rw [e, Nat.add_mul_mod_self_left, Nat.mod_eq_of_lt h]
theorem near_iff {g : D.Grid} {s : List Bool} {i : Nat} (hw : 2 ≤ g.Cols) (hl : i < s.length) :
    ((((0 < i % g.Cols.toNat ∧ on s (i - 1) = true) ∨ (((i % g.Cols.toNat + 1 : Nat) : Int) < g.Cols ∧ on s (i + 1) = true)) ∨ (g.Cols ≤ ((i : Nat) : Int) ∧ on s (i - g.Cols.toNat) = true)) ∨ (i + g.Cols.toNat < s.length ∧ on s (i + g.Cols.toNat) = true)) ↔ nearN g s i := by
  have hm : i % g.Cols.toNat < g.Cols.toNat := Nat.mod_lt _ (by omega)
  constructor
  · rintro (((⟨h1, h2⟩ | ⟨h1, h2⟩) | ⟨h1, h2⟩) | ⟨h1, h2⟩)
    · obtain ⟨h3, h4⟩ := mod_pred h1 hm
      exact ⟨i - 1, .inl ⟨by omega, by unfold wG; omega⟩, h2⟩
    · exact ⟨i + 1, .inr (.inl ⟨rfl, by unfold wG; omega⟩), h2⟩
    · exact ⟨i - g.Cols.toNat, .inr (.inr (.inl (by unfold wG; omega))), h2⟩
    · exact ⟨i + g.Cols.toNat, .inr (.inr (.inr (by unfold wG; omega))), h2⟩
  · rintro ⟨j, (⟨h1, h2⟩ | ⟨h1, h2⟩ | h1 | h1), h3⟩
    · refine .inl (.inl (.inl ⟨?_, by rw [show i - 1 = j by omega]; exact h3⟩))
      unfold wG at h2
      rw [h1, mod_succ h2]; omega
    · refine .inl (.inl (.inr ⟨by unfold wG at h2; omega, by rw [← h1]; exact h3⟩))
    · unfold wG at h1
      refine .inl (.inr ⟨by omega, by rw [show i - g.Cols.toNat = j by omega]; exact h3⟩)
    · unfold wG at h1
      have := on_lt h3
      exact .inr ⟨by omega, by rw [← h1]; exact h3⟩
def RS (g : D.Grid) (s0 s : List Bool) : Prop := s.length = s0.length ∧ (∀ j, on s0 j = true → on s j = true) ∧ ∀ j, on s j = true → Rch g s0 j
theorem RS.start (g : D.Grid) (s : List Bool) : RS g s s := ⟨rfl, fun _ h => h, fun _ h => .base h⟩
theorem RS.put {g : D.Grid} {s0 s : List Bool} {i : Nat} (h : RS g s0 s) (hi : i < s.length) (hw : bAt g.Cells i = 46) (hn : nearN g s i) : RS g s0 (s.set i true) := by
  obtain ⟨h1, h2, h3⟩ := h
  refine ⟨by simpa using h1, fun j hj => ?_, fun j hj => ?_⟩
  · rw [on_set hi]; split
    · rfl
    · exact h2 j hj
  · rw [on_set hi] at hj
    split at hj
    · rename_i e
      subst e
      obtain ⟨k, hk, hk2⟩ := hn
      exact .step (h3 k hk2) hk (by omega) hw
    · exact h3 j hj
def want (g : D.Grid) (s : List Bool) (i : Nat) : Prop := bAt g.Cells i = 46 ∧ on s i = false ∧ nearN g s i
instance (g : D.Grid) (s : List Bool) (i : Nat) : Decidable (want g s i) := Classical.propDecidable _
def growR (g : D.Grid) (s : List Bool) (i : Nat) : List Bool := if want g s i then s.set i true else s
def growA (g : D.Grid) (ag : Bool) (s : List Bool) (i : Nat) : Bool := if want g s i then true else ag
theorem grow_yes {g : D.Grid} {s : List Bool} {ag : Bool} {i : Nat} (h : want g s i) : s.set i true = growR g s i ∧ true = growA g ag s i := ⟨(if_pos h).symm, (if_pos h).symm⟩
theorem grow_no {g : D.Grid} {s : List Bool} {ag : Bool} {i : Nat} (h : ¬ want g s i) : s = growR g s i ∧ ag = growA g ag s i := ⟨(if_neg h).symm, (if_neg h).symm⟩
def Inv1 (g : D.Grid) (s0 s : List Bool) (i : Nat) (s1 : List Bool) (ag : Bool) : Prop := i ≤ s0.length ∧ RS g s0 s1 ∧ (ag = false → s1 = s ∧ ∀ j, j < i → ¬ want g s j) ∧ (ag = true → s1.count false < s.count false) ∧ s1.count false ≤ s.count false
theorem Inv1.start {g : D.Grid} {s0 s : List Bool} (h : RS g s0 s) : Inv1 g s0 s 0 s false := ⟨Nat.zero_le _, h, fun _ => ⟨rfl, fun j hj => by omega⟩, (fun h => by cases h), Nat.le_refl _⟩
theorem count_put {s : List Bool} {i : Nat} (hi : i < s.length) (h : on s i = false) : (s.set i true).count false + 1 = s.count false := by
  have h2 : s[i] = false := by
    unfold on at h
    rw [List.getElem?_eq_getElem hi] at h
    exact h
  have h3 : 0 < s.count false := List.count_pos_iff.2 (h2 ▸ List.getElem_mem hi)
  rw [List.count_set hi]
  simp [h2]
  omega
theorem Inv1.next {g : D.Grid} {s0 s s1 : List Bool} {i : Nat} {ag : Bool} (h : Inv1 g s0 s i s1 ag) (hi : i < s1.length) : Inv1 g s0 s (i + 1) (growR g s1 i) (growA g ag s1 i) := by
  obtain ⟨h1, h2, h3, h4, h5⟩ := h
  have hl := h2.1
  unfold growR growA
  by_cases hw : want g s1 i
  · rw [if_pos hw, if_pos hw]
    have hc := count_put hi hw.2.1
    exact ⟨by omega, h2.put hi hw.1 hw.2.2, (fun e => by cases e), (fun _ => by omega), by omega⟩
  · rw [if_neg hw, if_neg hw]
    refine ⟨by omega, h2, fun e => ?_, h4, h5⟩
    obtain ⟨h6, h7⟩ := h3 e
    subst h6
    refine ⟨rfl, fun j hj => ?_⟩
    rcases Nat.lt_or_ge j i with g1 | g1
    · exact h7 j g1
    · obtain rfl : j = i := by omega
      exact hw
def Inv0 (g : D.Grid) (s0 s : List Bool) (ag : Bool) : Prop := RS g s0 s ∧ (ag = false → ∀ j, j < s0.length → ¬ want g s j)
theorem Inv1.done {g : D.Grid} {s0 s s1 : List Bool} {i : Nat} {ag : Bool} (h : Inv1 g s0 s i s1 ag) (hi : ¬ i < s1.length) : Inv0 g s0 s1 ag := by
  obtain ⟨h1, h2, h3, h4, h5⟩ := h
  have hl := h2.1
  refine ⟨h2, fun e j hj => ?_⟩
  obtain ⟨h6, h7⟩ := h3 e
  rw [h6]
  exact h7 j (by omega)
theorem Inv1.dec {g : D.Grid} {s0 s s1 : List Bool} {i : Nat} {ag ag0 : Bool} (h : Inv1 g s0 s i s1 ag) (h0 : ag0 = true) : s1.count false + (if ag = true then 1 else 0) < s.count false + (if ag0 = true then 1 else 0) := by
  obtain ⟨h1, h2, h3, h4, h5⟩ := h
  rw [if_pos h0]
  split
  · rename_i e
    have := h4 e
    omega
  · omega
theorem Inv0.done {g : D.Grid} {s0 s : List Bool} {ag : Bool} (h : Inv0 g s0 s ag) (ha : ¬ ag = true) : s = reachL g s0 := by
  obtain ⟨⟨h1, h2, h3⟩, h4⟩ := h
  refine on_ext (by rw [reachL_len, h1]) fun j => ?_
  rw [on_reachL]
  refine ⟨h3 j, fun hj => ?_⟩
  have h5 := h4 (by cases ag <;> simp_all)
  induction hj with
  | base h => exact h2 _ h
  | step h ha hj hw ih =>
    rename_i i k
    cases hk : on s k with
    | true => rfl
    | false => exact absurd ⟨hw, hk, i, ha, ih⟩ (h5 k hj)
end
theorem W_spec_l10Reach (n : Nat) (g : D.Grid) (seen : List Bool) (cell : Nat) (hg : gridOk g) (hc : cell < seen.length) (hs : seen.length = g.Cells.size) : Loan (acall Tryz.prog (n + 1)) 182 1 (List.map (eBool true) seen) [(T.agg (eGrid false g)), (T.os 1 0 0 ((seen.map (eBool true)).length)), (tN cell)] (T.os 1 0 0 (List.map (eBool true) (reachL g (seen.set cell true))).length) (List.map (eBool true) (reachL g (seen.set cell true))) := by
  refine Loan.intro (rs := [ResultVar.tmp 6]) (j := 1) (pin := (T.os 1 0 0 ((seen.map (eBool true)).length))) Tryz.func182 rfl rfl rfl (by kernel_rfl) rfl (.os _ _) (.os _ _) (scMap (fun _ => rfl) _) (scMap (fun _ => rfl) _) (E0 := [(0, (T.agg (eGrid false g))), (1, (T.os 1 0 0 ((seen.map (eBool true)).length))), (2, (tN cell))]) rfl ?_
  obtain ⟨hlim, hmx, hmax⟩ := lims
  have hsz := hg.size
  have hA := hg.1
  have hB := hg.2.1
  refine sr (kO (B.box (ts := (eGrid false g)) (tv (T.agg (eGrid false g)) rfl) nofun rfl) (fO (OF.assign VEv.nils) (nt (sr (mO (T.os 1 0 0 ((seen.map (eBool true)).length)) rfl (mO (tN cell) rfl ?_))))))
  obtain ⟨x1, hx1⟩ : ∃ x, seen[cell]? = some x := ⟨_, List.getElem?_eq_getElem (by omega)⟩
  skip
  refine fO (B.indexAddrO (i := cell) (tv (T.os 1 0 0 ((seen.map (eBool true)).length)) rfl) (tv (tN cell) rfl) rfl (by (simp only [List.length_map]; omega)) U176 sz4 if4) (cO (B.storeP (us := [(tB true)]) (rows' := ((seen.set cell true).map (eBool true))) (row := (eBool true x1)) (tv (T.orp 1 0 cell 0) rfl) (VEv.bool true) nofun rfl (map_at _ hx1) rfl (lb rfl) if4 sz4 (bc rfl bn) (by intro r hr t ht; obtain ⟨x, _, rfl⟩ := List.mem_map.1 hr; rw [flBool] at ht; exact isPl_flat (okBool.pl _ t ht)) (set_mapE rfl)) (nt (sq (sr (fO (OF.assign (VEv.bool true)) (nt (VRun.block ?_)))))))
  refine VRun.loop (A := Bool × (List Bool)) (fun s_ => [(1, (T.os 1 1 0 ((s_.2.map (eBool true)).length))), (3, (T.op 0 0)), (6, T.nils), (7, (tB s_.1))]) (fun s_ => mkO [(0, (Obj.cells (eGrid false g))), (1, (Obj.rows 1 (s_.2.map (eBool true))))]) 2 (fun s_ => Inv0 g (seen.set cell true) s_.2 s_.1) (fun s_ => s_.2.count false + (if s_.1 = true then 1 else 0)) ((true, seen.set cell true) : Bool × (List Bool)) ?_ (Wk.mk (fun k => if k = 0 then 1 else if k = 1 then 0 else  k) ?_ ?_ ?_) ?_
  · exact ⟨RS.start _ _, fun h => by cases h⟩
  · exact (bc ⟨(congrArg (fun n_ => T.os 1 0 0 n_) (show (seen.map (eBool true)).length = ((seen.set cell true).map (eBool true)).length from (by (simp; done)))), rfl⟩ (b2 (b2 (b2 bn))))
  · exact (b3 (b3 bn))
  · exact nd rfl
  rintro ⟨ag, s⟩ (hI' : Inv0 g (seen.set cell true) s ag)
  show VRun _ _ _ [(1, (T.os 1 1 0 ((s.map (eBool true)).length))), (3, (T.op 0 0)), (6, T.nils), (7, (tB ag))] (mkO [(0, (Obj.cells (eGrid false g))), (1, (Obj.rows 1 (s.map (eBool true))))]) 2 _
  have hI1 := hI'
  have hl0 : s.length = g.Cells.size := by have := hI'.1.1; rw [List.length_set] at this; omega
  refine sq (sr (mO (tB ag) rfl (nt ?_)))
  refine VRun.cond (tv (tB ag) rfl) (fun hc0 => ?_) (fun hc0 => ?_)
  · have fhc0 : ag = true := hc0
    refine sk (tn (VRun.block (sr (fO (OF.assign (VEv.bool false)) (nt (sr (fO (OF.assign (VEv.int .i64 0)) (nt (VRun.block ?_)))))))))
    refine VRun.loop (A := Nat × (List Bool) × Bool) (fun s_ => [(1, (T.os 1 1 0 ((s_.2.1.map (eBool true)).length))), (3, (T.op 0 0)), (6, T.nils), (7, (tB s_.2.2)), (8, (tN s_.1))]) (fun s_ => mkO [(0, (Obj.cells (eGrid false g))), (1, (Obj.rows 1 (s_.2.1.map (eBool true))))]) 2 (fun s_ => Inv1 g (seen.set cell true) s s_.1 s_.2.1 s_.2.2) (fun s_ => s_.2.1.length - s_.1) ((0, s, false) : Nat × (List Bool) × Bool) ?_ (Wk.mk (fun k => k) ?_ ?_ ?_) ?_
    · exact Inv1.start hI1.1
    · exact (b2 (b2 (b2 (b2 (b2 bn)))))
    · exact (b3 (b3 bn))
    · exact nd rfl
    rintro ⟨i, s1, ag1⟩ (hI' : Inv1 g (seen.set cell true) s i s1 ag1)
    show VRun _ _ _ [(1, (T.os 1 1 0 ((s1.map (eBool true)).length))), (3, (T.op 0 0)), (6, T.nils), (7, (tB ag1)), (8, (tN i))] (mkO [(0, (Obj.cells (eGrid false g))), (1, (Obj.rows 1 (s1.map (eBool true))))]) 2 _
    have hJ1 := hI'.1
    have hl1 : s1.length = g.Cells.size := by have := hI'.2.1.1; rw [List.length_set] at this; omega
    refine sq (sr (mO (tN i) rfl (mO (T.os 1 1 0 ((s1.map (eBool true)).length)) rfl (lO (B.lenO (m := s1.length) (tv (T.os 1 1 0 ((s1.map (eBool true)).length)) rfl) U176 (List.length_map ..)) (fO (xls' (tv (tN i) rfl) (tv (tN s1.length) rfl)) (nt ?_))))))
    refine cd (i < s1.length) rfl (fun fhc1 => ?_) fun fhc1 => ?_
    · refine sk ?_
      refine tn (sq (VRun.block (sq (sr (mO (T.os 1 1 0 ((s1.map (eBool true)).length)) rfl (mO (tN i) rfl ?_))))))
      obtain ⟨x2, hx2⟩ : ∃ x, s1[i]? = some x := ⟨_, List.getElem?_eq_getElem (by omega)⟩
      (have e2 : on s1 i = x2 := by rw [on, hx2]; rfl)
      refine fO (B.indexAddrO (i := i) (tv (T.os 1 1 0 ((s1.map (eBool true)).length)) rfl) (tv (tN i) rfl) rfl (by (simp only [List.length_map]; omega)) U176 sz4 if4) (lO (OL.loadP1 (t := (tB x2)) (row := (eBool true x2)) (tv (T.orp 1 1 i 0) rfl) rfl (map_at _ hx2) rfl rfl st4) (mO (tB x2) rfl ?_))
      refine VRunO.joinB 6 [26, 27, 28, 29, 30] 31 (tB (decide ((x2 = true) ∨ (¬ (bAt g.Cells i = 46))))) ?_ ?_
      · refine bool_way x2 (fun hg25_1 => ?_) (fun hg25_1 => ?_)
        · have fhg25_1 : x2 = true := hg25_1
          refine offs 5 4 false 25 hg25_1 rfl rfl rfl (fO (OF.pickT (VEv.tmpB rfl hg25_1) (VEv.bool true)) (VRunO.nil ?_))
          exact jq (congrArg T.bool (jOT (dT _) hg25_1)) (js rfl (js rfl (js rfl (js rfl (js rfl (jn))))))
        · have fhg25_1 : x2 = false := hg25_1
          refine glf (tS g.Cells) hg25_1 rfl rfl rfl rfl fa34_2 rfl rfl st9 (gF hg25_1 rfl rfl (OF.move (tv (tN i) rfl)) ?_)
          have hb2 : i < g.Cells.size := (by omega)
          refine gF hg25_1 rfl rfl (xix (tv (tS g.Cells) rfl) (tv (tN i) rfl) hb2 U9) (gF hg25_1 rfl rfl (xne (tv (T.int .u8 (bAt g.Cells i)) rfl) (VEv.int .u8 46)) (fO (OF.pickF (VEv.tmpB rfl hg25_1) (tv (tB (!(decide (bAt g.Cells i = 46)))) rfl)) (VRunO.nil ?_)))
          exact jq (congrArg T.bool (jOF (dT _) hg25_1 dN)) (js rfl (js rfl (js rfl (js rfl (js rfl (jn))))))
      refine nt ?_
      refine cd ((x2 = true) ∨ (¬ (bAt g.Cells i = 46))) rfl (fun fhc2 => ?_) fun fhc2 => ?_
      · have q1 := grow_no (g := g) (s := s1) (ag := ag1) (i := i) (by rintro ⟨h1, h2, h3⟩; rw [e2] at h2; rcases fhc2 with h4 | h4; rw [h2] at h4; cases h4; exact h4 h1)
        refine VRun.exit (vthn.e (vinB.e (tn (VRun.region (mO (tN i) rfl (fO (xinc (tv (tN i) rfl) (VEv.int .i64 1) (by omega)) (aO (tN (i + 1)) rfl (VRunO.nil (tn ?_)))))))))
        have he3 : s1 = (growR g s1 i) := by exact q1.1
        refine ⟨((i + 1, growR g s1 i, growA g ag1 s1 i) : Nat × (List Bool) × Bool), ?_, ?_, Wk.mk (fun k => k) ?_ ?_ ?_⟩
        · exact hI'.next fhc1
        · show (growR g s1 i).length - (i + 1) < s1.length - i
          have e1 : (growR g s1 i).length = s1.length := by unfold growR; split <;> simp
          rw [e1]; omega
        · exact (bc ⟨(congrArg (fun l_ => T.os 1 1 0 (List.map (eBool true) l_).length) he3), rfl⟩ (b2 (b2 (bc ⟨(congrArg T.bool (show ag1 = (growA g ag1 s1 i) from (by exact q1.2))), rfl⟩ (b2 bn)))))
        · exact (b3 (bc ⟨(congrArg (fun l_ => some (Obj.rows 1 (List.map (eBool true) l_))) he3), (lb rfl), rfl⟩ bn))
        · exact nd rfl
      refine sk (tn ?_)
      have hci := cell_at hg (show i < g.Cells.size by omega)
      obtain ⟨m, hm⟩ : ∃ m, m = i % g.Cols.toNat := ⟨_, rfl⟩
      have hq1 : 0 < m → 1 ≤ i := by rw [hm]; exact hci.2.1
      have hm6 : m < g.Cols.toNat := by rw [hm]; exact hci.1.1
      have hq4 : ((m + 1 : Nat) : Int) < g.Cols → i + 1 < g.Cells.size := by rw [hm]; exact hci.2.2.2.1 1
      clear hci
      refine sr (mO (tN i) rfl (lf (tI g.Cols) rfl fa34_1 rfl rfl st3 (fO (B.rem (n := ((m : Nat) : Int)) (tv (tN i) rfl) (tv (tI g.Cols) rfl) (by omega) (by (rw [hm]; refine remN ?_; omega))) (aO (tN m) rfl (nt (sr (mO (tN m) rfl (fO (B.gtr (c := (decide (0 < m))) (tv (tN m) rfl) (VEv.int .i64 0) (by exact decN (by omega))) (mO (tB (decide (0 < m))) rfl ?_)))))))))
      refine VRunO.joinB 6 [39, 40, 41, 42, 43] 44 (tB (decide ((0 < m) ∧ ((s1[i - 1]?.getD false) = true)))) ?_ ?_
      · refine gw (0 < m) (fun fhg38_4 => ?_) fun fhg38_4 => ?_
        · refine gF (dy fhg38_4) rfl rfl (OF.move (tv (T.os 1 1 0 ((s1.map (eBool true)).length)) rfl)) ?_
          refine gF (dy fhg38_4) rfl rfl (OF.move (tv (tN i) rfl)) (gF (dy fhg38_4) rfl rfl (B.sub (n := ((i - 1 : Nat) : Int)) (tv (tN i) rfl) (VEv.int .i64 1) (by (rw [wrap64 (by omega)]; omega))) ?_)
          have hy5 : s1[i - 1]? = some (s1[i - 1]?.getD false) := getD_at false (by omega)
          refine gF (dy fhg38_4) rfl rfl (B.indexAddrO (i := i - 1) (tv (T.os 1 1 0 ((s1.map (eBool true)).length)) rfl) (tv (tN (i - 1)) rfl) rfl (by (simp only [List.length_map]; omega)) U176 sz4 if4) (gL (dy fhg38_4) rfl rfl (OL.loadP1 (t := (tB (s1[i - 1]?.getD false))) (row := (eBool true (s1[i - 1]?.getD false))) (tv (T.orp 1 1 (i - 1) 0) rfl) rfl (map_at _ hy5) rfl rfl st4) (fO (OF.pickT (VEv.tmpB rfl (dy fhg38_4)) (tv (tB (s1[i - 1]?.getD false)) rfl)) (VRunO.nil ?_)))
          exact jq (congrArg T.bool (kAT fhg38_4 (dT _))) (js rfl (js rfl (js rfl (js rfl (js rfl (jn))))))
        · refine offs 5 2 true 38 (dz fhg38_4) rfl rfl rfl ?_
          refine fO (OF.pickF (VEv.tmpB rfl (dz fhg38_4)) (VEv.bool false)) (VRunO.nil ?_)
          exact jq (congrArg T.bool (kAF fhg38_4)) (js rfl (js rfl (js rfl (js rfl (js rfl (jn))))))
      refine mO (tB (decide ((0 < m) ∧ ((s1[i - 1]?.getD false) = true)))) rfl ?_
      refine VRunO.joinB 13 [46, 47, 48, 49, 50, 51, 52, 53, 54, 55, 56, 57] 58 (tB (decide (((0 < m) ∧ ((s1[i - 1]?.getD false) = true)) ∨ (((((m + 1) : Nat) : Int) < g.Cols) ∧ ((s1[(i + 1)]?.getD false) = true))))) ?_ ?_
      · refine gw ((0 < m) ∧ ((s1[i - 1]?.getD false) = true)) (fun fhg45_6 => ?_) fun fhg45_6 => ?_
        · refine offs 6 9 false 45 (dy fhg45_6) rfl rfl rfl ?_
          refine offu 5 15 true 51 rfl rfl rfl (oO rfl rfl (dy fhg45_6) (fO (OF.pickT (VEv.tmpB rfl (dy fhg45_6)) (VEv.bool true)) (VRunO.nil ?_)))
          exact jq (congrArg T.bool (kOT fhg45_6)) (js rfl (js rfl (js rfl (js rfl (js rfl (js rfl (js rfl (js rfl (js rfl (js rfl (js rfl (js rfl (jn)))))))))))))
        · refine gF (dz fhg45_6) rfl rfl (OF.move (tv (tN m) rfl)) ?_
          refine gF (dz fhg45_6) rfl rfl (xinc (tv (tN m) rfl) (VEv.int .i64 1) (by omega)) (glf (tI g.Cols) (dz fhg45_6) rfl rfl rfl rfl fa34_1 rfl rfl st3 (gF (dz fhg45_6) rfl rfl (xls (tv (tN (m + 1)) rfl) (tv (tI g.Cols) rfl)) (gF (dz fhg45_6) rfl rfl (OF.move (tv (tB (decide ((((m + 1) : Nat) : Int) < g.Cols))) rfl)) ?_)))
          refine VRunO.joinB 6 [52, 53, 54, 55, 56] 57 (tB (decide (((((m + 1) : Nat) : Int) < g.Cols) ∧ ((s1[(i + 1)]?.getD false) = true)))) ?_ ?_
          · refine gw ((((m + 1) : Nat) : Int) < g.Cols) (fun fhg51_7 => ?_) fun fhg51_7 => ?_
            · refine gF (dy fhg51_7) rfl rfl (OF.move (tv (T.os 1 1 0 ((s1.map (eBool true)).length)) rfl)) ?_
              refine gF (dy fhg51_7) rfl rfl (OF.move (tv (tN i) rfl)) (gF (dy fhg51_7) rfl rfl (xinc (tv (tN i) rfl) (VEv.int .i64 1) (by omega)) ?_)
              have hy8 : s1[(i + 1)]? = some (s1[(i + 1)]?.getD false) := getD_at false (by omega)
              refine gF (dy fhg51_7) rfl rfl (B.indexAddrO (i := (i + 1)) (tv (T.os 1 1 0 ((s1.map (eBool true)).length)) rfl) (tv (tN (i + 1)) rfl) rfl (by (simp only [List.length_map]; omega)) U176 sz4 if4) (gL (dy fhg51_7) rfl rfl (OL.loadP1 (t := (tB (s1[(i + 1)]?.getD false))) (row := (eBool true (s1[(i + 1)]?.getD false))) (tv (T.orp 1 1 (i + 1) 0) rfl) rfl (map_at _ hy8) rfl rfl st4) (gF (dz fhg45_6) rfl rfl (OF.pickT (VEv.tmpB rfl (dy fhg51_7)) (tv (tB (s1[(i + 1)]?.getD false)) rfl)) (VRunO.nil ?_)))
              exact jq (congrArg T.bool (kAT fhg51_7 (dT _))) (js rfl (js rfl (js rfl (js rfl (js rfl (jn))))))
            · refine offs 5 15 true 51 (dz fhg51_7) rfl rfl rfl ?_
              refine gF (dz fhg45_6) rfl rfl (OF.pickF (VEv.tmpB rfl (dz fhg51_7)) (VEv.bool false)) (VRunO.nil ?_)
              exact jq (congrArg T.bool (kAF fhg51_7)) (js rfl (js rfl (js rfl (js rfl (js rfl (jn))))))
          refine fO (OF.pickF (VEv.tmpB rfl (dz fhg45_6)) (tv (tB (decide (((((m + 1) : Nat) : Int) < g.Cols) ∧ ((s1[(i + 1)]?.getD false) = true)))) rfl)) (VRunO.nil ?_)
          exact jq (congrArg T.bool (kOF fhg45_6 rfl)) (js rfl (js rfl (js rfl (js rfl (js rfl (js rfl (js rfl (js rfl (js rfl (js rfl (js rfl (js rfl (jn)))))))))))))
      refine mO (tB (decide (((0 < m) ∧ ((s1[i - 1]?.getD false) = true)) ∨ (((((m + 1) : Nat) : Int) < g.Cols) ∧ ((s1[(i + 1)]?.getD false) = true))))) rfl ?_
      refine VRunO.joinB 14 [60, 61, 62, 63, 64, 65, 66, 67, 68, 69, 70, 71, 72] 73 (tB (decide ((((0 < m) ∧ ((s1[i - 1]?.getD false) = true)) ∨ (((((m + 1) : Nat) : Int) < g.Cols) ∧ ((s1[(i + 1)]?.getD false) = true))) ∨ ((g.Cols ≤ ((i : Nat) : Int)) ∧ ((s1[i - g.Cols.toNat]?.getD false) = true))))) ?_ ?_
      · refine gw (((0 < m) ∧ ((s1[i - 1]?.getD false) = true)) ∨ (((((m + 1) : Nat) : Int) < g.Cols) ∧ ((s1[(i + 1)]?.getD false) = true))) (fun fhg59_9 => ?_) fun fhg59_9 => ?_
        · refine offs 5 23 false 59 (dy fhg59_9) rfl rfl rfl ?_
          refine offu 7 28 true 64 rfl rfl rfl (oO rfl rfl (dy fhg59_9) (fO (OF.pickT (VEv.tmpB rfl (dy fhg59_9)) (VEv.bool true)) (VRunO.nil ?_)))
          exact jq (congrArg T.bool (kOT fhg59_9)) (js rfl (js rfl (js rfl (js rfl (js rfl (js rfl (js rfl (js rfl (js rfl (js rfl (js rfl (js rfl (js rfl (jn))))))))))))))
        · refine gF (dz fhg59_9) rfl rfl (OF.move (tv (tN i) rfl)) ?_
          refine glf (tI g.Cols) (dz fhg59_9) rfl rfl rfl rfl fa34_1 rfl rfl st3 (gF (dz fhg59_9) rfl rfl (xge (tv (tN i) rfl) (tv (tI g.Cols) rfl)) (gF (dz fhg59_9) rfl rfl (OF.move (tv (tB (decide (g.Cols ≤ ((i : Nat) : Int)))) rfl)) ?_))
          refine VRunO.joinB 8 [65, 66, 67, 68, 69, 70, 71] 72 (tB (decide ((g.Cols ≤ ((i : Nat) : Int)) ∧ ((s1[i - g.Cols.toNat]?.getD false) = true)))) ?_ ?_
          · refine gw (g.Cols ≤ ((i : Nat) : Int)) (fun fhg64_10 => ?_) fun fhg64_10 => ?_
            · refine gF (dy fhg64_10) rfl rfl (OF.move (tv (T.os 1 1 0 ((s1.map (eBool true)).length)) rfl)) ?_
              refine gF (dy fhg64_10) rfl rfl (OF.move (tv (tN i) rfl)) (glf (tI g.Cols) (dy fhg64_10) rfl rfl rfl rfl fa34_1 rfl rfl st3 (gF (dy fhg64_10) rfl rfl (B.sub (n := ((i - g.Cols.toNat : Nat) : Int)) (tv (tN i) rfl) (tv (tI g.Cols) rfl) (by (rw [wrap64 (by omega)]; omega))) ?_))
              have hy11 : s1[i - g.Cols.toNat]? = some (s1[i - g.Cols.toNat]?.getD false) := getD_at false (by omega)
              refine gF (dy fhg64_10) rfl rfl (B.indexAddrO (i := i - g.Cols.toNat) (tv (T.os 1 1 0 ((s1.map (eBool true)).length)) rfl) (tv (tN (i - g.Cols.toNat)) rfl) rfl (by (simp only [List.length_map]; omega)) U176 sz4 if4) (gL (dy fhg64_10) rfl rfl (OL.loadP1 (t := (tB (s1[i - g.Cols.toNat]?.getD false))) (row := (eBool true (s1[i - g.Cols.toNat]?.getD false))) (tv (T.orp 1 1 (i - g.Cols.toNat) 0) rfl) rfl (map_at _ hy11) rfl rfl st4) (gF (dz fhg59_9) rfl rfl (OF.pickT (VEv.tmpB rfl (dy fhg64_10)) (tv (tB (s1[i - g.Cols.toNat]?.getD false)) rfl)) (VRunO.nil ?_)))
              exact jq (congrArg T.bool (kAT fhg64_10 (dT _))) (js rfl (js rfl (js rfl (js rfl (js rfl (js rfl (js rfl (jn))))))))
            · refine offs 7 28 true 64 (dz fhg64_10) rfl rfl rfl ?_
              refine gF (dz fhg59_9) rfl rfl (OF.pickF (VEv.tmpB rfl (dz fhg64_10)) (VEv.bool false)) (VRunO.nil ?_)
              exact jq (congrArg T.bool (kAF fhg64_10)) (js rfl (js rfl (js rfl (js rfl (js rfl (js rfl (js rfl (jn))))))))
          refine fO (OF.pickF (VEv.tmpB rfl (dz fhg59_9)) (tv (tB (decide ((g.Cols ≤ ((i : Nat) : Int)) ∧ ((s1[i - g.Cols.toNat]?.getD false) = true)))) rfl)) (VRunO.nil ?_)
          exact jq (congrArg T.bool (kOF fhg59_9 rfl)) (js rfl (js rfl (js rfl (js rfl (js rfl (js rfl (js rfl (js rfl (js rfl (js rfl (js rfl (js rfl (js rfl (jn))))))))))))))
      refine mO (tB (decide ((((0 < m) ∧ ((s1[i - 1]?.getD false) = true)) ∨ (((((m + 1) : Nat) : Int) < g.Cols) ∧ ((s1[(i + 1)]?.getD false) = true))) ∨ ((g.Cols ≤ ((i : Nat) : Int)) ∧ ((s1[i - g.Cols.toNat]?.getD false) = true))))) rfl ?_
      refine VRunO.joinB 17 [75, 76, 77, 78, 79, 80, 81, 82, 83, 84, 85, 86, 87, 88, 89, 90] 91 (tB (decide (((((0 < m) ∧ ((s1[i - 1]?.getD false) = true)) ∨ (((((m + 1) : Nat) : Int) < g.Cols) ∧ ((s1[(i + 1)]?.getD false) = true))) ∨ ((g.Cols ≤ ((i : Nat) : Int)) ∧ ((s1[i - g.Cols.toNat]?.getD false) = true))) ∨ ((i + g.Cols.toNat < s1.length) ∧ ((s1[i + g.Cols.toNat]?.getD false) = true))))) ?_ ?_
      · refine gw ((((0 < m) ∧ ((s1[i - 1]?.getD false) = true)) ∨ (((((m + 1) : Nat) : Int) < g.Cols) ∧ ((s1[(i + 1)]?.getD false) = true))) ∨ ((g.Cols ≤ ((i : Nat) : Int)) ∧ ((s1[i - g.Cols.toNat]?.getD false) = true))) (fun fhg74_12 => ?_) fun fhg74_12 => ?_
        · refine offs 8 38 false 74 (dy fhg74_12) rfl rfl rfl ?_
          refine offu 7 46 true 82 rfl rfl rfl (oO rfl rfl (dy fhg74_12) (fO (OF.pickT (VEv.tmpB rfl (dy fhg74_12)) (VEv.bool true)) (VRunO.nil ?_)))
          exact jq (congrArg T.bool (kOT fhg74_12)) (js rfl (js rfl (js rfl (js rfl (js rfl (js rfl (js rfl (js rfl (js rfl (js rfl (js rfl (js rfl (js rfl (js rfl (js rfl (js rfl (jn)))))))))))))))))
        · refine gF (dz fhg74_12) rfl rfl (OF.move (tv (tN i) rfl)) ?_
          refine glf (tI g.Cols) (dz fhg74_12) rfl rfl rfl rfl fa34_1 rfl rfl st3 (gF (dz fhg74_12) rfl rfl (B.add (n := ((i + g.Cols.toNat : Nat) : Int)) (tv (tN i) rfl) (tv (tI g.Cols) rfl) (by (rw [wrap64 (by omega)]; omega))) (gF (dz fhg74_12) rfl rfl (OF.move (tv (T.os 1 1 0 ((s1.map (eBool true)).length)) rfl)) (gL (dz fhg74_12) rfl rfl (B.lenO (m := s1.length) (tv (T.os 1 1 0 ((s1.map (eBool true)).length)) rfl) U176 (List.length_map ..)) (gF (dz fhg74_12) rfl rfl (xls' (tv (tN (i + g.Cols.toNat)) rfl) (tv (tN s1.length) rfl)) (gF (dz fhg74_12) rfl rfl (OF.move (tv (tB (decide (i + g.Cols.toNat < s1.length))) rfl)) ?_)))))
          refine VRunO.joinB 8 [83, 84, 85, 86, 87, 88, 89] 90 (tB (decide ((i + g.Cols.toNat < s1.length) ∧ ((s1[i + g.Cols.toNat]?.getD false) = true)))) ?_ ?_
          · refine gw (i + g.Cols.toNat < s1.length) (fun fhg82_13 => ?_) fun fhg82_13 => ?_
            · refine gF (dy fhg82_13) rfl rfl (OF.move (tv (T.os 1 1 0 ((s1.map (eBool true)).length)) rfl)) ?_
              refine gF (dy fhg82_13) rfl rfl (OF.move (tv (tN i) rfl)) (glf (tI g.Cols) (dy fhg82_13) rfl rfl rfl rfl fa34_1 rfl rfl st3 (gF (dy fhg82_13) rfl rfl (B.add (n := ((i + g.Cols.toNat : Nat) : Int)) (tv (tN i) rfl) (tv (tI g.Cols) rfl) (by (rw [wrap64 (by omega)]; omega))) ?_))
              have hy14 : s1[i + g.Cols.toNat]? = some (s1[i + g.Cols.toNat]?.getD false) := getD_at false (by omega)
              refine gF (dy fhg82_13) rfl rfl (B.indexAddrO (i := i + g.Cols.toNat) (tv (T.os 1 1 0 ((s1.map (eBool true)).length)) rfl) (tv (tN (i + g.Cols.toNat)) rfl) rfl (by (simp only [List.length_map]; omega)) U176 sz4 if4) (gL (dy fhg82_13) rfl rfl (OL.loadP1 (t := (tB (s1[i + g.Cols.toNat]?.getD false))) (row := (eBool true (s1[i + g.Cols.toNat]?.getD false))) (tv (T.orp 1 1 (i + g.Cols.toNat) 0) rfl) rfl (map_at _ hy14) rfl rfl st4) (gF (dz fhg74_12) rfl rfl (OF.pickT (VEv.tmpB rfl (dy fhg82_13)) (tv (tB (s1[i + g.Cols.toNat]?.getD false)) rfl)) (VRunO.nil ?_)))
              exact jq (congrArg T.bool (kAT fhg82_13 (dT _))) (js rfl (js rfl (js rfl (js rfl (js rfl (js rfl (js rfl (jn))))))))
            · refine offs 7 46 true 82 (dz fhg82_13) rfl rfl rfl ?_
              refine gF (dz fhg74_12) rfl rfl (OF.pickF (VEv.tmpB rfl (dz fhg82_13)) (VEv.bool false)) (VRunO.nil ?_)
              exact jq (congrArg T.bool (kAF fhg82_13)) (js rfl (js rfl (js rfl (js rfl (js rfl (js rfl (js rfl (jn))))))))
          refine fO (OF.pickF (VEv.tmpB rfl (dz fhg74_12)) (tv (tB (decide ((i + g.Cols.toNat < s1.length) ∧ ((s1[i + g.Cols.toNat]?.getD false) = true)))) rfl)) (VRunO.nil ?_)
          exact jq (congrArg T.bool (kOF fhg74_12 rfl)) (js rfl (js rfl (js rfl (js rfl (js rfl (js rfl (js rfl (js rfl (js rfl (js rfl (js rfl (js rfl (js rfl (js rfl (js rfl (js rfl (jn)))))))))))))))))
      refine aO (tB (decide (((((0 < m) ∧ ((s1[i - 1]?.getD false) = true)) ∨ (((((m + 1) : Nat) : Int) < g.Cols) ∧ ((s1[(i + 1)]?.getD false) = true))) ∨ ((g.Cols ≤ ((i : Nat) : Int)) ∧ ((s1[i - g.Cols.toNat]?.getD false) = true))) ∨ ((i + g.Cols.toNat < s1.length) ∧ ((s1[i + g.Cols.toNat]?.getD false) = true))))) rfl (nt (sr (mO (tB (decide (((((0 < m) ∧ ((s1[i - 1]?.getD false) = true)) ∨ (((((m + 1) : Nat) : Int) < g.Cols) ∧ ((s1[(i + 1)]?.getD false) = true))) ∨ ((g.Cols ≤ ((i : Nat) : Int)) ∧ ((s1[i - g.Cols.toNat]?.getD false) = true))) ∨ ((i + g.Cols.toNat < s1.length) ∧ ((s1[i + g.Cols.toNat]?.getD false) = true))))) rfl (nt ?_))))
      refine cd (((((0 < m) ∧ ((s1[i - 1]?.getD false) = true)) ∨ (((((m + 1) : Nat) : Int) < g.Cols) ∧ ((s1[(i + 1)]?.getD false) = true))) ∨ ((g.Cols ≤ ((i : Nat) : Int)) ∧ ((s1[i - g.Cols.toNat]?.getD false) = true))) ∨ ((i + g.Cols.toNat < s1.length) ∧ ((s1[i + g.Cols.toNat]?.getD false) = true))) rfl (fun fhc3 => ?_) fun fhc3 => ?_
      · rw [hm] at fhc3
        have q1 := grow_yes (g := g) (s := s1) (ag := ag1) (i := i) ⟨by omega, on_no.2 (fun h => fhc2 (.inl (e2.symm.trans h))), (near_iff hB.1 fhc1).1 fhc3⟩
        refine sr (mO (T.os 1 1 0 ((s1.map (eBool true)).length)) rfl (mO (tN i) rfl (fO (B.indexAddrO (i := i) (tv (T.os 1 1 0 ((s1.map (eBool true)).length)) rfl) (tv (tN i) rfl) rfl (by (simp only [List.length_map]; omega)) U176 sz4 if4) (cO (B.storeP (us := [(tB true)]) (rows' := ((s1.set i true).map (eBool true))) (row := (eBool true x2)) (tv (T.orp 1 1 i 0) rfl) (VEv.bool true) nofun rfl (map_at _ hx2) rfl (lb rfl) if4 sz4 (bc rfl bn) (by intro r hr t ht; obtain ⟨x, _, rfl⟩ := List.mem_map.1 hr; rw [flBool] at ht; exact isPl_flat (okBool.pl _ t ht)) (set_mapE rfl)) (nt (VRun.region (fO (OF.assign (VEv.bool true)) (VRunO.nil (vinB.n (tn (VRun.region ?_)))))))))))
        refine mO (tN i) rfl (fO (xinc (tv (tN i) rfl) (VEv.int .i64 1) (by omega)) (aO (tN (i + 1)) rfl (VRunO.nil (tn ?_))))
        have he15 : (s1.set i true) = (growR g s1 i) := by exact q1.1
        refine ⟨((i + 1, growR g s1 i, growA g ag1 s1 i) : Nat × (List Bool) × Bool), ?_, ?_, Wk.mk (fun k => k) ?_ ?_ ?_⟩
        · exact hI'.next fhc1
        · show (growR g s1 i).length - (i + 1) < s1.length - i
          have e1 : (growR g s1 i).length = s1.length := by unfold growR; split <;> simp
          rw [e1]; omega
        · exact (bc ⟨(congrArg (fun n_ => T.os 1 1 0 n_) (show (s1.map (eBool true)).length = ((growR g s1 i).map (eBool true)).length from (by (rw [← q1.1]; simp; done)))), rfl⟩ (b2 (b2 (bc ⟨(congrArg T.bool (show true = (growA g ag1 s1 i) from (by exact q1.2))), rfl⟩ (b2 bn)))))
        · exact (b3 (bc ⟨(congrArg (fun l_ => some (Obj.rows 1 (List.map (eBool true) l_))) he15), (lb rfl), rfl⟩ bn))
        · exact nd rfl
      rw [hm] at fhc3
      have q1 := grow_no (g := g) (s := s1) (ag := ag1) (i := i) (by rintro ⟨h1, h2, h3⟩; exact fhc3 ((near_iff hB.1 fhc1).2 h3))
      refine sk (vinB.n (tn (VRun.region (mO (tN i) rfl (fO (xinc (tv (tN i) rfl) (VEv.int .i64 1) (by omega)) (aO (tN (i + 1)) rfl (VRunO.nil (tn ?_))))))))
      have he16 : s1 = (growR g s1 i) := by exact q1.1
      refine ⟨((i + 1, growR g s1 i, growA g ag1 s1 i) : Nat × (List Bool) × Bool), ?_, ?_, Wk.mk (fun k => k) ?_ ?_ ?_⟩
      · exact hI'.next fhc1
      · show (growR g s1 i).length - (i + 1) < s1.length - i
        have e1 : (growR g s1 i).length = s1.length := by unfold growR; split <;> simp
        rw [e1]; omega
      · exact (bc ⟨(congrArg (fun l_ => T.os 1 1 0 (List.map (eBool true) l_).length) he16), rfl⟩ (b2 (b2 (bc ⟨(congrArg T.bool (show ag1 = (growA g ag1 s1 i) from (by exact q1.2))), rfl⟩ (b2 bn)))))
      · exact (b3 (bc ⟨(congrArg (fun l_ => some (Obj.rows 1 (List.map (eBool true) l_))) he16), (lb rfl), rfl⟩ bn))
      · exact nd rfl
    refine VRun.exit (vthn.e (vthn.e (vinB.e (vinB.n (tn ?_)))))
    refine ⟨((ag1, s1) : Bool × (List Bool)), ?_, ?_, Wk.mk (fun k => k) ?_ ?_ ?_⟩
    · exact hI'.done fhc1
    · exact hI'.dec fhc0
    · exact (b2 (b2 (b2 (b2 bn))))
    · exact (b3 (b3 bn))
    · exact nd rfl
  have fhc0 : ag = false := hc0
  refine VRun.exit (vthn.e (vthn.e (vinB.e (tn (sr (mO (T.os 1 1 0 ((s.map (eBool true)).length)) rfl (aO (T.os 1 1 0 ((s.map (eBool true)).length)) rfl (nt (rt ?_)))))))))
  have hnew : s = reachL g (seen.set cell true) := by
    exact hI'.done (by simp [fhc0])
  exact vloan.r 1 (VRes.tmp (t := (T.os 1 1 0 ((s.map (eBool true)).length))) rfl VRes.nil) (congrArg (fun l_ => T.os 1 1 0 (List.map (eBool true) l_).length) hnew) (congrArg (fun n_ => T.os 1 1 0 n_) (show (s.map (eBool true)).length = (seen.map (eBool true)).length from (by (simp only [List.length_map, reachL_len, List.length_set]; omega)))) rfl (congrArg (List.map (eBool true)) hnew)
end Go.Proofs.YtcccmceoplcciaaGreat.AE
namespace Go.Proofs.YtcccmceoplcciaaGreat.AE
open Go Go.RowKit
set_option linter.unusedVariables false
set_option linter.unusedSimpArgs false
set_option maxRecDepth 20000
set_option maxHeartbeats 2000000
noncomputable section
def uniL (a b : List Bool) : List Bool := List.zipWith (fun x y => x || y) a b
def zipTo (a b : List Bool) (k : Nat) : List Bool := (uniL a b).take k ++ a.drop k
theorem uniL_len {a b : List Bool} (h : b.length = a.length) : (uniL a b).length = a.length := by simp [uniL, h]
theorem zipTo_len {a b : List Bool} {k : Nat} (h : b.length = a.length) (hk : k ≤ a.length) : (zipTo a b k).length = a.length := by
  unfold zipTo
  rw [List.length_append, List.length_take, uniL_len h, List.length_drop]; omega
theorem zipTo_at {a b : List Bool} {k : Nat} {x : Bool} (h : b.length = a.length) (hk : k < a.length) (hx : (zipTo a b k)[k]? = some x) : x = on a k := by
  unfold zipTo at hx
  rw [List.getElem?_append_right (by rw [List.length_take, uniL_len h]; omega), List.length_take, uniL_len h, Nat.min_eq_left (by omega), Nat.sub_self, List.getElem?_drop, Nat.add_zero] at hx
  rw [on, hx]; rfl
theorem on_uni {a b : List Bool} (h : b.length = a.length) (j : Nat) : on (uniL a b) j = (on a j || on b j) := by
  unfold on uniL
  rw [List.getElem?_zipWith]
  rcases Nat.lt_or_ge j a.length with h1 | h1
  · rw [List.getElem?_eq_getElem h1, List.getElem?_eq_getElem (by omega)]; rfl
  · rw [List.getElem?_eq_none h1, List.getElem?_eq_none (by omega)]; rfl
theorem zipTo_next {a b : List Bool} {k : Nat} {v : Bool} (h : b.length = a.length) (hk : k < a.length) (hv : v = (on a k || on b k)) : (zipTo a b k).set k v = zipTo a b (k + 1) := by
  have hl := uniL_len h
  have hu : (uniL a b)[k]? = some v := by
    have h1 := on_uni h k
    unfold on at h1 hv
    rw [List.getElem?_eq_getElem (by omega)] at h1 ⊢
    rw [hv, ← h1]; rfl
  unfold zipTo
  rw [List.set_append_right _ _ (by rw [List.length_take]; omega), List.length_take, hl, Nat.min_eq_left (by omega), Nat.sub_self, List.drop_eq_getElem_cons hk, List.set_cons_zero, List.take_add_one, hu]
  simp
theorem zipTo_done {a b : List Bool} {k : Nat} (h : b.length = a.length) (hk : ¬ k < a.length) : zipTo a b k = uniL a b := by
  unfold zipTo
  rw [List.take_of_length_le (by rw [uniL_len h]; omega), List.drop_of_length_le (by omega), List.append_nil]
def fresh (g : D.Grid) (i : Nat) : List Bool := reachL g ((List.replicate g.Cells.size false).set i true)
def isNew (g : D.Grid) (s : List Bool) (i : Nat) : Prop := bAt g.Cells i = 46 ∧ on s i = false
instance (g : D.Grid) (s : List Bool) (i : Nat) : Decidable (isNew g s i) := Classical.propDecidable _
def partsN (g : D.Grid) : Nat → Nat × List Bool
  | 0 => (0, List.replicate g.Cells.size false)
  | i + 1 => if isNew g (partsN g i).2 i then ((partsN g i).1 + 1, uniL (partsN g i).2 (fresh g i)) else partsN g i
theorem fresh_len (g : D.Grid) (i : Nat) : (fresh g i).length = g.Cells.size := by simp [fresh, reachL_len]
theorem partsN_len (g : D.Grid) : ∀ i, (partsN g i).2.length = g.Cells.size
  | 0 => by simp [partsN]
  | i + 1 => by
    have h := partsN_len g i
    unfold partsN
    split
    · simp only; rw [uniL_len (by rw [fresh_len, h])]; exact h
    · exact h
theorem partsN_le (g : D.Grid) : ∀ i, (partsN g i).1 ≤ i
  | 0 => Nat.le_refl _
  | i + 1 => by
    have h := partsN_le g i
    unfold partsN
    split
    · simp only; omega
    · omega
theorem parts_yes {g : D.Grid} {i : Nat} (h : isNew g (partsN g i).2 i) : (partsN g (i + 1)).1 = (partsN g i).1 + 1 ∧ (partsN g (i + 1)).2 = uniL (partsN g i).2 (fresh g i) := by
  rw [partsN, if_pos h]; exact ⟨rfl, rfl⟩
theorem parts_no {g : D.Grid} {i : Nat} (h : ¬ isNew g (partsN g i).2 i) : partsN g (i + 1) = partsN g i := by
  rw [partsN, if_neg h]
def partsG (g : D.Grid) : Nat := if gridOk g then (partsN g g.Cells.size).1 else 0
theorem parts_end {g : D.Grid} {i : Nat} (h1 : i ≤ g.Cells.size) (h2 : gridOk g ∨ i = 0) (h3 : ¬ (i < g.Cells.size ∧ gridOk g)) : (partsN g i).1 = partsG g := by
  unfold partsG
  by_cases hg : gridOk g
  · rw [if_pos hg, show i = g.Cells.size by have : ¬ i < g.Cells.size := fun h => h3 ⟨h, hg⟩; omega]
  · rw [if_neg hg, h2.resolve_left hg]; rfl
theorem orB (x y : Bool) : decide (x = true ∨ y = true) = (x || y) := by cases x <;> cases y <;> rfl
end
theorem W_spec_PartsOf (n : Nat) (g : D.Grid) (hc : g.Cells.size ≤ mx) : Pure (acall Tryz.prog (n + 3)) 157 [(T.agg (eGrid false g))] (tN (partsG g)) := by
  refine Pure.intro (rs := [ResultVar.tmp 2]) Tryz.func157 rfl rfl rfl (E0 := [(0, (T.agg (eGrid false g)))]) rfl ?_
  obtain ⟨hlim, hmx, hmax⟩ := lims
  refine sr (kO (B.box (ts := (eGrid false g)) (tv (T.agg (eGrid false g)) rfl) nofun rfl) (fO (OF.assign (VEv.int .i64 0)) (nt (sr (fO (OF.assign (VEv.int .i64 0)) (nt (sr (kO (OM.slice0 U176 zo4 (by kernel_rfl) rfl (by rw [sz4]; decide) sz4) (aO (T.os 1 1 0 0) rfl (nt (sq ?_)))))))))))
  refine sr (fO (OF.assign (VEv.int .i64 0)) (nt (VRun.block ?_)))
  have he1 : [] = ((List.replicate 0 false).map (eBool true)) := by rfl
  refine VRun.loop (A := Nat) (fun s_ => [(1, (T.op 0 0)), (2, (tN 0)), (3, (tN 0)), (4, (T.os 1 1 0 (((List.replicate s_ false).map (eBool true)).length))), (5, (tN s_))]) (fun s_ => mkO [(0, (Obj.cells (eGrid false g))), (1, (Obj.rows 1 ((List.replicate s_ false).map (eBool true))))]) 2 (fun s_ => s_ ≤ g.Cells.size) (fun s_ => g.Cells.size - s_) (0 : Nat) ?_ (Wk.mk (fun k => k) ?_ ?_ ?_) ?_
  · (simp; done)
  · exact (b2 (b2 (b2 (bc ⟨(congrArg (fun n_ => T.os 1 1 0 n_) (show 0 = ((List.replicate 0 false).map (eBool true)).length from (by rfl))), rfl⟩ (b2 bn)))))
  · exact (b3 (bc ⟨(congrArg (fun l_ => some (Obj.rows 1 l_)) he1), (lb rfl), rfl⟩ bn))
  · exact nd rfl
  rintro k (hI' : k ≤ g.Cells.size)
  show VRun _ _ _ [(1, (T.op 0 0)), (2, (tN 0)), (3, (tN 0)), (4, (T.os 1 1 0 (((List.replicate k false).map (eBool true)).length))), (5, (tN k))] (mkO [(0, (Obj.cells (eGrid false g))), (1, (Obj.rows 1 ((List.replicate k false).map (eBool true))))]) 2 _
  have hK1 := hI'
  refine sq (sr (mO (tN k) rfl (lf (tS g.Cells) rfl fa34_2 rfl rfl st9 (lO (B.lenS (tv (tS g.Cells) rfl) U9) (fO (xls' (tv (tN k) rfl) (tv (tN g.Cells.size) rfl)) (nt ?_))))))
  refine cd (k < g.Cells.size) rfl (fun fhc0 => ?_) fun fhc0 => ?_
  · refine sk ?_
    refine tn (sq (VRun.block (VRun.region (mO (T.os 1 1 0 (((List.replicate k false).map (eBool true)).length)) rfl (kO (OM.buildSlice (l := [(tB false)]) (VEvp.cons (VEv.bool false) VEvp.nil) rfl (by decide) (bc (nofun) bn) (bc ((bc (rfl) bn)) bn) (bc (rfl) bn) U176 zo4 (by kernel_rfl) rfl (by rw [sz4]; decide) sz4 (Nat.le_of_ble_eq_true rfl)) (cO (B.append (rows := ((List.replicate k false).map (eBool true))) (rows2 := [[(tB false)]]) (rows3 := ((List.replicate k false ++ [false]).map (eBool true))) (VDst.own (tv (T.os 1 1 0 (((List.replicate k false).map (eBool true)).length)) rfl) rfl rfl) (VSrc.own (tv (T.os 1 2 0 1) rfl) rfl rfl U176 (bc (bc rfl bn) bn)) (by decide) U176 sz4 (by decide) zo4 rfl (of_decide_eq_true (by kernel_rfl)) (by (simp only [List.length_map, List.length_append, List.length_cons, List.length_nil, List.length_replicate, List.length_set, List.length_drop, List.length_take, lim] at *; omega)) ((List.map_append (f := eBool true) (l₁ := List.replicate k false) (l₂ := [false])).symm)) (aO (T.os 1 3 0 (((List.replicate k false ++ [false]).map (eBool true)).length)) rfl (VRunO.nil (vinB.n (tn (VRun.region ?_)))))))))))
    refine mO (tN k) rfl (fO (xinc (tv (tN k) rfl) (VEv.int .i64 1) (by omega)) (aO (tN (k + 1)) rfl (VRunO.nil (tn ?_))))
    have he2 : (List.replicate k false ++ [false]) = List.replicate (k + 1) false := by rw [List.replicate_succ']
    refine ⟨(k + 1 : Nat), ?_, ?_, Wk.mk (fun k => if k = 1 then 3 else  k) ?_ ?_ ?_⟩
    · trivial
    · omega
    · exact (b2 (b2 (b2 (bc ⟨(congrArg (fun l_ => T.os 1 3 0 (List.map (eBool true) l_).length) he2), rfl⟩ (b2 bn)))))
    · exact (b3 (bc ⟨(congrArg (fun l_ => some (Obj.rows 1 (List.map (eBool true) l_))) he2), (lb rfl), rfl⟩ bn))
    · exact nd rfl
  refine VRun.exit (vthn.e (vthn.e (vinB.e (tn (sq (sr (fO (OF.assign (VEv.int .i64 0)) (nt (VRun.block ?_)))))))))
  have he3 : List.replicate k false = (partsN g 0).2 := by (show List.replicate k false = List.replicate g.Cells.size false; rw [show k = g.Cells.size by omega])
  refine VRun.loop (A := Nat) (fun s_ => [(1, (T.op 0 0)), (2, (tN 0)), (3, (tN ((partsN g s_).1))), (4, (T.os 1 1 0 ((((partsN g s_).2).map (eBool true)).length))), (6, (tN s_))]) (fun s_ => mkO [(0, (Obj.cells (eGrid false g))), (1, (Obj.rows 1 (((partsN g s_).2).map (eBool true))))]) 2 (fun s_ => s_ ≤ g.Cells.size ∧ (gridOk g ∨ s_ = 0)) (fun s_ => g.Cells.size - s_) (0 : Nat) ?_ (Wk.mk (fun k => k) ?_ ?_ ?_) ?_
  · exact ⟨Nat.zero_le _, .inr rfl⟩
  · exact (b2 (b2 (bc ⟨(congrArg (T.int .i64) (show 0 = (((partsN g 0).1 : Nat) : Int) from (by rfl))), rfl⟩ (bc ⟨(congrArg (fun l_ => T.os 1 1 0 (List.map (eBool true) l_).length) he3), rfl⟩ (b2 bn)))))
  · exact (b3 (bc ⟨(congrArg (fun l_ => some (Obj.rows 1 (List.map (eBool true) l_))) he3), (lb rfl), rfl⟩ bn))
  · exact nd rfl
  rintro i (hI' : i ≤ g.Cells.size ∧ (gridOk g ∨ i = 0))
  show VRun _ _ _ [(1, (T.op 0 0)), (2, (tN 0)), (3, (tN ((partsN g i).1))), (4, (T.os 1 1 0 ((((partsN g i).2).map (eBool true)).length))), (6, (tN i))] (mkO [(0, (Obj.cells (eGrid false g))), (1, (Obj.rows 1 (((partsN g i).2).map (eBool true))))]) 2 _
  have hI1 := hI'.1
  have hpl := partsN_len g i
  have hpn := partsN_le g i
  refine sq (sr (mO (tN i) rfl (lf (tS g.Cells) rfl fa34_2 rfl rfl st9 (lO (B.lenS (tv (tS g.Cells) rfl) U9) (fO (xls' (tv (tN i) rfl) (tv (tN g.Cells.size) rfl)) (mO (tB (decide (i < g.Cells.size))) rfl ?_))))))
  refine VRunO.joinB 3 [27, 28] 29 (tB (decide ((i < g.Cells.size) ∧ (gridOk g)))) ?_ ?_
  · refine gw (i < g.Cells.size) (fun fhg26_4 => ?_) fun fhg26_4 => ?_
    · refine gL (dy fhg26_4) rfl rfl (OL.loadOn (us := (eGrid false g)) (tv (T.op 0 0) rfl) rfl st34 sz34 (lb rfl) rfl) ?_
      refine VRunO.chain (VWant.on rfl rfl (dy fhg26_4)) (cS (vc (tv (T.agg (eGrid false g)) rfl) vn) (LendL.cons (lg okeGrid) ln) (W_spec_IsGrid (n + 0) g (by omega)) rfl rfl) (fO (OF.pickT (VEv.tmpB rfl (dy fhg26_4)) (tv (tB (decide (gridOk g))) rfl)) (VRunO.nil ?_))
      exact jq (congrArg T.bool (kAT fhg26_4 rfl)) (js rfl (js rfl (jn)))
    · refine offs 2 5 true 26 (dz fhg26_4) rfl rfl rfl ?_
      refine fO (OF.pickF (VEv.tmpB rfl (dz fhg26_4)) (VEv.bool false)) (VRunO.nil ?_)
      exact jq (congrArg T.bool (kAF fhg26_4)) (js rfl (js rfl (jn)))
  refine nt ?_
  refine cd ((i < g.Cells.size) ∧ (gridOk g)) rfl (fun fhc1 => ?_) fun fhc1 => ?_
  · refine sk ?_
    refine tn (sq (VRun.block (sr (lf (tS g.Cells) rfl fa34_2 rfl rfl st9 (mO (tN i) rfl ?_)))))
    have hb5 : i < g.Cells.size := (by omega)
    refine fO (xix (tv (tS g.Cells) rfl) (tv (tN i) rfl) hb5 U9) (fO (xeq (tv (T.int .u8 (bAt g.Cells i)) rfl) (VEv.int .u8 46)) (mO (tB (decide (bAt g.Cells i = 46))) rfl ?_))
    refine VRunO.joinB 6 [38, 39, 40, 41, 42] 43 (tB (decide ((bAt g.Cells i = 46) ∧ ((!(((partsN g i).2)[i]?.getD false)) = true)))) ?_ ?_
    · refine gw (bAt g.Cells i = 46) (fun fhg37_6 => ?_) fun fhg37_6 => ?_
      · refine gF (dy fhg37_6) rfl rfl (OF.move (tv (T.os 1 1 0 ((((partsN g i).2).map (eBool true)).length)) rfl)) ?_
        refine gF (dy fhg37_6) rfl rfl (OF.move (tv (tN i) rfl)) ?_
        have hy7 : ((partsN g i).2)[i]? = some (((partsN g i).2)[i]?.getD false) := getD_at false (by omega)
        refine gF (dy fhg37_6) rfl rfl (B.indexAddrO (i := i) (tv (T.os 1 1 0 ((((partsN g i).2).map (eBool true)).length)) rfl) (tv (tN i) rfl) rfl (by (simp only [List.length_map]; omega)) U176 sz4 if4) (gL (dy fhg37_6) rfl rfl (OL.loadP1 (t := (tB (((partsN g i).2)[i]?.getD false))) (row := (eBool true (((partsN g i).2)[i]?.getD false))) (tv (T.orp 1 1 i 0) rfl) rfl (map_at _ hy7) rfl rfl st4) (gF (dy fhg37_6) rfl rfl (xnot (tv (tB (((partsN g i).2)[i]?.getD false)) rfl)) (fO (OF.pickT (VEv.tmpB rfl (dy fhg37_6)) (tv (tB (!(((partsN g i).2)[i]?.getD false))) rfl)) (VRunO.nil ?_))))
        exact jq (congrArg T.bool (kAT fhg37_6 (dT _))) (js rfl (js rfl (js rfl (js rfl (js rfl (jn))))))
      · refine offs 5 5 true 37 (dz fhg37_6) rfl rfl rfl ?_
        refine fO (OF.pickF (VEv.tmpB rfl (dz fhg37_6)) (VEv.bool false)) (VRunO.nil ?_)
        exact jq (congrArg T.bool (kAF fhg37_6)) (js rfl (js rfl (js rfl (js rfl (js rfl (jn))))))
    refine nt ?_
    refine cd ((bAt g.Cells i = 46) ∧ ((!(((partsN g i).2)[i]?.getD false)) = true)) rfl (fun fhc2 => ?_) fun fhc2 => ?_
    · have q0 : isNew g (partsN g i).2 i := ⟨fhc2.1, by simpa [on] using fhc2.2⟩
      have q1 := parts_yes q0
      have hgs := fhc1.2.size
      refine sr (mO (tN ((partsN g i).1)) rfl (fO (xinc (tv (tN ((partsN g i).1)) rfl) (VEv.int .i64 1) (by omega)) (aO (tN ((partsN g i).1 + 1)) rfl (nt (sr (kO (OM.slice0 U176 zo4 (by kernel_rfl) rfl (by rw [sz4]; decide) sz4) (aO (T.os 1 2 0 0) rfl (nt (sq (sr (fO (OF.assign (VEv.int .i64 0)) ?_)))))))))))
      refine nt (VRun.block ?_)
      have he8 : [] = ((List.replicate 0 false).map (eBool true)) := by rfl
      refine VRun.loop (A := Nat) (fun s_ => [(1, (T.op 0 0)), (2, (tN 0)), (3, (tN ((partsN g i).1 + 1))), (4, (T.os 1 1 0 ((((partsN g i).2).map (eBool true)).length))), (6, (tN i)), (7, (T.os 1 2 0 (((List.replicate s_ false).map (eBool true)).length))), (8, (tN s_))]) (fun s_ => mkO [(0, (Obj.cells (eGrid false g))), (1, (Obj.rows 1 (((partsN g i).2).map (eBool true)))), (2, (Obj.rows 1 ((List.replicate s_ false).map (eBool true))))]) 3 (fun s_ => s_ ≤ (partsN g i).2.length) (fun s_ => (partsN g i).2.length - s_) (0 : Nat) ?_ (Wk.mk (fun k => k) ?_ ?_ ?_) ?_
      · (simp; done)
      · exact (b2 (b2 (b2 (b2 (b2 (bc ⟨(congrArg (fun n_ => T.os 1 2 0 n_) (show 0 = ((List.replicate 0 false).map (eBool true)).length from (by rfl))), rfl⟩ (b2 bn)))))))
      · exact (b3 (b3 (bc ⟨(congrArg (fun l_ => some (Obj.rows 1 l_)) he8), (lb rfl), rfl⟩ bn)))
      · exact nd rfl
      rintro k1 (hI' : k1 ≤ (partsN g i).2.length)
      show VRun _ _ _ [(1, (T.op 0 0)), (2, (tN 0)), (3, (tN ((partsN g i).1 + 1))), (4, (T.os 1 1 0 ((((partsN g i).2).map (eBool true)).length))), (6, (tN i)), (7, (T.os 1 2 0 (((List.replicate k1 false).map (eBool true)).length))), (8, (tN k1))] (mkO [(0, (Obj.cells (eGrid false g))), (1, (Obj.rows 1 (((partsN g i).2).map (eBool true)))), (2, (Obj.rows 1 ((List.replicate k1 false).map (eBool true))))]) 3 _
      have hK1 := hI'
      refine sq (sr (mO (tN k1) rfl (mO (T.os 1 1 0 ((((partsN g i).2).map (eBool true)).length)) rfl (lO (B.lenO (m := ((partsN g i).2).length) (tv (T.os 1 1 0 ((((partsN g i).2).map (eBool true)).length)) rfl) U176 (List.length_map ..)) (fO (xls' (tv (tN k1) rfl) (tv (tN (((partsN g i).2).length)) rfl)) (nt ?_))))))
      refine cd (k1 < ((partsN g i).2).length) rfl (fun fhc3 => ?_) fun fhc3 => ?_
      · refine sk ?_
        refine tn (sq (VRun.block (VRun.region (mO (T.os 1 2 0 (((List.replicate k1 false).map (eBool true)).length)) rfl (kO (OM.buildSlice (l := [(tB false)]) (VEvp.cons (VEv.bool false) VEvp.nil) rfl (by decide) (bc (nofun) bn) (bc ((bc (rfl) bn)) bn) (bc (rfl) bn) U176 zo4 (by kernel_rfl) rfl (by rw [sz4]; decide) sz4 (Nat.le_of_ble_eq_true rfl)) (cO (B.append (rows := ((List.replicate k1 false).map (eBool true))) (rows2 := [[(tB false)]]) (rows3 := ((List.replicate k1 false ++ [false]).map (eBool true))) (VDst.own (tv (T.os 1 2 0 (((List.replicate k1 false).map (eBool true)).length)) rfl) rfl rfl) (VSrc.own (tv (T.os 1 3 0 1) rfl) rfl rfl U176 (bc (bc rfl bn) bn)) (by decide) U176 sz4 (by decide) zo4 rfl (of_decide_eq_true (by kernel_rfl)) (by (simp only [List.length_map, List.length_append, List.length_cons, List.length_nil, List.length_replicate, List.length_set, List.length_drop, List.length_take, lim] at *; omega)) ((List.map_append (f := eBool true) (l₁ := List.replicate k1 false) (l₂ := [false])).symm)) (aO (T.os 1 4 0 (((List.replicate k1 false ++ [false]).map (eBool true)).length)) rfl (VRunO.nil (vinB.n (tn (VRun.region ?_)))))))))))
        refine mO (tN k1) rfl (fO (xinc (tv (tN k1) rfl) (VEv.int .i64 1) (by omega)) (aO (tN (k1 + 1)) rfl (VRunO.nil (tn ?_))))
        have he9 : (List.replicate k1 false ++ [false]) = List.replicate (k1 + 1) false := by rw [List.replicate_succ']
        refine ⟨(k1 + 1 : Nat), ?_, ?_, Wk.mk (fun k => if k = 2 then 4 else  k) ?_ ?_ ?_⟩
        · trivial
        · omega
        · exact (b2 (b2 (b2 (b2 (b2 (bc ⟨(congrArg (fun l_ => T.os 1 4 0 (List.map (eBool true) l_).length) he9), rfl⟩ (b2 bn)))))))
        · exact (b3 (b3 (bc ⟨(congrArg (fun l_ => some (Obj.rows 1 (List.map (eBool true) l_))) he9), (lb rfl), rfl⟩ bn)))
        · exact nd rfl
      have hk6 : k1 = g.Cells.size := by omega
      have hq4 : (fresh g i).length = (partsN g i).2.length := by rw [fresh_len, hpl]
      have hfr : reachL g ((List.replicate k1 false).set i true) = fresh g i := by rw [fresh, hk6]
      have hrl : (reachL g ((List.replicate k1 false).set i true)).length = g.Cells.size := by rw [hfr, fresh_len]
      refine VRun.exit (vthn.e (vthn.e (vinB.e (tn (sr (lO (OL.loadOn (us := (eGrid false g)) (tv (T.op 0 0) rfl) rfl st34 sz34 (lb rfl) rfl) (mO (T.os 1 2 0 (((List.replicate k1 false).map (eBool true)).length)) rfl (mO (tN i) rfl (cO (OC.callLoan (ts := [(T.agg (eGrid false g)), (T.os 1 0 0 (((List.replicate k1 false).map (eBool true)).length)), (tN i)]) (k := 2) (r := (T.os 1 0 0 (((reachL g ((List.replicate k1 false).set i true)).map (eBool true)).length))) (rows := ((List.replicate k1 false).map (eBool true))) (rows' := ((reachL g ((List.replicate k1 false).set i true)).map (eBool true))) rfl (vc (tv (T.agg (eGrid false g)) rfl) (vc (tv (T.os 1 2 0 (((List.replicate k1 false).map (eBool true)).length)) rfl) (vc (tv (tN i) rfl) vn))) rfl rfl rfl (LRes.os _ _) rfl (scMap (fun _ => rfl) _) (scMap (fun _ => rfl) _) (W_spec_l10Reach (n + 1) g (List.replicate k1 false) i (by exact fhc1.2) (by (simp only [List.length_replicate]; omega)) (by (simp only [List.length_replicate]; omega)))) (aO (T.os 1 2 0 (((reachL g ((List.replicate k1 false).set i true)).map (eBool true)).length)) rfl (nt ?_)))))))))))
      refine sr (fO (OF.assign (VEv.int .i64 0)) (nt (VRun.block ?_)))
      have he10 : (partsN g i).2 = zipTo (partsN g i).2 (fresh g i) 0 := by rfl
      refine VRun.loop (A := Nat) (fun s_ => [(1, (T.op 0 0)), (2, (tN 0)), (3, (tN ((partsN g i).1 + 1))), (4, (T.os 1 2 0 (((zipTo (partsN g i).2 (fresh g i) s_).map (eBool true)).length))), (6, (tN i)), (7, (T.os 1 1 0 (((reachL g ((List.replicate k1 false).set i true)).map (eBool true)).length))), (9, (tN s_))]) (fun s_ => mkO [(0, (Obj.cells (eGrid false g))), (1, (Obj.rows 1 ((reachL g ((List.replicate k1 false).set i true)).map (eBool true)))), (2, (Obj.rows 1 ((zipTo (partsN g i).2 (fresh g i) s_).map (eBool true))))]) 3 (fun s_ => s_ ≤ (partsN g i).2.length) (fun s_ => (partsN g i).2.length - s_) (0 : Nat) ?_ (Wk.mk (fun k => if k = 1 then 2 else if k = 2 then 1 else  k) ?_ ?_ ?_) ?_
      · (simp; done)
      · exact (b2 (b2 (b2 (bc ⟨(congrArg (fun l_ => T.os 1 1 0 (List.map (eBool true) l_).length) he10), rfl⟩ (b2 (b2 (b2 bn)))))))
      · exact (b3 (b3 (bc ⟨(congrArg (fun l_ => some (Obj.rows 1 (List.map (eBool true) l_))) he10), (lb rfl), rfl⟩ bn)))
      · exact nd rfl
      rintro j (hI' : j ≤ (partsN g i).2.length)
      show VRun _ _ _ [(1, (T.op 0 0)), (2, (tN 0)), (3, (tN ((partsN g i).1 + 1))), (4, (T.os 1 2 0 (((zipTo (partsN g i).2 (fresh g i) j).map (eBool true)).length))), (6, (tN i)), (7, (T.os 1 1 0 (((reachL g ((List.replicate k1 false).set i true)).map (eBool true)).length))), (9, (tN j))] (mkO [(0, (Obj.cells (eGrid false g))), (1, (Obj.rows 1 ((reachL g ((List.replicate k1 false).set i true)).map (eBool true)))), (2, (Obj.rows 1 ((zipTo (partsN g i).2 (fresh g i) j).map (eBool true))))]) 3 _
      have hJ1 := hI'
      have hzl := zipTo_len hq4 hJ1
      refine sq (sr (mO (tN j) rfl (mO (T.os 1 2 0 (((zipTo (partsN g i).2 (fresh g i) j).map (eBool true)).length)) rfl (lO (B.lenO (m := (zipTo (partsN g i).2 (fresh g i) j).length) (tv (T.os 1 2 0 (((zipTo (partsN g i).2 (fresh g i) j).map (eBool true)).length)) rfl) U176 (List.length_map ..)) (fO (xls' (tv (tN j) rfl) (tv (tN ((zipTo (partsN g i).2 (fresh g i) j).length)) rfl)) (nt ?_))))))
      refine cd (j < (zipTo (partsN g i).2 (fresh g i) j).length) rfl (fun fhc4 => ?_) fun fhc4 => ?_
      · refine sk ?_
        refine tn (sq (VRun.block (VRun.region (mO (T.os 1 2 0 (((zipTo (partsN g i).2 (fresh g i) j).map (eBool true)).length)) rfl (mO (tN j) rfl (mO (T.os 1 2 0 (((zipTo (partsN g i).2 (fresh g i) j).map (eBool true)).length)) rfl (mO (tN j) rfl ?_)))))))
        obtain ⟨x1, hx1⟩ : ∃ x, (zipTo (partsN g i).2 (fresh g i) j)[j]? = some x := ⟨_, List.getElem?_eq_getElem (by omega)⟩
        have e3 : x1 = on (partsN g i).2 j := zipTo_at hq4 (by omega) hx1
        refine fO (B.indexAddrO (i := j) (tv (T.os 1 2 0 (((zipTo (partsN g i).2 (fresh g i) j).map (eBool true)).length)) rfl) (tv (tN j) rfl) rfl (by (simp only [List.length_map]; omega)) U176 sz4 if4) (lO (OL.loadP1 (t := (tB x1)) (row := (eBool true x1)) (tv (T.orp 1 2 j 0) rfl) rfl (map_at _ hx1) rfl rfl st4) (mO (tB x1) rfl ?_))
        refine VRunO.joinB 5 [73, 74, 75, 76] 77 (tB (decide ((x1 = true) ∨ (((reachL g ((List.replicate k1 false).set i true))[j]?.getD false) = true)))) ?_ ?_
        · refine bool_way x1 (fun hg72_11 => ?_) (fun hg72_11 => ?_)
          · have fhg72_11 : x1 = true := hg72_11
            refine offs 4 6 false 72 hg72_11 rfl rfl rfl (fO (OF.pickT (VEv.tmpB rfl hg72_11) (VEv.bool true)) (VRunO.nil ?_))
            exact jq (congrArg T.bool (jOT (dT _) hg72_11)) (js rfl (js rfl (js rfl (js rfl (jn)))))
          · have fhg72_11 : x1 = false := hg72_11
            refine gF hg72_11 rfl rfl (OF.move (tv (T.os 1 1 0 (((reachL g ((List.replicate k1 false).set i true)).map (eBool true)).length)) rfl)) (gF hg72_11 rfl rfl (OF.move (tv (tN j) rfl)) ?_)
            have hy12 : (reachL g ((List.replicate k1 false).set i true))[j]? = some ((reachL g ((List.replicate k1 false).set i true))[j]?.getD false) := getD_at false (by omega)
            refine gF hg72_11 rfl rfl (B.indexAddrO (i := j) (tv (T.os 1 1 0 (((reachL g ((List.replicate k1 false).set i true)).map (eBool true)).length)) rfl) (tv (tN j) rfl) rfl (by (simp only [List.length_map]; omega)) U176 sz4 if4) (gL hg72_11 rfl rfl (OL.loadP1 (t := (tB ((reachL g ((List.replicate k1 false).set i true))[j]?.getD false))) (row := (eBool true ((reachL g ((List.replicate k1 false).set i true))[j]?.getD false))) (tv (T.orp 1 1 j 0) rfl) rfl (map_at _ hy12) rfl rfl st4) (fO (OF.pickF (VEv.tmpB rfl hg72_11) (tv (tB ((reachL g ((List.replicate k1 false).set i true))[j]?.getD false)) rfl)) (VRunO.nil ?_)))
            exact jq (congrArg T.bool (jOF (dT _) hg72_11 (dT _))) (js rfl (js rfl (js rfl (js rfl (jn)))))
        refine fO (B.indexAddrO (i := j) (tv (T.os 1 2 0 (((zipTo (partsN g i).2 (fresh g i) j).map (eBool true)).length)) rfl) (tv (tN j) rfl) rfl (by (simp only [List.length_map]; omega)) U176 sz4 if4) (cO (B.storeP (us := [(tB (decide ((x1 = true) ∨ (((reachL g ((List.replicate k1 false).set i true))[j]?.getD false) = true))))]) (rows' := (((zipTo (partsN g i).2 (fresh g i) j).set j (decide ((x1 = true) ∨ (((reachL g ((List.replicate k1 false).set i true))[j]?.getD false) = true)))).map (eBool true))) (row := (eBool true x1)) (tv (T.orp 1 2 j 0) rfl) (tv (tB (decide ((x1 = true) ∨ (((reachL g ((List.replicate k1 false).set i true))[j]?.getD false) = true)))) rfl) nofun rfl (map_at _ hx1) rfl (lb rfl) if4 sz4 (bc rfl bn) (by intro r hr t ht; obtain ⟨x, _, rfl⟩ := List.mem_map.1 hr; rw [flBool] at ht; exact isPl_flat (okBool.pl _ t ht)) (set_mapE rfl)) (VRunO.nil (vinB.n (tn (VRun.region (mO (tN j) rfl (fO (xinc (tv (tN j) rfl) (VEv.int .i64 1) (by omega)) (aO (tN (j + 1)) rfl (VRunO.nil (tn ?_))))))))))
        have he13 : ((zipTo (partsN g i).2 (fresh g i) j).set j (decide ((x1 = true) ∨ (((reachL g ((List.replicate k1 false).set i true))[j]?.getD false) = true)))) = zipTo (partsN g i).2 (fresh g i) (j + 1) := by (refine zipTo_next hq4 (by omega) ?_; rw [e3, hfr]; exact orB _ _)
        refine ⟨(j + 1 : Nat), ?_, ?_, Wk.mk (fun k => k) ?_ ?_ ?_⟩
        · omega
        · omega
        · exact (b2 (b2 (b2 (bc ⟨(congrArg (fun n_ => T.os 1 2 0 n_) (show ((zipTo (partsN g i).2 (fresh g i) j).map (eBool true)).length = ((zipTo (partsN g i).2 (fresh g i) (j + 1)).map (eBool true)).length from (by (simp only [List.length_map, List.length_set]; rw [zipTo_len hq4 hJ1, zipTo_len hq4 (by omega)])))), rfl⟩ (b2 (b2 (b2 bn)))))))
        · exact (b3 (b3 (bc ⟨(congrArg (fun l_ => some (Obj.rows 1 (List.map (eBool true) l_))) he13), (lb rfl), rfl⟩ bn)))
        · exact nd rfl
      have hq5 : ¬ j < (partsN g i).2.length := by omega
      refine VRun.exit (vthn.e (vthn.e (vinB.e (vinB.n (tn (VRun.region (mO (tN i) rfl (fO (xinc (tv (tN i) rfl) (VEv.int .i64 1) (by omega)) (aO (tN (i + 1)) rfl (VRunO.nil (tn ?_)))))))))))
      have he14 : zipTo (partsN g i).2 (fresh g i) j = (partsN g (i + 1)).2 := by (rw [q1.2]; exact zipTo_done hq4 hq5)
      refine ⟨(i + 1 : Nat), ?_, ?_, Wk.mk (fun k => if k = 1 then 2 else  k) ?_ ?_ ?_⟩
      · exact ⟨by omega, .inl fhc1.2⟩
      · omega
      · exact (b2 (b2 (bc ⟨(congrArg (T.int .i64) (show ((((partsN g i).1 + 1) : Nat) : Int) = (((partsN g (i + 1)).1 : Nat) : Int) from (by omega))), rfl⟩ (bc ⟨(congrArg (fun l_ => T.os 1 2 0 (List.map (eBool true) l_).length) he14), rfl⟩ (b2 bn)))))
      · exact (b3 (bc ⟨(congrArg (fun l_ => some (Obj.rows 1 (List.map (eBool true) l_))) he14), (lb rfl), rfl⟩ bn))
      · exact nd rfl
    have q0 : ¬ isNew g (partsN g i).2 i := fun h => fhc2 ⟨h.1, by have := h.2; unfold on at this; rw [this]; rfl⟩
    refine sk (vinB.n (tn (VRun.region (mO (tN i) rfl (fO (xinc (tv (tN i) rfl) (VEv.int .i64 1) (by omega)) (aO (tN (i + 1)) rfl (VRunO.nil (tn ?_))))))))
    have he15 : (partsN g i).2 = (partsN g (i + 1)).2 := by (rw [parts_no q0]; done)
    refine ⟨(i + 1 : Nat), ?_, ?_, Wk.mk (fun k => k) ?_ ?_ ?_⟩
    · exact ⟨by omega, .inl fhc1.2⟩
    · omega
    · exact (b2 (b2 (bc ⟨(congrArg (T.int .i64) (show (((partsN g i).1 : Nat) : Int) = (((partsN g (i + 1)).1 : Nat) : Int) from (by (rw [parts_no q0]; done)))), rfl⟩ (bc ⟨(congrArg (fun l_ => T.os 1 1 0 (List.map (eBool true) l_).length) he15), rfl⟩ (b2 bn)))))
    · exact (b3 (bc ⟨(congrArg (fun l_ => some (Obj.rows 1 (List.map (eBool true) l_))) he15), (lb rfl), rfl⟩ bn))
    · exact nd rfl
  refine VRun.exit (vthn.e (vthn.e (vinB.e (tn (sr (mO (tN ((partsN g i).1)) rfl (aO (tN ((partsN g i).1)) rfl (nt (rt (vi (n' := (((partsN g i).1 : Nat) : Int)) rfl ?_))))))))))
  exact congrArg (fun x : Nat => (x : Int)) (parts_end hI1 hI'.2 fhc1)
end Go.Proofs.YtcccmceoplcciaaGreat.AE
namespace Go.Proofs.YtcccmceoplcciaaGreat.AE
open Go Go.RowKit
set_option linter.unusedVariables false
set_option linter.unusedSimpArgs false
set_option maxRecDepth 20000
set_option maxHeartbeats 2000000
noncomputable section
def inG (g : D.Grid) (r c : Int) : Prop := (0 ≤ r ∧ r < g.Rows) ∧ (0 ≤ c ∧ c < g.Cols)
def cellI (g : D.Grid) (r c : Int) : Nat := Int.toNat (r * g.Cols + c)
def goIn (g : D.Grid) (m : List Bool) (r c : Int) : Prop := inG g r c ∧ bAt g.Cells (cellI g r c) = 46 ∧ on m (cellI g r c) = false
instance (g : D.Grid) (m : List Bool) (r c : Int) : Decidable (goIn g m r c) := Classical.propDecidable _
def dfs : Nat → D.Grid → List Bool → Int → Int → List Bool
  | 0, _, m, _, _ => m
  | d + 1, g, m, r, c => if goIn g m r c then dfs d g (dfs d g (dfs d g (dfs d g (m.set (cellI g r c) true) (r - 1) c) (r + 1) c) r (c - 1)) r (c + 1) else m
theorem cellI_ok {g : D.Grid} {r c : Int} (hg : gridOk g) (h1 : 0 ≤ r ∧ r < g.Rows) (h2 : 0 ≤ c ∧ c < g.Cols) : (0 ≤ r * g.Cols ∧ r * g.Cols ≤ 36) ∧ 0 ≤ r * g.Cols + c ∧ r * g.Cols + c < ((g.Cells.size : Nat) : Int) := by
  have hs := hg.2.2.1
  have hz := hg.size
  have e1 : 0 ≤ r * g.Cols := Int.mul_nonneg h1.1 (by omega)
  have e2 : (r + 1) * g.Cols ≤ g.Rows * g.Cols := Int.mul_le_mul_of_nonneg_right (by omega) (by omega)
  rw [Int.add_mul, Int.one_mul] at e2
  omega
theorem cellI_nat {g : D.Grid} (hg : gridOk g) (a b : Nat) : cellI g ((a : Nat) : Int) ((b : Nat) : Int) = a * wG g + b := by
  obtain ⟨w, hw⟩ := Int.eq_ofNat_of_zero_le (show 0 ≤ g.Cols by have := hg.2.1; omega)
  unfold cellI wG
  rw [hw]
  show Int.toNat (((a : Nat) : Int) * ((w : Nat) : Int) + ((b : Nat) : Int)) = a * w + b
  rw [← Int.natCast_mul, ← Int.natCast_add, Int.toNat_natCast]
theorem size_nat {g : D.Grid} (hg : gridOk g) : g.Cells.size = g.Rows.toNat * wG g := by
  obtain ⟨⟨a1, a2⟩, ⟨b1, b2⟩, hs, _⟩ := hg
  obtain ⟨w, hw⟩ := Int.eq_ofNat_of_zero_le (show 0 ≤ g.Cols by omega)
  obtain ⟨r, hr⟩ := Int.eq_ofNat_of_zero_le (show 0 ≤ g.Rows by omega)
  unfold wG
  rw [hw, hr] at hs ⊢
  exact_mod_cast hs
theorem inG_nat {g : D.Grid} {r c : Int} (hg : gridOk g) (h : inG g r c) : ∃ a b : Nat, r = a ∧ c = b ∧ a < g.Rows.toNat ∧ b < wG g := by
  obtain ⟨⟨h1, h2⟩, h3, h4⟩ := h
  exact ⟨r.toNat, c.toNat, by omega, by omega, by omega, by unfold wG; omega⟩
theorem adj_of {g : D.Grid} {r c r' c' : Int} (hg : gridOk g) (h : inG g r c) (h' : inG g r' c') (hn : (r' = r ∧ (c' = c + 1 ∨ c' = c - 1)) ∨ (c' = c ∧ (r' = r + 1 ∨ r' = r - 1))) : adj g (cellI g r c) (cellI g r' c') := by
  obtain ⟨a, b, rfl, rfl, ha, hb⟩ := inG_nat hg h
  obtain ⟨a', b', rfl, rfl, ha', hb'⟩ := inG_nat hg h'
  rw [cellI_nat hg, cellI_nat hg]
  have hm : (a * wG g + b) % wG g = b := by rw [Nat.mul_comm, Nat.mul_add_mod, Nat.mod_eq_of_lt hb]
  have hm' : (a' * wG g + b') % wG g = b' := by rw [Nat.mul_comm, Nat.mul_add_mod, Nat.mod_eq_of_lt hb']
  rcases hn with ⟨h1, h2 | h2⟩ | ⟨h1, h2 | h2⟩
  · obtain rfl : a' = a := by omega
    exact .inl ⟨by omega, by rw [hm]; omega⟩
  · obtain rfl : a' = a := by omega
    exact .inr (.inl ⟨by omega, by rw [hm']; omega⟩)
  · obtain rfl : b' = b := by omega
    obtain rfl : a' = a + 1 := by omega
    exact .inr (.inr (.inl (by rw [Nat.add_mul, Nat.one_mul]; omega)))
  · obtain rfl : b' = b := by omega
    obtain rfl : a = a' + 1 := by omega
    exact .inr (.inr (.inr (by rw [Nat.add_mul, Nat.one_mul]; omega)))
theorem adj_cases {g : D.Grid} {r c : Int} {y : Nat} (hg : gridOk g) (h : inG g r c) (hy : y < g.Cells.size) (ha : adj g (cellI g r c) y) :
    (inG g (r - 1) c ∧ y = cellI g (r - 1) c) ∨ (inG g (r + 1) c ∧ y = cellI g (r + 1) c) ∨ (inG g r (c - 1) ∧ y = cellI g r (c - 1)) ∨ (inG g r (c + 1) ∧ y = cellI g r (c + 1)) := by
  have hsz := size_nat hg
  obtain ⟨⟨h1, h2⟩, h3, h4⟩ := h
  obtain ⟨a, b, rfl, rfl, ha', hb⟩ := inG_nat hg ⟨⟨h1, h2⟩, h3, h4⟩
  rw [cellI_nat hg] at ha
  have hm : (a * wG g + b) % wG g = b := by rw [Nat.mul_comm, Nat.mul_add_mod, Nat.mod_eq_of_lt hb]
  have hw : ((wG g : Nat) : Int) = g.Cols := by have := hg.2.1; unfold wG; omega
  rcases ha with ⟨e1, e2⟩ | ⟨e1, e2⟩ | e1 | e1
  · rw [hm] at e2
    refine .inr (.inr (.inr ⟨⟨⟨h1, h2⟩, by omega, by omega⟩, ?_⟩))
    rw [show ((b : Nat) : Int) + 1 = ((b + 1 : Nat) : Int) by omega, cellI_nat hg]; omega
  · have hb1 : 1 ≤ b := by
      rcases Nat.eq_zero_or_pos b with h0 | h0
      · subst h0
        exfalso
        have ha0 : 0 < a := by
          rcases Nat.eq_zero_or_pos a with g0 | g0
          · subst g0; omega
          · exact g0
        obtain ⟨a1, rfl⟩ : ∃ a1, a = a1 + 1 := ⟨a - 1, by omega⟩
        have e3 : y = a1 * wG g + (wG g - 1) := by rw [Nat.add_mul, Nat.one_mul] at e1; omega
        rw [e3, Nat.mul_comm, Nat.mul_add_mod, Nat.mod_eq_of_lt (by omega)] at e2
        omega
      · exact h0
    refine .inr (.inr (.inl ⟨⟨⟨h1, h2⟩, by omega, by omega⟩, ?_⟩))
    rw [show ((b : Nat) : Int) - 1 = ((b - 1 : Nat) : Int) by omega, cellI_nat hg]; omega
  · have ha1 : a + 1 < g.Rows.toNat := by
      rcases Nat.lt_or_ge (a + 1) g.Rows.toNat with g0 | g0
      · exact g0
      · have e4 : g.Rows.toNat = a + 1 := by omega
        rw [e4, Nat.add_mul, Nat.one_mul] at hsz
        omega
    refine .inr (.inl ⟨⟨⟨by omega, by omega⟩, h3, h4⟩, ?_⟩)
    rw [show ((a : Nat) : Int) + 1 = ((a + 1 : Nat) : Int) by omega, cellI_nat hg, Nat.add_mul, Nat.one_mul]; omega
  · have ha0 : 0 < a := by
      rcases Nat.eq_zero_or_pos a with g0 | g0
      · subst g0; omega
      · exact g0
    obtain ⟨a1, rfl⟩ : ∃ a1, a = a1 + 1 := ⟨a - 1, by omega⟩
    refine .inl ⟨⟨⟨by omega, by omega⟩, h3, h4⟩, ?_⟩
    rw [show ((a1 + 1 : Nat) : Int) - 1 = ((a1 : Nat) : Int) by omega, cellI_nat hg]
    rw [Nat.add_mul, Nat.one_mul] at e1; omega
theorem cellI_lt {g : D.Grid} {r c : Int} (hg : gridOk g) (h : inG g r c) : cellI g r c < g.Cells.size := by
  have := cellI_ok hg h.1 h.2
  unfold cellI
  omega
theorem dfs_len (g : D.Grid) : ∀ d m r c, (dfs d g m r c).length = m.length
  | 0, m, r, c => rfl
  | d + 1, m, r, c => by
    rw [dfs]
    split
    · rw [dfs_len g d, dfs_len g d, dfs_len g d, dfs_len g d, List.length_set]
    · rfl
theorem dfs_mono {g : D.Grid} {j : Nat} : ∀ d m r c, on m j = true → on (dfs d g m r c) j = true
  | 0, m, r, c, h => h
  | d + 1, m, r, c, h => by
    rw [dfs]
    split
    · refine dfs_mono d _ _ _ (dfs_mono d _ _ _ (dfs_mono d _ _ _ (dfs_mono d _ _ _ ?_)))
      have hlt := on_lt h
      unfold on at h ⊢
      rw [List.getElem?_set]
      split
      · rename_i e
        subst e
        rw [if_pos hlt]; rfl
      · exact h
    · exact h
theorem count_set_le {s : List Bool} {i : Nat} : (s.set i true).count false ≤ s.count false := by
  rcases Nat.lt_or_ge i s.length with h | h
  · rw [List.count_set h]; simp
  · rw [List.set_eq_of_length_le h]; exact Nat.le_refl _
theorem dfs_cnt (g : D.Grid) : ∀ d m r c, (dfs d g m r c).count false ≤ m.count false
  | 0, m, r, c => Nat.le_refl _
  | d + 1, m, r, c => by
    rw [dfs]
    split
    · exact Nat.le_trans (dfs_cnt g d _ _ _) (Nat.le_trans (dfs_cnt g d _ _ _) (Nat.le_trans (dfs_cnt g d _ _ _) (Nat.le_trans (dfs_cnt g d _ _ _) count_set_le)))
    · exact Nat.le_refl _
theorem dfs_sound {g : D.Grid} (hg : gridOk g) {P : Nat → Prop} (hP : ∀ i j, P i → adj g i j → j < g.Cells.size → bAt g.Cells j = 46 → P j) : ∀ d m r c, m.length = g.Cells.size → (inG g r c → bAt g.Cells (cellI g r c) = 46 → P (cellI g r c)) → ∀ j, on (dfs d g m r c) j = true → on m j = true ∨ P j
  | 0, m, r, c, _, _, j, hj => .inl hj
  | d + 1, m, r, c, hl, h, j, hj => by
    rw [dfs] at hj
    split at hj
    · rename_i hgo
      obtain ⟨g1, g2, g3⟩ := hgo
      have hv := h g1 g2
      have nb : ∀ r' c', ((r' = r ∧ (c' = c + 1 ∨ c' = c - 1)) ∨ (c' = c ∧ (r' = r + 1 ∨ r' = r - 1))) → inG g r' c' → bAt g.Cells (cellI g r' c') = 46 → P (cellI g r' c') := fun r' c' hn hi hw => hP _ _ hv (adj_of hg g1 hi hn) (cellI_lt hg hi) hw
      have l1 : (m.set (cellI g r c) true).length = g.Cells.size := by rw [List.length_set, hl]
      rcases dfs_sound hg hP d _ _ _ (by rw [dfs_len, dfs_len, dfs_len, l1]) (nb r (c + 1) (.inl ⟨rfl, .inl rfl⟩)) j hj with hj | hj
      · rcases dfs_sound hg hP d _ _ _ (by rw [dfs_len, dfs_len, l1]) (nb r (c - 1) (.inl ⟨rfl, .inr rfl⟩)) j hj with hj | hj
        · rcases dfs_sound hg hP d _ _ _ (by rw [dfs_len, l1]) (nb (r + 1) c (.inr ⟨rfl, .inl rfl⟩)) j hj with hj | hj
          · rcases dfs_sound hg hP d _ _ _ l1 (nb (r - 1) c (.inr ⟨rfl, .inr rfl⟩)) j hj with hj | hj
            · rw [on_set (by rw [hl]; exact cellI_lt hg g1)] at hj
              split at hj
              · rename_i e
                rw [e]; exact .inr hv
              · exact .inl hj
            · exact .inr hj
          · exact .inr hj
        · exact .inr hj
      · exact .inr hj
    · exact .inl hj
theorem dfs_at {g : D.Grid} (hg : gridOk g) {d : Nat} {m : List Bool} {r c : Int} (hl : m.length = g.Cells.size) (hc : m.count false < d) (hi : inG g r c) (hw : bAt g.Cells (cellI g r c) = 46) : on (dfs d g m r c) (cellI g r c) = true := by
  cases d with
  | zero => omega
  | succ d =>
    rw [dfs]
    split
    · refine dfs_mono d _ _ _ (dfs_mono d _ _ _ (dfs_mono d _ _ _ (dfs_mono d _ _ _ ?_)))
      rw [on_set (by rw [hl]; exact cellI_lt hg hi), if_pos rfl]
    · rename_i hn
      cases ho : on m (cellI g r c) with
      | true => rfl
      | false => exact absurd ⟨hi, hw, ho⟩ hn
theorem dfs_nb {g : D.Grid} (hg : gridOk g) : ∀ d m r c, m.length = g.Cells.size → m.count false < d → ∀ x y, on (dfs d g m r c) x = true → ¬ on m x = true → adj g x y → y < g.Cells.size → bAt g.Cells y = 46 → on (dfs d g m r c) y = true
  | 0, m, r, c, _, hc, x, y, _, _, _, _, _ => by omega
  | d + 1, m, r, c, hl, hc, x, y, hx, hnx, ha, hy, hw => by
    rw [dfs] at hx ⊢
    by_cases hgo : goIn g m r c
    · rw [if_pos hgo] at hx ⊢
      obtain ⟨g1, g2, g3⟩ := hgo
      have hcl := cellI_lt hg g1
      have l1 : (m.set (cellI g r c) true).length = g.Cells.size := by rw [List.length_set, hl]
      have c1 : (m.set (cellI g r c) true).count false < d := by
        have := count_put (by rw [hl]; exact hcl) g3
        omega
      generalize hm1 : m.set (cellI g r c) true = m1 at *
      have c2 := dfs_cnt g d m1 (r - 1) c
      have l2 := dfs_len g d m1 (r - 1) c
      generalize hm2 : dfs d g m1 (r - 1) c = m2 at *
      have c3 := dfs_cnt g d m2 (r + 1) c
      have l3 := dfs_len g d m2 (r + 1) c
      generalize hm3 : dfs d g m2 (r + 1) c = m3 at *
      have c4 := dfs_cnt g d m3 r (c - 1)
      have l4 := dfs_len g d m3 r (c - 1)
      generalize hm4 : dfs d g m3 r (c - 1) = m4 at *
      have up4 : ∀ j, on m4 j = true → on (dfs d g m4 r (c + 1)) j = true := fun j h => dfs_mono d _ _ _ h
      have up3 : ∀ j, on m3 j = true → on m4 j = true := fun j h => hm4 ▸ dfs_mono d _ _ _ h
      have up2 : ∀ j, on m2 j = true → on m3 j = true := fun j h => hm3 ▸ dfs_mono d _ _ _ h
      by_cases h4 : on m4 x = true
      · by_cases h3 : on m3 x = true
        · by_cases h2 : on m2 x = true
          · by_cases h1 : on m1 x = true
            · have hxv : x = cellI g r c := by
                rw [← hm1, on_set (by rw [hl]; exact hcl)] at h1
                split at h1
                · assumption
                · exact absurd h1 hnx
              subst hxv
              rcases adj_cases hg g1 hy ha with ⟨k1, rfl⟩ | ⟨k1, rfl⟩ | ⟨k1, rfl⟩ | ⟨k1, rfl⟩
              · exact up4 _ (up3 _ (up2 _ (hm2 ▸ dfs_at hg l1 c1 k1 hw)))
              · exact up4 _ (up3 _ (hm3 ▸ dfs_at hg (by omega) (by omega) k1 hw))
              · exact up4 _ (hm4 ▸ dfs_at hg (by omega) (by omega) k1 hw)
              · exact dfs_at hg (by omega) (by omega) k1 hw
            · exact up4 _ (up3 _ (up2 _ (hm2 ▸ dfs_nb hg d m1 (r - 1) c l1 c1 x y (hm2 ▸ h2) h1 ha hy hw)))
          · exact up4 _ (up3 _ (hm3 ▸ dfs_nb hg d m2 (r + 1) c (by omega) (by omega) x y (hm3 ▸ h3) h2 ha hy hw))
        · exact up4 _ (hm4 ▸ dfs_nb hg d m3 r (c - 1) (by omega) (by omega) x y (hm4 ▸ h4) h3 ha hy hw)
      · exact dfs_nb hg d m4 r (c + 1) (by omega) (by omega) x y hx h4 ha hy hw
    · rw [if_neg hgo] at hx
      exact absurd hx hnx
def closedB (g : D.Grid) (s : List Bool) : Prop := ∀ x y, on s x = true → adj g x y → y < g.Cells.size → bAt g.Cells y = 46 → on s y = true
theorem on_rep (n j : Nat) : on (List.replicate n false) j = false := by
  unfold on
  rw [List.getElem?_replicate]
  split <;> rfl
theorem fresh_at {g : D.Grid} {i j : Nat} (hi : i < g.Cells.size) : on ((List.replicate g.Cells.size false).set i true) j = true ↔ j = i := by
  rw [on_set (by simpa using hi), on_rep]
  split <;> simp [*]
theorem partsN_closed {g : D.Grid} : ∀ i, i ≤ g.Cells.size → closedB g (partsN g i).2
  | 0, _ => fun x y hx => by rw [partsN, on_rep] at hx; cases hx
  | i + 1, hi => by
    have ih := partsN_closed (g := g) i (by omega)
    by_cases hn : isNew g (partsN g i).2 i
    · rw [(parts_yes hn).2]
      intro x y hx ha hy hw
      have hl : (fresh g i).length = (partsN g i).2.length := by rw [fresh_len, partsN_len]
      rw [on_uni hl, Bool.or_eq_true] at hx ⊢
      rcases hx with hx | hx
      · exact .inl (ih x y hx ha hy hw)
      · exact .inr (on_reachL.2 (.step (on_reachL.1 hx) ha (by simpa using hy) hw))
    · rw [parts_no hn]; exact ih
theorem dfs_all {g : D.Grid} (hg : gridOk g) {d i : Nat} {m : List Bool} (hl : m.length = g.Cells.size) (hi : i < g.Cells.size) (hc : m.count false < d) (hcl : closedB g m) (hw : bAt g.Cells i = 46) :
    dfs d g m ((i / wG g : Nat) : Int) ((i % wG g : Nat) : Int) = uniL m (fresh g i) := by
  have hlf : (fresh g i).length = m.length := by rw [fresh_len, hl]
  have hci : cellI g ((i / wG g : Nat) : Int) ((i % wG g : Nat) : Int) = i := by
    rw [cellI_nat hg, Nat.mul_comm]; exact Nat.div_add_mod i _
  obtain ⟨⟨q1, q2⟩, _⟩ := cell_at hg hi
  have hin : inG g ((i / wG g : Nat) : Int) ((i % wG g : Nat) : Int) := by
    have hA := hg.1
    have hB := hg.2.1
    unfold wG
    generalize i / g.Cols.toNat = q at *
    generalize i % g.Cols.toNat = m' at *
    exact ⟨⟨by omega, by omega⟩, by omega, by omega⟩
  refine on_ext (by rw [dfs_len, uniL_len hlf]) fun j => ?_
  rw [on_uni hlf, Bool.or_eq_true]
  constructor
  · intro hj
    rcases dfs_sound hg (P := fun j => Rch g ((List.replicate g.Cells.size false).set i true) j) (fun a b h ha hb hw => .step h ha (by simpa using hb) hw) d m _ _ hl (fun _ _ => by rw [hci]; exact .base ((fresh_at hi).2 rfl)) j hj with h | h
    · exact .inl h
    · exact .inr (on_reachL.2 h)
  · rintro (hj | hj)
    · exact dfs_mono d _ _ _ hj
    · have hr := on_reachL.1 hj
      clear hj
      induction hr with
      | base h =>
        obtain rfl := (fresh_at hi).1 h
        have := dfs_at hg hl hc hin (by rw [hci]; exact hw)
        rwa [hci] at this
      | step h ha hb hw2 ih =>
        rename_i a b
        have hb' : b < g.Cells.size := by simpa using hb
        by_cases hma : on m a = true
        · exact dfs_mono d _ _ _ (hcl a b hma ha hb' hw2)
        · exact dfs_nb hg d m _ _ hl hc a b ih hma ha hb' hw2
end
theorem W_impl_PartsOf_1 (n : Nat) (nn : Nat) (g : D.Grid) : ∀ (d : Nat) (met : List Bool) (r : Int) (c : Int) (hg : gridOk g) (hn : nn = g.Cells.size) (hl : met.length = nn) (hr : -1 ≤ r ∧ r ≤ 6) (hc : -1 ≤ c ∧ c ≤ 6) (hu : met.count false < d), Loan (acall Tryz.prog (n + d + 1)) 185 1 (List.map (eBool true) met) [(tI r), (tI c), (T.rp (eGrid false g)), (T.vp [(T.os 1 0 0 nn)]), (vtT 185 (T.rp (eGrid false g)) (T.vp [(T.os 1 0 0 nn)]) d)] (T.tup []) (List.map (eBool true) (dfs d g met r c)) := by
  intro d
  induction d with
  | zero => intro met r c hg hn hl hr hc hu; exact absurd hu (Nat.not_lt_zero _)
  | succ d ih =>
  intro met r c hg hn hl hr hc hu
  refine Loan.intro (n := n + d + 1) (rs := []) (j := 3) (pin := (T.vp [(T.os 1 0 0 nn)])) Tryz.func185 rfl rfl rfl (by kernel_rfl) rfl (.vp _ _) .none (scMap (fun _ => rfl) _) (scMap (fun _ => rfl) _) (E0 := [(0, (tI r)), (1, (tI c)), (2, (T.rp (eGrid false g))), (3, (T.vp [(T.os 1 0 0 nn)])), (4, (vtT 185 (T.rp (eGrid false g)) (T.vp [(T.os 1 0 0 nn)]) (d + 1)))]) rfl ?_
  obtain ⟨hlim, hmx, hmax⟩ := lims
  have hsz := hg.size
  have hA := hg.1
  have hB := hg.2.1
  refine sq (sr (mO (tI r) rfl (lr (tI g.Rows) rfl (lb rfl) fa34_0 rfl st3 (cO (cS (vc (tv (tI r) rfl) (vc (tv (tI g.Rows) rfl) vn)) (lps rfl) (W_impl_at (n + d + 0) r g.Rows ) rfl rfl) (fO (xnot (tv (tB (decide (0 ≤ r ∧ r < g.Rows))) rfl)) (mO (tB (!(decide (0 ≤ r ∧ r < g.Rows)))) rfl ?_))))))
  refine VRunO.joinB 6 [13, 14, 15, 16, 17] 18 (tB (decide ((¬ (0 ≤ r ∧ r < g.Rows)) ∨ (¬ (0 ≤ c ∧ c < g.Cols))))) ?_ ?_
  · refine gn (0 ≤ r ∧ r < g.Rows) (fun fhg12_1 => ?_) fun fhg12_1 => ?_
    · refine offs 5 5 false 12 (ny fhg12_1) rfl rfl rfl ?_
      refine fO (OF.pickT (VEv.tmpB rfl (ny fhg12_1)) (VEv.bool true)) (VRunO.nil ?_)
      exact jq (congrArg T.bool (kOT fhg12_1)) (js rfl (js rfl (js rfl (js rfl (js rfl (jn))))))
    · refine gF (nz fhg12_1) rfl rfl (OF.move (tv (tI c) rfl)) ?_
      refine glr (tI g.Cols) (nz fhg12_1) rfl rfl rfl rfl (lb rfl) fa34_1 rfl st3 (VRunO.chain (VWant.on rfl rfl (nz fhg12_1)) (cS (vc (tv (tI c) rfl) (vc (tv (tI g.Cols) rfl) vn)) (lps rfl) (W_impl_at (n + d + 0) c g.Cols ) rfl rfl) (gF (nz fhg12_1) rfl rfl (xnot (tv (tB (decide (0 ≤ c ∧ c < g.Cols))) rfl)) (fO (OF.pickF (VEv.tmpB rfl (nz fhg12_1)) (tv (tB (!(decide (0 ≤ c ∧ c < g.Cols)))) rfl)) (VRunO.nil ?_))))
      exact jq (congrArg T.bool (kOF (not_not_intro fhg12_1) dN)) (js rfl (js rfl (js rfl (js rfl (js rfl (jn))))))
  refine mO (tB (decide ((¬ (0 ≤ r ∧ r < g.Rows)) ∨ (¬ (0 ≤ c ∧ c < g.Cols))))) rfl ?_
  refine VRunO.joinB 10 [20, 21, 22, 23, 24, 25, 26, 27, 28] 29 (tB (decide (((¬ (0 ≤ r ∧ r < g.Rows)) ∨ (¬ (0 ≤ c ∧ c < g.Cols))) ∨ ((met[(Int.toNat ((r * g.Cols) + c))]?.getD false) = true)))) ?_ ?_
  · refine gw ((¬ (0 ≤ r ∧ r < g.Rows)) ∨ (¬ (0 ≤ c ∧ c < g.Cols))) (fun fhg19_2 => ?_) fun fhg19_2 => ?_
    · refine offs 9 12 false 19 (dy fhg19_2) rfl rfl rfl ?_
      refine fO (OF.pickT (VEv.tmpB rfl (dy fhg19_2)) (VEv.bool true)) (VRunO.nil ?_)
      exact jq (congrArg T.bool (kOT fhg19_2)) (js rfl (js rfl (js rfl (js rfl (js rfl (js rfl (js rfl (js rfl (js rfl (jn))))))))))
    · have hz := cellI_ok hg (r := r) (c := c) (by omega) (by omega)
      refine gL (dz fhg19_2) rfl rfl (OL.loadV1 (t := (T.os 1 0 0 nn)) (tv (T.vp [(T.os 1 0 0 nn)]) rfl) rfl st176) (gF (dz fhg19_2) rfl rfl (OF.move (tv (tI r) rfl)) (glr (tI g.Cols) (dz fhg19_2) rfl rfl rfl rfl (lb rfl) fa34_1 rfl st3 (gF (dz fhg19_2) rfl rfl (B.mul (n := (r * g.Cols)) (tv (tI r) rfl) (tv (tI g.Cols) rfl) (by (rw [wrap64 (by omega)]; done))) (gF (dz fhg19_2) rfl rfl (OF.move (tv (tI c) rfl)) (gF (dz fhg19_2) rfl rfl (B.add (n := ((r * g.Cols) + c)) (tv (tI (r * g.Cols)) rfl) (tv (tI c) rfl) (by (rw [wrap64 (by omega)]; done))) ?_)))))
      have hy3 : met[(Int.toNat ((r * g.Cols) + c))]? = some (met[(Int.toNat ((r * g.Cols) + c))]?.getD false) := getD_at false (by omega)
      refine gF (dz fhg19_2) rfl rfl (B.indexAddrO (i := (Int.toNat ((r * g.Cols) + c))) (tv (T.os 1 0 0 nn) rfl) (tv (tI ((r * g.Cols) + c)) rfl) (by omega) (by omega) U176 sz4 if4) (gL (dz fhg19_2) rfl rfl (OL.loadP1 (t := (tB (met[(Int.toNat ((r * g.Cols) + c))]?.getD false))) (row := (eBool true (met[(Int.toNat ((r * g.Cols) + c))]?.getD false))) (tv (T.orp 1 0 (Int.toNat ((r * g.Cols) + c)) 0) rfl) rfl (map_at _ hy3) rfl rfl st4) (fO (OF.pickF (VEv.tmpB rfl (dz fhg19_2)) (tv (tB (met[(Int.toNat ((r * g.Cols) + c))]?.getD false)) rfl)) (VRunO.nil ?_)))
      exact jq (congrArg T.bool (kOF fhg19_2 (dT _))) (js rfl (js rfl (js rfl (js rfl (js rfl (js rfl (js rfl (js rfl (js rfl (jn))))))))))
  refine mO (tB (decide (((¬ (0 ≤ r ∧ r < g.Rows)) ∨ (¬ (0 ≤ c ∧ c < g.Cols))) ∨ ((met[(Int.toNat ((r * g.Cols) + c))]?.getD false) = true)))) rfl ?_
  refine VRunO.joinB 11 [31, 32, 33, 34, 35, 36, 37, 38, 39, 40] 41 (tB (decide ((((¬ (0 ≤ r ∧ r < g.Rows)) ∨ (¬ (0 ≤ c ∧ c < g.Cols))) ∨ ((met[(Int.toNat ((r * g.Cols) + c))]?.getD false) = true)) ∨ (¬ (bAt g.Cells (Int.toNat ((r * g.Cols) + c)) = 46))))) ?_ ?_
  · refine gw (((¬ (0 ≤ r ∧ r < g.Rows)) ∨ (¬ (0 ≤ c ∧ c < g.Cols))) ∨ ((met[(Int.toNat ((r * g.Cols) + c))]?.getD false) = true)) (fun fhg30_4 => ?_) fun fhg30_4 => ?_
    · refine offs 10 23 false 30 (dy fhg30_4) rfl rfl rfl ?_
      refine fO (OF.pickT (VEv.tmpB rfl (dy fhg30_4)) (VEv.bool true)) (VRunO.nil ?_)
      exact jq (congrArg T.bool (kOT fhg30_4)) (js rfl (js rfl (js rfl (js rfl (js rfl (js rfl (js rfl (js rfl (js rfl (js rfl (jn)))))))))))
    · have hz := cellI_ok hg (r := r) (c := c) (by omega) (by omega)
      refine glr (tS g.Cells) (dz fhg30_4) rfl rfl rfl rfl (lb rfl) fa34_2 rfl st9 (gF (dz fhg30_4) rfl rfl (OF.move (tv (tI r) rfl)) (glr (tI g.Cols) (dz fhg30_4) rfl rfl rfl rfl (lb rfl) fa34_1 rfl st3 (gF (dz fhg30_4) rfl rfl (B.mul (n := (r * g.Cols)) (tv (tI r) rfl) (tv (tI g.Cols) rfl) (by (rw [wrap64 (by omega)]; done))) (gF (dz fhg30_4) rfl rfl (OF.move (tv (tI c) rfl)) (gF (dz fhg30_4) rfl rfl (B.add (n := ((r * g.Cols) + c)) (tv (tI (r * g.Cols)) rfl) (tv (tI c) rfl) (by (rw [wrap64 (by omega)]; done))) ?_)))))
      have hb5 : (Int.toNat ((r * g.Cols) + c)) < g.Cells.size := (by omega)
      refine gF (dz fhg30_4) rfl rfl (B.index (n := (bAt g.Cells (Int.toNat ((r * g.Cols) + c)))) (i := (Int.toNat ((r * g.Cols) + c))) (tv (tS g.Cells) rfl) (tv (tI ((r * g.Cols) + c)) rfl) (by omega) hb5 U9 (bAt_eq hb5)) (gF (dz fhg30_4) rfl rfl (xne (tv (T.int .u8 (bAt g.Cells (Int.toNat ((r * g.Cols) + c)))) rfl) (VEv.int .u8 46)) (fO (OF.pickF (VEv.tmpB rfl (dz fhg30_4)) (tv (tB (!(decide (bAt g.Cells (Int.toNat ((r * g.Cols) + c)) = 46)))) rfl)) (VRunO.nil ?_)))
      exact jq (congrArg T.bool (kOF fhg30_4 dN)) (js rfl (js rfl (js rfl (js rfl (js rfl (js rfl (js rfl (js rfl (js rfl (js rfl (jn)))))))))))
  refine nt ?_
  refine cd ((((¬ (0 ≤ r ∧ r < g.Rows)) ∨ (¬ (0 ≤ c ∧ c < g.Cols))) ∨ ((met[(Int.toNat ((r * g.Cols) + c))]?.getD false) = true)) ∨ (¬ (bAt g.Cells (Int.toNat ((r * g.Cols) + c)) = 46))) rfl (fun fhc0 => ?_) fun fhc0 => ?_
  · refine rt ?_
    refine tr ?_
    have hnew : met = dfs (d + 1) g met r c := by
      rw [dfs, if_neg]; rintro ⟨h1, h2, h3⟩; rcases fhc0 with (h | h) | h; exact h.elim (fun h => h h1.1) (fun h => h h1.2); exact on_no.1 h3 h; exact h h2
    exact vloan.r 0 VRes.nil rfl rfl rfl (congrArg (List.map (eBool true)) hnew)
  have hz := cellI_ok hg (r := r) (c := c) (by omega) (by omega)
  have hin : inG g r c := ⟨by omega, by omega⟩
  have hgo : goIn g met r c := ⟨hin, by unfold cellI; omega, on_no.2 (fun h => fhc0 (.inl (.inr h)))⟩
  have hct := count_put (s := met) (i := cellI g r c) (by rw [hl, hn]; exact cellI_lt hg hin) hgo.2.2
  unfold cellI at hct
  have d1 := dfs_cnt g d (met.set (Int.toNat (r * g.Cols + c)) true) (r - 1) c
  have d2 := dfs_cnt g d (dfs d g (met.set (Int.toNat (r * g.Cols + c)) true) (r - 1) c) (r + 1) c
  have d3 := dfs_cnt g d (dfs d g (dfs d g (met.set (Int.toNat (r * g.Cols + c)) true) (r - 1) c) (r + 1) c) r (c - 1)
  refine sk (tn (sr (lO (OL.loadV1 (t := (T.os 1 0 0 nn)) (tv (T.vp [(T.os 1 0 0 nn)]) rfl) rfl st176) (mO (tI r) rfl (lr (tI g.Cols) rfl (lb rfl) fa34_1 rfl st3 (fO (B.mul (n := (r * g.Cols)) (tv (tI r) rfl) (tv (tI g.Cols) rfl) (by (rw [wrap64 (by omega)]; done))) (mO (tI c) rfl (fO (B.add (n := ((r * g.Cols) + c)) (tv (tI (r * g.Cols)) rfl) (tv (tI c) rfl) (by (rw [wrap64 (by omega)]; done))) ?_))))))))
  obtain ⟨x1, hx1⟩ : ∃ x, met[(Int.toNat ((r * g.Cols) + c))]? = some x := ⟨_, List.getElem?_eq_getElem (by omega)⟩
  refine fO (B.indexAddrO (i := (Int.toNat ((r * g.Cols) + c))) (tv (T.os 1 0 0 nn) rfl) (tv (tI ((r * g.Cols) + c)) rfl) (by omega) (by omega) U176 sz4 if4) (cO (B.storeP (us := [(tB true)]) (rows' := ((met.set (Int.toNat ((r * g.Cols) + c)) true).map (eBool true))) (row := (eBool true x1)) (tv (T.orp 1 0 (Int.toNat ((r * g.Cols) + c)) 0) rfl) (VEv.bool true) nofun rfl (map_at _ hx1) rfl (lb rfl) if4 sz4 (bc rfl bn) (by intro r hr t ht; obtain ⟨x, _, rfl⟩ := List.mem_map.1 hr; rw [flBool] at ht; exact isPl_flat (okBool.pl _ t ht)) (set_mapE rfl)) (nt (sr (lO (OL.loadV1 (t := (T.fn 185 [(T.rp (eGrid false g)), (T.vp [(T.os 1 0 0 nn)]), (vtT 185 (T.rp (eGrid false g)) (T.vp [(T.os 1 0 0 nn)]) d)])) (tv (vtT 185 (T.rp (eGrid false g)) (T.vp [(T.os 1 0 0 nn)]) (d + 1)) rfl) rfl st178) (mO (tI r) rfl (fO (B.sub (n := (r - 1)) (tv (tI r) rfl) (VEv.int .i64 1) (by (rw [wrap64 (by omega)]; done))) (mO (tI c) rfl (cO (OC.callvLoan (ts := [(tI (r - 1)), (tI c), (T.rp (eGrid false g)), (T.vp [(T.os 1 0 0 nn)]), (vtT 185 (T.rp (eGrid false g)) (T.vp [(T.os 1 0 0 nn)]) d)]) (k := 0) (r := (T.tup [])) (rows := ((met.set (Int.toNat ((r * g.Cols) + c)) true).map (eBool true))) (rows' := ((dfs d g (met.set (Int.toNat ((r * g.Cols) + c)) true) (r - 1) c).map (eBool true))) rfl rfl (vc (tv (tI (r - 1)) rfl) (vc (tv (tI c) rfl) vn)) rfl (by simp only [renL, ren, vtT_ren, List.cons_append, List.nil_append]) (tl rfl (tl rfl (tl rfl (tl rfl (tl (vtT_lt rfl rfl _) rfl))))) LRes.none rfl (scMap (fun _ => rfl) _) (scMap (fun _ => rfl) _) (ih (met.set (Int.toNat ((r * g.Cols) + c)) true) (r - 1) c (by assumption) (by assumption) (by (simp only [dfs_len, List.length_set]; omega)) (by omega) (by assumption) (by omega))) (nt (sr (lO (OL.loadV1 (t := (T.fn 185 [(T.rp (eGrid false g)), (T.vp [(T.os 1 0 0 nn)]), (vtT 185 (T.rp (eGrid false g)) (T.vp [(T.os 1 0 0 nn)]) d)])) (tv (vtT 185 (T.rp (eGrid false g)) (T.vp [(T.os 1 0 0 nn)]) (d + 1)) rfl) rfl st178) ?_)))))))))))
  refine mO (tI r) rfl (fO (B.add (n := (r + 1)) (tv (tI r) rfl) (VEv.int .i64 1) (by (rw [wrap64 (by omega)]; done))) (mO (tI c) rfl (cO (OC.callvLoan (ts := [(tI (r + 1)), (tI c), (T.rp (eGrid false g)), (T.vp [(T.os 1 0 0 nn)]), (vtT 185 (T.rp (eGrid false g)) (T.vp [(T.os 1 0 0 nn)]) d)]) (k := 0) (r := (T.tup [])) (rows := ((dfs d g (met.set (Int.toNat ((r * g.Cols) + c)) true) (r - 1) c).map (eBool true))) (rows' := ((dfs d g (dfs d g (met.set (Int.toNat ((r * g.Cols) + c)) true) (r - 1) c) (r + 1) c).map (eBool true))) rfl rfl (vc (tv (tI (r + 1)) rfl) (vc (tv (tI c) rfl) vn)) rfl (by simp only [renL, ren, vtT_ren, List.cons_append, List.nil_append]) (tl rfl (tl rfl (tl rfl (tl rfl (tl (vtT_lt rfl rfl _) rfl))))) LRes.none rfl (scMap (fun _ => rfl) _) (scMap (fun _ => rfl) _) (ih (dfs d g (met.set (Int.toNat ((r * g.Cols) + c)) true) (r - 1) c) (r + 1) c (by assumption) (by assumption) (by (simp only [dfs_len, List.length_set]; omega)) (by omega) (by assumption) (by omega))) (nt (sr (lO (OL.loadV1 (t := (T.fn 185 [(T.rp (eGrid false g)), (T.vp [(T.os 1 0 0 nn)]), (vtT 185 (T.rp (eGrid false g)) (T.vp [(T.os 1 0 0 nn)]) d)])) (tv (vtT 185 (T.rp (eGrid false g)) (T.vp [(T.os 1 0 0 nn)]) (d + 1)) rfl) rfl st178) (mO (tI r) rfl (mO (tI c) rfl (fO (B.sub (n := (c - 1)) (tv (tI c) rfl) (VEv.int .i64 1) (by (rw [wrap64 (by omega)]; done))) (cO (OC.callvLoan (ts := [(tI r), (tI (c - 1)), (T.rp (eGrid false g)), (T.vp [(T.os 1 0 0 nn)]), (vtT 185 (T.rp (eGrid false g)) (T.vp [(T.os 1 0 0 nn)]) d)]) (k := 0) (r := (T.tup [])) (rows := ((dfs d g (dfs d g (met.set (Int.toNat ((r * g.Cols) + c)) true) (r - 1) c) (r + 1) c).map (eBool true))) (rows' := ((dfs d g (dfs d g (dfs d g (met.set (Int.toNat ((r * g.Cols) + c)) true) (r - 1) c) (r + 1) c) r (c - 1)).map (eBool true))) rfl rfl (vc (tv (tI r) rfl) (vc (tv (tI (c - 1)) rfl) vn)) rfl (by simp only [renL, ren, vtT_ren, List.cons_append, List.nil_append]) (tl rfl (tl rfl (tl rfl (tl rfl (tl (vtT_lt rfl rfl _) rfl))))) LRes.none rfl (scMap (fun _ => rfl) _) (scMap (fun _ => rfl) _) (ih (dfs d g (dfs d g (met.set (Int.toNat ((r * g.Cols) + c)) true) (r - 1) c) (r + 1) c) r (c - 1) (by assumption) (by assumption) (by (simp only [dfs_len, List.length_set]; omega)) (by assumption) (by omega) (by omega))) (nt ?_)))))))))))
  refine VRun.region (lO (OL.loadV1 (t := (T.fn 185 [(T.rp (eGrid false g)), (T.vp [(T.os 1 0 0 nn)]), (vtT 185 (T.rp (eGrid false g)) (T.vp [(T.os 1 0 0 nn)]) d)])) (tv (vtT 185 (T.rp (eGrid false g)) (T.vp [(T.os 1 0 0 nn)]) (d + 1)) rfl) rfl st178) (mO (tI r) rfl (mO (tI c) rfl (fO (B.add (n := (c + 1)) (tv (tI c) rfl) (VEv.int .i64 1) (by (rw [wrap64 (by omega)]; done))) (cO (OC.callvLoan (ts := [(tI r), (tI (c + 1)), (T.rp (eGrid false g)), (T.vp [(T.os 1 0 0 nn)]), (vtT 185 (T.rp (eGrid false g)) (T.vp [(T.os 1 0 0 nn)]) d)]) (k := 0) (r := (T.tup [])) (rows := ((dfs d g (dfs d g (dfs d g (met.set (Int.toNat ((r * g.Cols) + c)) true) (r - 1) c) (r + 1) c) r (c - 1)).map (eBool true))) (rows' := ((dfs d g (dfs d g (dfs d g (dfs d g (met.set (Int.toNat ((r * g.Cols) + c)) true) (r - 1) c) (r + 1) c) r (c - 1)) r (c + 1)).map (eBool true))) rfl rfl (vc (tv (tI r) rfl) (vc (tv (tI (c + 1)) rfl) vn)) rfl (by simp only [renL, ren, vtT_ren, List.cons_append, List.nil_append]) (tl rfl (tl rfl (tl rfl (tl rfl (tl (vtT_lt rfl rfl _) rfl))))) LRes.none rfl (scMap (fun _ => rfl) _) (scMap (fun _ => rfl) _) (ih (dfs d g (dfs d g (dfs d g (met.set (Int.toNat ((r * g.Cols) + c)) true) (r - 1) c) (r + 1) c) r (c - 1)) r (c + 1) (by assumption) (by assumption) (by (simp only [dfs_len, List.length_set]; omega)) (by assumption) (by omega) (by omega))) (VRunO.nil ?_))))))
  have hnew : dfs d g (dfs d g (dfs d g (dfs d g (met.set (Int.toNat ((r * g.Cols) + c)) true) (r - 1) c) (r + 1) c) r (c - 1)) r (c + 1) = dfs (d + 1) g met r c := by
    rw [dfs, if_pos hgo]; rfl
  exact vloan.n 0 VRes.nil rfl rfl rfl (congrArg (List.map (eBool true)) hnew)
theorem W_impl_PartsOf (n : Nat) (g : D.Grid) (hc : g.Cells.size ≤ mx) : Pure (acall Tryz.prog (n + 39)) 161 [(T.agg (eGrid false g))] (tN (partsG g)) := by
  refine Pure.intro (rs := [ResultVar.tmp 2]) Tryz.func161 rfl rfl rfl (E0 := [(0, (T.agg (eGrid false g)))]) rfl ?_
  obtain ⟨hlim, hmx, hmax⟩ := lims
  refine sr (kO (B.box (ts := (eGrid false g)) (tv (T.agg (eGrid false g)) rfl) nofun rfl) (fO (OF.assign (VEv.int .i64 0)) (nt (sq (sr (lO (OL.loadOn (us := (eGrid false g)) (tv (T.op 0 0) rfl) rfl st34 sz34 (lb rfl) rfl) (cO (cS (vc (tv (T.agg (eGrid false g)) rfl) vn) (LendL.cons (lg okeGrid) ln) (W_impl_IsGrid (n + 36) g (by omega)) rfl rfl) (fO (xnot (tv (tB (decide (gridOk g))) rfl)) (nt ?_)))))))))
  refine cn (gridOk g) rfl (fun fhc0 => ?_) fun fhc0 => ?_
  · refine sr ?_
    refine fO (OF.assign (VEv.int .i64 0)) (nt (rt (tr (vi (n' := 0) rfl ?_))))
    rw [partsG, if_neg (by simpa using fhc0)]; rfl
  have hgo : gridOk g := by simpa using fhc0
  have hsz := hgo.size
  have hA := hgo.1
  have hB := hgo.2.1
  refine sk (tn (sr (lf (tS g.Cells) rfl fa34_2 rfl rfl st9 (lO (B.lenS (tv (tS g.Cells) rfl) U9) (kO (B.makeZ (n := g.Cells.size) (m := ((List.replicate g.Cells.size false).map (eBool true)).length) (rows := ((List.replicate g.Cells.size false).map (eBool true))) (zr := (eBool true false)) (tv (tN g.Cells.size) rfl) (tv (tN g.Cells.size) rfl) rfl U176 zo4 zc4 rfl (by rw [sz4]; decide) (by omega) (of_decide_eq_true (by kernel_rfl)) (Z0.bool Z0.nil) sz4 (List.map_replicate ..).symm (by rw [List.length_map, List.length_replicate])) (kO (B.alloc (t := T.nils) (ts := [T.nils]) zo176 zc176 nofun (fun _ => .nils) rfl) (cO (B.storeO (us := [(T.os 1 1 0 (((List.replicate g.Cells.size false).map (eBool true)).length))]) (ws := [(T.os 1 1 0 (((List.replicate g.Cells.size false).map (eBool true)).length))]) (tv (T.op 2 0) rfl) (tv (T.os 1 1 0 (((List.replicate g.Cells.size false).map (eBool true)).length)) rfl) nofun rfl rfl (lb rfl) if176 sz176 (bc rfl bn) rfl) (nt (sr (kO (B.alloc (t := T.fn0) (ts := [T.fn0]) (show zeroOf Tryz.prog 178 = some .nilFunc by kernel_rfl) (show closedV .nilFunc = true by kernel_rfl) nofun (fun _ => .fn0) rfl) (nt ?_)))))))))))
  refine sr (fO (OF.makeFunc (vc (tv (T.op 0 0) rfl) (vc (tv (T.op 2 0) rfl) (vc (tv (T.op 3 0) rfl) vn)))) (cO (B.storeO (us := [(T.fn 185 [(T.op 0 0), (T.op 2 0), (T.op 3 0)])]) (ws := [(T.fn 185 [(T.op 0 0), (T.op 2 0), (T.op 3 0)])]) (tv (T.op 3 0) rfl) (tv (T.fn 185 [(T.op 0 0), (T.op 2 0), (T.op 3 0)]) rfl) nofun rfl rfl (lb rfl) if178 sz178 (bc rfl bn) rfl) (nt (VRun.wk (Wk.recv (sz := 1) (k := 1) (us := (eGrid false g)) (f := 185) 38 (d1 := 1) (d2 := 3) (d3 := 4) rfl rfl rfl rfl rfl rfl (by decide) (by decide) (by decide) (bc rfl (bc rfl (bc rfl bn)))) (sr (fO (OF.assign (VEv.int .i64 0)) (nt (sq (sr (lr (tS g.Cells) rfl (lb rfl) fa34_2 rfl st9 (lO (B.lenS (tv (tS g.Cells) rfl) U9) ?_)))))))))))
  refine fO (OF.move (VEv.int .i64 0)) (nt (VRun.block ?_))
  have he1 : (List.replicate g.Cells.size false) = (partsN g 0).2 := by rfl
  refine VRun.loop (A := Nat) (fun s_ => [(1, (T.rp (eGrid false g))), (2, (tN 0)), (3, (T.vp [(T.os 1 0 0 (((List.replicate g.Cells.size false).map (eBool true)).length))])), (4, (vtT 185 (T.rp (eGrid false g)) (T.vp [(T.os 1 0 0 (((List.replicate g.Cells.size false).map (eBool true)).length))]) 38)), (5, (tN ((partsN g s_).1))), (17, (tN g.Cells.size)), (18, (tN s_))]) (fun s_ => mkO [(0, (Obj.rows 1 (((partsN g s_).2).map (eBool true))))]) 1 (fun s_ => s_ ≤ g.Cells.size) (fun s_ => g.Cells.size - s_) (0 : Nat) ?_ (Wk.mk (fun k => if k = 0 then 1 else  k) ?_ ?_ ?_) ?_
  · (simp; done)
  · exact (b2 (b2 (b2 (b2 (bc ⟨(congrArg (T.int .i64) (show 0 = (((partsN g 0).1 : Nat) : Int) from (by rfl))), rfl⟩ (b2 (b2 bn)))))))
  · exact (bc ⟨(congrArg (fun l_ => some (Obj.rows 1 (List.map (eBool true) l_))) he1), (lb rfl), rfl⟩ bn)
  · exact nd rfl
  rintro i (hI' : i ≤ g.Cells.size)
  show VRun _ _ _ [(1, (T.rp (eGrid false g))), (2, (tN 0)), (3, (T.vp [(T.os 1 0 0 (((List.replicate g.Cells.size false).map (eBool true)).length))])), (4, (vtT 185 (T.rp (eGrid false g)) (T.vp [(T.os 1 0 0 (((List.replicate g.Cells.size false).map (eBool true)).length))]) 38)), (5, (tN ((partsN g i).1))), (17, (tN g.Cells.size)), (18, (tN i))] (mkO [(0, (Obj.rows 1 (((partsN g i).2).map (eBool true))))]) 1 _
  have hI1 := hI'
  have hpl := partsN_len g i
  have hpn := partsN_le g i
  refine sr (fO (xls' (tv (tN i) rfl) (tv (tN g.Cells.size) rfl)) (nt (sq ?_)))
  refine cd (i < g.Cells.size) rfl (fun fhc1 => ?_) fun fhc1 => ?_
  · refine sk ?_
    refine tn (sq (VRun.block (sr (mO (tN i) rfl (aO (tN i) rfl (nt (sr (lr (tS g.Cells) rfl (lb rfl) fa34_2 rfl st9 (mO (tN i) rfl ?_)))))))))
    have hb2 : i < g.Cells.size := (by omega)
    refine fO (xix (tv (tS g.Cells) rfl) (tv (tN i) rfl) hb2 U9) (fO (xeq (tv (T.int .u8 (bAt g.Cells i)) rfl) (VEv.int .u8 46)) (mO (tB (decide (bAt g.Cells i = 46))) rfl ?_))
    refine VRunO.joinB 6 [27, 28, 29, 30, 31] 32 (tB (decide ((bAt g.Cells i = 46) ∧ ((!(((partsN g i).2)[i]?.getD false)) = true)))) ?_ ?_
    · refine gw (bAt g.Cells i = 46) (fun fhg26_3 => ?_) fun fhg26_3 => ?_
      · refine gL (dy fhg26_3) rfl rfl (OL.loadV1 (t := (T.os 1 0 0 (((List.replicate g.Cells.size false).map (eBool true)).length))) (tv (T.vp [(T.os 1 0 0 (((List.replicate g.Cells.size false).map (eBool true)).length))]) rfl) rfl st176) ?_
        refine gF (dy fhg26_3) rfl rfl (OF.move (tv (tN i) rfl)) ?_
        have hy4 : ((partsN g i).2)[i]? = some (((partsN g i).2)[i]?.getD false) := getD_at false (by omega)
        refine gF (dy fhg26_3) rfl rfl (B.indexAddrO (i := i) (tv (T.os 1 0 0 (((List.replicate g.Cells.size false).map (eBool true)).length)) rfl) (tv (tN i) rfl) rfl (by (simp only [List.length_map, List.length_replicate]; omega)) U176 sz4 if4) (gL (dy fhg26_3) rfl rfl (OL.loadP1 (t := (tB (((partsN g i).2)[i]?.getD false))) (row := (eBool true (((partsN g i).2)[i]?.getD false))) (tv (T.orp 1 0 i 0) rfl) rfl (map_at _ hy4) rfl rfl st4) (gF (dy fhg26_3) rfl rfl (xnot (tv (tB (((partsN g i).2)[i]?.getD false)) rfl)) (fO (OF.pickT (VEv.tmpB rfl (dy fhg26_3)) (tv (tB (!(((partsN g i).2)[i]?.getD false))) rfl)) (VRunO.nil ?_))))
        exact jq (congrArg T.bool (kAT fhg26_3 (dT _))) (js rfl (js rfl (js rfl (js rfl (js rfl (jn))))))
      · refine offs 5 5 true 26 (dz fhg26_3) rfl rfl rfl ?_
        refine fO (OF.pickF (VEv.tmpB rfl (dz fhg26_3)) (VEv.bool false)) (VRunO.nil ?_)
        exact jq (congrArg T.bool (kAF fhg26_3)) (js rfl (js rfl (js rfl (js rfl (js rfl (jn))))))
    refine nt ?_
    refine cd ((bAt g.Cells i = 46) ∧ ((!(((partsN g i).2)[i]?.getD false)) = true)) rfl (fun fhc2 => ?_) fun fhc2 => ?_
    · have q0 : isNew g (partsN g i).2 i := ⟨fhc2.1, by simpa [on] using fhc2.2⟩
      have q1 := parts_yes q0
      have hci := cell_at hgo (show i < g.Cells.size by omega)
      have hq0 : 0 ≤ ((i : Nat) : Int) / ((g.Cols.toNat : Nat) : Int) := Int.ediv_nonneg (by omega) (by omega)
      have hm0 : 0 ≤ ((i : Nat) : Int) % ((g.Cols.toNat : Nat) : Int) := Int.emod_nonneg _ (by omega)
      refine sr (mO (tN ((partsN g i).1)) rfl (fO (xinc (tv (tN ((partsN g i).1)) rfl) (VEv.int .i64 1) (by omega)) (aO (tN ((partsN g i).1 + 1)) rfl (nt (VRun.draw (B := [[], [], [], [2], [2, 3, 1], [], [], [6], [6, 7, 5], [5, 7, 6, 8, 1, 3, 2, 4, 0]]) (by kernel_rfl) (by kernel_rfl) (lD (OL.loadV1 (t := (T.fn 185 [(T.rp (eGrid false g)), (T.vp [(T.os 1 0 0 (((List.replicate g.Cells.size false).map (eBool true)).length))]), (vtT 185 (T.rp (eGrid false g)) (T.vp [(T.os 1 0 0 (((List.replicate g.Cells.size false).map (eBool true)).length))]) 37)])) (tv (vtT 185 (T.rp (eGrid false g)) (T.vp [(T.os 1 0 0 (((List.replicate g.Cells.size false).map (eBool true)).length))]) 38) rfl) rfl st178) rfl rfl (mD (tN i) rfl rfl (fD (B.fieldAddrR (us := ((eGrid false g).drop 1)) (tv (T.rp (eGrid false g)) rfl) (lb rfl) fa34_1 rfl) rfl rfl (lD (OL.loadR1 (t := (tI g.Cols)) (tv (T.rp ((eGrid false g).drop 1)) rfl) rfl st3) rfl rfl (fD (B.quo (n := ((i / g.Cols.toNat : Nat) : Int)) (tv (tN i) rfl) (tv (tI g.Cols) rfl) (by omega) (by (refine quoN ?_ ?_ <;> omega))) rfl rfl (mD (tN i) rfl rfl ?_)))))))))))
      refine fD (B.fieldAddrR (us := ((eGrid false g).drop 1)) (tv (T.rp (eGrid false g)) rfl) (lb rfl) fa34_1 rfl) rfl rfl (lD (OL.loadR1 (t := (tI g.Cols)) (tv (T.rp ((eGrid false g).drop 1)) rfl) rfl st3) rfl rfl (fD (B.rem (n := ((i % g.Cols.toNat : Nat) : Int)) (tv (tN i) rfl) (tv (tI g.Cols) rfl) (by omega) (by (refine remN ?_; omega))) rfl rfl (VRunD.chain (bi := [5, 7, 6, 8, 1, 3, 2, 4, 0]) rfl VWant.always rfl rfl rfl (by kernel_rfl) (OC.callvLoan (ts := [(tN (i / g.Cols.toNat)), (tN (i % g.Cols.toNat)), (T.rp (eGrid false g)), (T.vp [(T.os 1 0 0 (((List.replicate g.Cells.size false).map (eBool true)).length))]), (vtT 185 (T.rp (eGrid false g)) (T.vp [(T.os 1 0 0 (((List.replicate g.Cells.size false).map (eBool true)).length))]) 37)]) (k := 0) (r := (T.tup [])) (rows := (((partsN g i).2).map (eBool true))) (rows' := ((dfs 37 g ((partsN g i).2) ((i / g.Cols.toNat : Nat) : Int) ((i % g.Cols.toNat : Nat) : Int)).map (eBool true))) rfl rfl (vc (tv (tN (i / g.Cols.toNat)) rfl) (vc (tv (tN (i % g.Cols.toNat)) rfl) vn)) rfl (by simp only [renL, ren, vtT_ren, List.cons_append, List.nil_append]) (tl rfl (tl rfl (tl rfl (tl rfl (tl (vtT_lt rfl rfl _) rfl))))) LRes.none rfl (scMap (fun _ => rfl) _) (scMap (fun _ => rfl) _) (W_impl_PartsOf_1 (n + 0) (((List.replicate g.Cells.size false).map (eBool true)).length) g 37 ((partsN g i).2) ((i / g.Cols.toNat : Nat) : Int) ((i % g.Cols.toNat : Nat) : Int) (by exact fhc0) (by (simp only [partsN_len, List.length_map, List.length_replicate]; done)) (by (simp only [List.length_map, List.length_replicate]; omega)) (by omega) (by omega) (by (refine Nat.lt_of_le_of_lt List.count_le_length ?_; rw [partsN_len]; omega)))) (VRunD.nil (vinB.n (tn (VRun.region (fO (xinc (tv (tN i) rfl) (VEv.int .i64 1) (by omega)) (mO (tN (i + 1)) rfl (VRunO.nil (tn ?_)))))))))))
      have he5 : dfs 37 g ((partsN g i).2) ((i / g.Cols.toNat : Nat) : Int) ((i % g.Cols.toNat : Nat) : Int) = (partsN g (i + 1)).2 := by (rw [q1.2]; exact dfs_all hgo hpl fhc1 (Nat.lt_of_le_of_lt List.count_le_length (by omega)) (partsN_closed i hI1) q0.1)
      refine ⟨(i + 1 : Nat), ?_, ?_, Wk.mk (fun k => k) ?_ ?_ ?_⟩
      · trivial
      · omega
      · exact (b2 (b2 (b2 (b2 (bc ⟨(congrArg (T.int .i64) (show ((((partsN g i).1 + 1) : Nat) : Int) = (((partsN g (i + 1)).1 : Nat) : Int) from (by omega))), rfl⟩ (b2 (b2 bn)))))))
      · exact (bc ⟨(congrArg (fun l_ => some (Obj.rows 1 (List.map (eBool true) l_))) he5), (lb rfl), rfl⟩ bn)
      · exact nd rfl
    have q0 : ¬ isNew g (partsN g i).2 i := fun h => fhc2 ⟨h.1, by have := h.2; unfold on at this; rw [this]; rfl⟩
    refine sk (vinB.n (tn (VRun.region (fO (xinc (tv (tN i) rfl) (VEv.int .i64 1) (by omega)) (mO (tN (i + 1)) rfl (VRunO.nil (tn ?_)))))))
    have he6 : (partsN g i).2 = (partsN g (i + 1)).2 := by (rw [parts_no q0]; done)
    refine ⟨(i + 1 : Nat), ?_, ?_, Wk.mk (fun k => k) ?_ ?_ ?_⟩
    · trivial
    · omega
    · exact (b2 (b2 (b2 (b2 (bc ⟨(congrArg (T.int .i64) (show (((partsN g i).1 : Nat) : Int) = (((partsN g (i + 1)).1 : Nat) : Int) from (by (rw [parts_no q0]; done)))), rfl⟩ (b2 (b2 bn)))))))
    · exact (bc ⟨(congrArg (fun l_ => some (Obj.rows 1 (List.map (eBool true) l_))) he6), (lb rfl), rfl⟩ bn)
    · exact nd rfl
  refine VRun.exit (vthn.e (vthn.e (vinB.e (tn (sr (mO (tN ((partsN g i).1)) rfl (aO (tN ((partsN g i).1)) rfl (nt (rt (vi (n' := (((partsN g i).1 : Nat) : Int)) rfl ?_))))))))))
  exact congrArg (fun x : Nat => (x : Int)) (parts_end hI1 (.inl hgo) (by omega))
end Go.Proofs.YtcccmceoplcciaaGreat.AE
namespace Go.Proofs.YtcccmceoplcciaaGreat.AE
open Go Go.RowKit
set_option linter.unusedVariables false
set_option linter.unusedSimpArgs false
set_option maxRecDepth 20000
set_option maxHeartbeats 2000000
noncomputable section
def formG (g : D.Grid) : Int := if ¬ gridOk g then 1 else if ¬ symG g then 2 else if ¬ partsG g = 1 then 3 else if shortG g then 4 else if aloneG g then 5 else 0
theorem alone_full {g : D.Grid} (h : ∀ j s, j < (slotsG g).length → (slotsG g)[j]? = some s → ¬ badS g j s) (hg : gridOk g) : aloneF g g.Cells ↔ aloneG g := by
  constructor
  · rintro ⟨c, h1, h2, _⟩
    exact .inr ⟨c, h1, hg, h2⟩
  · rintro (⟨j, s, h3, h4⟩ | ⟨c, h1, _, h2⟩)
    · exact absurd h4 (h j s (List.getElem?_eq_some_iff.1 h3).1 h3)
    · refine ⟨c, h1, h2, ?_⟩
      unfold openF
      have := h2.1
      omega
end
theorem W_spec_IsConnected (n : Nat) (g : D.Grid) (hc : g.Cells.size ≤ mx) : Pure (acall Tryz.prog (n + 4)) 133 [(T.agg (eGrid false g))] (tB (decide (partsG g = 1))) := by
  refine Pure.intro (rs := [ResultVar.tmp 2]) Tryz.func133 rfl rfl rfl (E0 := [(0, (T.agg (eGrid false g)))]) rfl ?_
  obtain ⟨hlim, hmx, hmax⟩ := lims
  refine sr (kO (B.box (ts := (eGrid false g)) (tv (T.agg (eGrid false g)) rfl) nofun rfl) (fO (OF.assign (VEv.bool false)) (nt (sr (lO (OL.loadOn (us := (eGrid false g)) (tv (T.op 0 0) rfl) rfl st34 sz34 (lb rfl) rfl) (cO (cS (vc (tv (T.agg (eGrid false g)) rfl) vn) (LendL.cons (lg okeGrid) ln) (W_spec_PartsOf (n + 0) g (by assumption)) rfl rfl) (fO (B.eql (c := (decide (partsG g = 1))) (tv (tN (partsG g)) rfl) (VEv.int .i64 1) (decN (by omega))) (aO (tB (decide (partsG g = 1))) rfl (nt (rt ?_))))))))))
  exact vb rfl rfl
theorem W_impl_IsConnected (n : Nat) (g : D.Grid) (hc : g.Cells.size ≤ mx) : Pure (acall Tryz.prog (n + 40)) 137 [(T.agg (eGrid false g))] (tB (decide (partsG g = 1))) := by
  refine Pure.intro (rs := [ResultVar.tmp 2]) Tryz.func137 rfl rfl rfl (E0 := [(0, (T.agg (eGrid false g)))]) rfl ?_
  obtain ⟨hlim, hmx, hmax⟩ := lims
  refine sr (kO (B.box (ts := (eGrid false g)) (tv (T.agg (eGrid false g)) rfl) nofun rfl) (fO (OF.assign (VEv.bool false)) (nt (sr (lO (OL.loadOn (us := (eGrid false g)) (tv (T.op 0 0) rfl) rfl st34 sz34 (lb rfl) rfl) (cO (cS (vc (tv (T.agg (eGrid false g)) rfl) vn) (LendL.cons (lg okeGrid) ln) (W_impl_PartsOf (n + 0) g (by assumption)) rfl rfl) (fO (B.eql (c := (decide (partsG g = 1))) (tv (tN (partsG g)) rfl) (VEv.int .i64 1) (decN (by omega))) (aO (tB (decide (partsG g = 1))) rfl (nt (rt ?_))))))))))
  exact vb rfl rfl
theorem W_spec_FormOf (n : Nat) (g : D.Grid) (hc : g.Cells.size ≤ mx) : Pure (acall Tryz.prog (n + 9)) 104 [(T.agg (eGrid false g))] (tI (formG g)) := by
  refine Pure.intro (rs := [ResultVar.tmp 2]) Tryz.func104 rfl rfl rfl (E0 := [(0, (T.agg (eGrid false g)))]) rfl ?_
  obtain ⟨hlim, hmx, hmax⟩ := lims
  refine sr (kO (B.box (ts := (eGrid false g)) (tv (T.agg (eGrid false g)) rfl) nofun rfl) (fO (OF.assign (VEv.int .i64 0)) (nt (sq (VRun.block (sr (lO (OL.loadOn (us := (eGrid false g)) (tv (T.op 0 0) rfl) rfl st34 sz34 (lb rfl) rfl) (cO (cS (vc (tv (T.agg (eGrid false g)) rfl) vn) (LendL.cons (lg okeGrid) ln) (W_spec_IsGrid (n + 6) g (by omega)) rfl rfl) (fO (xnot (tv (tB (decide (gridOk g))) rfl)) (aO (tB (!(decide (gridOk g)))) rfl (nt ?_)))))))))))
  refine cn (gridOk g) rfl (fun fhc0 => ?_) fun fhc0 => ?_
  · refine sr ?_
    refine fO (OF.assign (VEv.int .i64 1)) (nt (rt (vinB.r (tr (vi (n' := 1) rfl ?_)))))
    exact (if_pos (by assumption)).symm
  refine sr (lO (OL.loadOn (us := (eGrid false g)) (tv (T.op 0 0) rfl) rfl st34 sz34 (lb rfl) rfl) (cO (cS (vc (tv (T.agg (eGrid false g)) rfl) vn) (LendL.cons (lg okeGrid) ln) (W_spec_IsSymmetric (n + 4) g (by omega)) rfl rfl) (fO (xnot (tv (tB (decide (symG g))) rfl)) (aO (tB (!(decide (symG g)))) rfl (nt ?_)))))
  refine cn (symG g) rfl (fun fhc1 => ?_) fun fhc1 => ?_
  · refine sr ?_
    refine fO (OF.assign (VEv.int .i64 2)) (nt (rt (vinB.r (tr (vi (n' := 2) rfl ?_)))))
    (simp only [formG]; simp [*]; done)
  refine sr (lO (OL.loadOn (us := (eGrid false g)) (tv (T.op 0 0) rfl) rfl st34 sz34 (lb rfl) rfl) (cO (cS (vc (tv (T.agg (eGrid false g)) rfl) vn) (LendL.cons (lg okeGrid) ln) (W_spec_IsConnected (n + 4) g (by assumption)) rfl rfl) (fO (xnot (tv (tB (decide (partsG g = 1))) rfl)) (aO (tB (!(decide (partsG g = 1)))) rfl (nt ?_)))))
  refine cn (partsG g = 1) rfl (fun fhc2 => ?_) fun fhc2 => ?_
  · refine sr ?_
    refine fO (OF.assign (VEv.int .i64 3)) (nt (rt (vinB.r (tr (vi (n' := 3) rfl ?_)))))
    (simp only [formG]; simp [*]; done)
  refine sr (lO (OL.loadOn (us := (eGrid false g)) (tv (T.op 0 0) rfl) rfl st34 sz34 (lb rfl) rfl) (cO (cS (vc (tv (T.agg (eGrid false g)) rfl) vn) (LendL.cons (lg okeGrid) ln) (W_spec_l10Short (n + 4) g (by omega)) rfl rfl) (aO (tB (decide (shortG g))) rfl (nt ?_))))
  refine cd (shortG g) rfl (fun fhc3 => ?_) fun fhc3 => ?_
  · refine sr ?_
    refine fO (OF.assign (VEv.int .i64 4)) (nt (rt (vinB.r (tr (vi (n' := 4) rfl ?_)))))
    (simp only [formG]; simp [*]; done)
  refine sr (lO (OL.loadOn (us := (eGrid false g)) (tv (T.op 0 0) rfl) rfl st34 sz34 (lb rfl) rfl) (cO (cS (vc (tv (T.agg (eGrid false g)) rfl) vn) (LendL.cons (lg okeGrid) ln) (W_spec_l10Alone (n + 0) g (by omega)) rfl rfl) (aO (tB (decide (aloneG g))) rfl (nt ?_))))
  refine cd (aloneG g) rfl (fun fhc4 => ?_) fun fhc4 => ?_
  · refine sr ?_
    refine fO (OF.assign (VEv.int .i64 5)) (nt (rt (vinB.r (tr (vi (n' := 5) rfl ?_)))))
    (simp only [formG]; simp [*]; done)
  refine sk (vinB.n (tn (sr (fO (OF.assign (VEv.int .i64 0)) (nt (rt (vi (n' := 0) rfl ?_)))))))
  (simp only [formG]; simp [*]; done)
theorem W_impl_FormOf (n : Nat) (g : D.Grid) (hc : g.Cells.size ≤ mx) : Pure (acall Tryz.prog (n + 41)) 106 [(T.agg (eGrid false g))] (tI (formG g)) := by
  refine Pure.intro (rs := [ResultVar.tmp 2]) Tryz.func106 rfl rfl rfl (E0 := [(0, (T.agg (eGrid false g)))]) rfl ?_
  obtain ⟨hlim, hmx, hmax⟩ := lims
  have hsl := slotsG_len g
  refine sr (kO (B.box (ts := (eGrid false g)) (tv (T.agg (eGrid false g)) rfl) nofun rfl) (fO (OF.assign (VEv.int .i64 0)) (nt (sq (VRun.block (sr (lO (OL.loadOn (us := (eGrid false g)) (tv (T.op 0 0) rfl) rfl st34 sz34 (lb rfl) rfl) (cO (cS (vc (tv (T.agg (eGrid false g)) rfl) vn) (LendL.cons (lg okeGrid) ln) (W_impl_IsGrid (n + 38) g (by omega)) rfl rfl) (fO (xnot (tv (tB (decide (gridOk g))) rfl)) (aO (tB (!(decide (gridOk g)))) rfl (nt ?_)))))))))))
  refine cn (gridOk g) rfl (fun fhc0 => ?_) fun fhc0 => ?_
  · refine sr ?_
    refine fO (OF.assign (VEv.int .i64 1)) (nt (rt (vinB.r (tr (vi (n' := 1) rfl ?_)))))
    exact (if_pos fhc0).symm
  refine sr (lO (OL.loadOn (us := (eGrid false g)) (tv (T.op 0 0) rfl) rfl st34 sz34 (lb rfl) rfl) (cO (cS (vc (tv (T.agg (eGrid false g)) rfl) vn) (LendL.cons (lg okeGrid) ln) (W_impl_IsSymmetric (n + 36) g (by omega)) rfl rfl) (fO (xnot (tv (tB (decide (symG g))) rfl)) (aO (tB (!(decide (symG g)))) rfl (nt ?_)))))
  refine cn (symG g) rfl (fun fhc1 => ?_) fun fhc1 => ?_
  · refine sr ?_
    refine fO (OF.assign (VEv.int .i64 2)) (nt (rt (vinB.r (tr (vi (n' := 2) rfl ?_)))))
    unfold formG; rw [if_neg (not_not_intro fhc0), if_pos fhc1]
  refine sr (lO (OL.loadOn (us := (eGrid false g)) (tv (T.op 0 0) rfl) rfl st34 sz34 (lb rfl) rfl) (cO (cS (vc (tv (T.agg (eGrid false g)) rfl) vn) (LendL.cons (lg okeGrid) ln) (W_impl_IsConnected (n + 0) g (by assumption)) rfl rfl) (fO (xnot (tv (tB (decide (partsG g = 1))) rfl)) (aO (tB (!(decide (partsG g = 1)))) rfl (nt ?_)))))
  refine cn (partsG g = 1) rfl (fun fhc2 => ?_) fun fhc2 => ?_
  · refine sr ?_
    refine fO (OF.assign (VEv.int .i64 3)) (nt (rt (vinB.r (tr (vi (n' := 3) rfl ?_)))))
    unfold formG; rw [if_neg (not_not_intro fhc0), if_neg (not_not_intro fhc1), if_pos fhc2]
  refine sk (vinB.n (tn (sr (lO (OL.loadOn (us := (eGrid false g)) (tv (T.op 0 0) rfl) rfl st34 sz34 (lb rfl) rfl) (cO (OC.callF (us := [(T.agg (eGrid false g))]) (r := (T.sl true 4 ((slotsG g).map (eSlot true)))) (r' := (T.os 4 1 0 (((slotsG g).map (eSlot true)).length))) (objs := [(Obj.rows 4 ((slotsG g).map (eSlot true)))]) rfl (vc (tv (T.agg (eGrid false g)) rfl) vn) (LendL.cons (lg okeGrid) ln) (W_impl_SlotsOf (n + 37) g (by omega)) rfl) (aO (T.os 4 1 0 (((slotsG g).map (eSlot true)).length)) rfl (nt (sq (sr (mO (T.os 4 1 0 (((slotsG g).map (eSlot true)).length)) rfl (lO (B.lenO (m := (slotsG g).length) (tv (T.os 4 1 0 (((slotsG g).map (eSlot true)).length)) rfl) U123 (List.length_map ..)) ?_)))))))))))
  refine fO (OF.move (VEv.int .i64 0)) (nt (VRun.block ?_))
  refine VRun.loop (A := Nat) (fun s_ => [(1, (T.op 0 0)), (3, (T.os 4 1 0 (((slotsG g).map (eSlot true)).length))), (22, (T.os 4 1 0 (((slotsG g).map (eSlot true)).length))), (23, (tN ((slotsG g).length))), (24, (tN s_))]) (fun s_ => mkO [(0, (Obj.cells (eGrid false g))), (1, (Obj.rows 4 ((slotsG g).map (eSlot true))))]) 2 (fun s_ => NoneTo (fun s : D.Slot => s.Length < 3) (slotsG g) s_) (fun s_ => (slotsG g).length - s_) (0 : Nat) ?_ (Wk.mk (fun k => k) ?_ ?_ ?_) ?_
  · exact NoneTo.start _ _
  · exact (b2 (b2 (b2 (b2 (b2 bn)))))
  · exact (b3 (b3 bn))
  · exact nd rfl
  rintro i (hI' : NoneTo (fun s : D.Slot => s.Length < 3) (slotsG g) i)
  show VRun _ _ _ [(1, (T.op 0 0)), (3, (T.os 4 1 0 (((slotsG g).map (eSlot true)).length))), (22, (T.os 4 1 0 (((slotsG g).map (eSlot true)).length))), (23, (tN ((slotsG g).length))), (24, (tN i))] (mkO [(0, (Obj.cells (eGrid false g))), (1, (Obj.rows 4 ((slotsG g).map (eSlot true))))]) 2 _
  have hI1 := hI'.1
  have hns := hI'
  refine sr (fO (xls' (tv (tN i) rfl) (tv (tN ((slotsG g).length)) rfl)) (nt (sq ?_)))
  refine cd (i < (slotsG g).length) rfl (fun fhc3 => ?_) fun fhc3 => ?_
  · have hx0 := fhc3
    refine sk (tn (sq (VRun.block (sr ?_))))
    obtain ⟨x1, hx1⟩ : ∃ x, (slotsG g)[i]? = some x := ⟨_, List.getElem?_eq_getElem (by omega)⟩
    refine fO (B.indexAddrO (i := i) (tv (T.os 4 1 0 (((slotsG g).map (eSlot true)).length)) rfl) (tv (tN i) rfl) rfl (by (simp only [List.length_map]; omega)) U123 sz138 if138) (lO (OL.loadPn (us := (eSlot false x1)) (row := (eSlot true x1)) (tv (T.orp 4 1 i 0) rfl) rfl (map_at _ hx1) st138 sz138 (lb rfl) rfl (bc rfl (bc rfl (bc rfl (bc rfl bn))))) (kO (B.alloc (t := (T.agg [(tN 0), (tB false), (tN 0), (tN 0)])) (ts := [(tN 0), (tB false), (tN 0), (tN 0)]) zo138 zc138 nofun (fun _ => .agg _ _ rfl (RLof (RL.cons (.int _ _) (RL.cons (.bool _) (RL.cons (.int _ _) (RL.cons (.int _ _) (RL.nil _))))))) rfl) (cO (B.storeO (us := (eSlot false x1)) (ws := (eSlot false x1)) (tv (T.op 2 0) rfl) (tv (T.agg (eSlot false x1)) rfl) nofun rfl rfl (lb rfl) if138 sz138 (bc rfl (bc rfl (bc rfl (bc rfl bn)))) rfl) (nt (sr (lf (tI x1.Length) rfl fa138_3 rfl rfl st3 (fO (xls (tv (tI x1.Length) rfl) (VEv.int .i64 3)) (nt ?_))))))))
    refine cd (x1.Length < 3) rfl (fun fhc4 => ?_) fun fhc4 => ?_
    · refine sr ?_
      refine fO (OF.assign (VEv.int .i64 4)) (nt (rt (vinB.r (tr (tr (vinB.r (tr (vi (n' := 4) rfl ?_))))))))
      unfold formG; rw [if_neg (not_not_intro fhc0), if_neg (not_not_intro fhc1), if_neg (not_not_intro fhc2), if_pos (show shortG g from ⟨x1, List.mem_of_getElem? hx1, fhc4⟩)]
    refine sk (vinB.n (tn (VRun.region (fO (xinc (tv (tN i) rfl) (VEv.int .i64 1) (by omega)) (mO (tN (i + 1)) rfl (VRunO.nil (tn ?_)))))))
    refine ⟨(i + 1 : Nat), ?_, ?_, Wk.mk (fun k => k) ?_ ?_ ?_⟩
    · exact hI'.next hx1 fhc4
    · omega
    · exact (b2 (b2 (b2 (b2 (b2 bn)))))
    · exact (b3 (b3 bn))
    · exact nd rfl
  have hsh : ¬ shortG g := by rintro ⟨y, hy, hy2⟩; exact hns.mem fhc3 y hy hy2
  refine VRun.exit (vthn.e (vthn.e (vinB.e (tn (sq (sr (mO (T.os 4 1 0 (((slotsG g).map (eSlot true)).length)) rfl (lO (B.lenO (m := (slotsG g).length) (tv (T.os 4 1 0 (((slotsG g).map (eSlot true)).length)) rfl) U123 (List.length_map ..)) (fO (OF.move (VEv.int .i64 0)) (nt (VRun.block ?_)))))))))))
  refine VRun.loop (A := Nat) (fun s_ => [(1, (T.op 0 0)), (32, (T.os 4 1 0 (((slotsG g).map (eSlot true)).length))), (33, (tN ((slotsG g).length))), (34, (tN s_))]) (fun s_ => mkO [(0, (Obj.cells (eGrid false g))), (1, (Obj.rows 4 ((slotsG g).map (eSlot true))))]) 2 (fun s_ => NoBad g s_) (fun s_ => (slotsG g).length - s_) (0 : Nat) ?_ (Wk.mk (fun k => k) ?_ ?_ ?_) ?_
  · exact NoBad.start _
  · exact (b2 (b2 (b2 (b2 bn))))
  · exact (b3 (b3 bn))
  · exact nd rfl
  rintro k (hI' : NoBad g k)
  show VRun _ _ _ [(1, (T.op 0 0)), (32, (T.os 4 1 0 (((slotsG g).map (eSlot true)).length))), (33, (tN ((slotsG g).length))), (34, (tN k))] (mkO [(0, (Obj.cells (eGrid false g))), (1, (Obj.rows 4 ((slotsG g).map (eSlot true))))]) 2 _
  have hJ1 := hI'.1
  have hub := unG_bd g ((k : Nat) : Int)
  refine sr (fO (xls' (tv (tN k) rfl) (tv (tN ((slotsG g).length)) rfl)) (nt (sq ?_)))
  refine cd (k < (slotsG g).length) rfl (fun fhc5 => ?_) fun fhc5 => ?_
  · refine sk ?_
    refine tn (sq (VRun.block (sr (mO (tN k) rfl ?_))))
    obtain ⟨x1, hx1⟩ : ∃ x, (slotsG g)[k]? = some x := ⟨_, List.getElem?_eq_getElem (by omega)⟩
    refine fO (B.indexAddrO (i := k) (tv (T.os 4 1 0 (((slotsG g).map (eSlot true)).length)) rfl) (tv (tN k) rfl) rfl (by (simp only [List.length_map]; omega)) U123 sz138 if138) (lO (OL.loadPn (us := (eSlot false x1)) (row := (eSlot true x1)) (tv (T.orp 4 1 k 0) rfl) rfl (map_at _ hx1) st138 sz138 (lb rfl) rfl (bc rfl (bc rfl (bc rfl (bc rfl bn))))) (kO (B.alloc (t := (T.agg [(tN 0), (tB false), (tN 0), (tN 0)])) (ts := [(tN 0), (tB false), (tN 0), (tN 0)]) zo138 zc138 nofun (fun _ => .agg _ _ rfl (RLof (RL.cons (.int _ _) (RL.cons (.bool _) (RL.cons (.int _ _) (RL.cons (.int _ _) (RL.nil _))))))) rfl) (aO (tN k) rfl (cO (B.storeO (us := (eSlot false x1)) (ws := (eSlot false x1)) (tv (T.op 2 0) rfl) (tv (T.agg (eSlot false x1)) rfl) nofun rfl rfl (lb rfl) if138 sz138 (bc rfl (bc rfl (bc rfl (bc rfl bn)))) rfl) (nt (sq (VRun.draw (B := [[], [], [1, 0], [0, 1, 2], [], [4], [4, 5, 2, 1, 0, 3]]) (by kernel_rfl) (by kernel_rfl) (lD (OL.loadOn (us := (eGrid false g)) (tv (T.op 0 0) rfl) rfl st34 sz34 (lb rfl) rfl) rfl rfl (mD (tN k) rfl rfl (VRunD.quiet (bi := [1, 0]) rfl VWant.always rfl rfl rfl bn (cS (vc (tv (T.agg (eGrid false g)) rfl) (vc (tv (tN k) rfl) vn)) (LendL.cons (lg okeGrid) (lp rfl ln)) (W_impl_UncheckedIn (n + 33) g ((k : Nat) : Int) (by omega)) rfl rfl) (fD (B.mul (n := (2 * unG g ((k : Nat) : Int))) (VEv.int .i64 2) (tv (tI (unG g ((k : Nat) : Int))) rfl) (by (rw [wrap64 (by omega)]; done))) rfl rfl ?_)))))))))))
    refine fD (OF.fieldAddrO (tv (T.op 2 0) rfl) fa138_3) rfl rfl (lD (OL.loadO1 (t := (tI x1.Length)) (tv (T.op 2 3) rfl) rfl rfl st3) rfl rfl (fD (xgt (tv (tI (2 * unG g ((k : Nat) : Int))) rfl) (tv (tI x1.Length) rfl)) rfl rfl (VRunD.nil (tn ?_))))
    refine cd (x1.Length < (2 * unG g ((k : Nat) : Int))) rfl (fun fhc6 => ?_) fun fhc6 => ?_
    · have q1 : badS g k x1 := by unfold badS; omega
      refine sr (fO (OF.assign (VEv.int .i64 5)) (nt (rt (vinB.r (tr (tr (vinB.r (tr (vi (n' := 5) rfl ?_)))))))))
      unfold formG; rw [if_neg (not_not_intro fhc0), if_neg (not_not_intro fhc1), if_neg (not_not_intro fhc2), if_neg hsh, if_pos (show aloneG g from .inl ⟨k, x1, hx1, q1⟩)]
    have q1 : ¬ badS g k x1 := by unfold badS; omega
    refine sk (vinB.n (tn (VRun.region (fO (xinc (tv (tN k) rfl) (VEv.int .i64 1) (by omega)) (mO (tN (k + 1)) rfl (VRunO.nil (tn ?_)))))))
    refine ⟨(k + 1 : Nat), ?_, ?_, Wk.mk (fun k => k) ?_ ?_ ?_⟩
    · exact hI'.next hx1 q1
    · omega
    · exact (b2 (b2 (b2 (b2 bn))))
    · exact (b3 (b3 bn))
    · exact nd rfl
  have hal := alone_full (g := g) (fun j s hj => hI'.2 j s (by omega)) (by simpa using fhc0)
  refine VRun.exit (vthn.e (vthn.e (vinB.e (tn (sq (sr (lO (OL.loadOn (us := (eGrid false g)) (tv (T.op 0 0) rfl) rfl st34 sz34 (lb rfl) rfl) (lf (tS g.Cells) rfl fa34_2 rfl rfl st9 (cO (cS (vc (tv (T.agg (eGrid false g)) rfl) (vc (tv (tS g.Cells) rfl) vn)) (LendL.cons (lg okeGrid) (lp rfl ln)) (W_impl_alone (n + 35) g g.Cells (by omega) (by omega)) rfl rfl) (nt ?_))))))))))
  refine cd (aloneF g g.Cells) rfl (fun fhc7 => ?_) fun fhc7 => ?_
  · refine sr ?_
    refine fO (OF.assign (VEv.int .i64 5)) (nt (rt (tr (vi (n' := 5) rfl ?_))))
    unfold formG; rw [if_neg (not_not_intro fhc0), if_neg (not_not_intro fhc1), if_neg (not_not_intro fhc2), if_neg hsh, if_pos (hal.1 fhc7)]
  refine sk (tn (sr (fO (OF.assign (VEv.int .i64 0)) (nt (rt (vi (n' := 0) rfl ?_))))))
  unfold formG; rw [if_neg (not_not_intro fhc0), if_neg (not_not_intro fhc1), if_neg (not_not_intro fhc2), if_neg hsh, if_neg (fun h => fhc7 (hal.2 h))]
end Go.Proofs.YtcccmceoplcciaaGreat.AE
namespace Go.Proofs.YtcccmceoplcciaaGreat.AE
open Go Go.RowKit
set_option linter.unusedVariables false
set_option linter.unusedSimpArgs false
set_option maxRecDepth 20000
set_option maxHeartbeats 2000000
noncomputable section
def okC (c : D.Clue) : Prop := (1 ≤ c.Sense ∧ c.Sense ≤ 99) ∧ isPlay c.Play
end
end Go.Proofs.YtcccmceoplcciaaGreat.AE
namespace Go.Proofs.YtcccmceoplcciaaGreat.AE
open Go Go.RowKit
set_option linter.unusedVariables false
set_option linter.unusedSimpArgs false
set_option maxRecDepth 20000
set_option maxHeartbeats 2000000
noncomputable section
theorem runN_ok {ok : Nat → Prop} [DecidablePred ok] : ∀ (f n k : Nat), n ≤ k → k < runN ok f n → ok k
  | 0, n, k, h1, h2 => by simp only [runN] at h2; omega
  | f + 1, n, k, h1, h2 => by
    simp only [runN] at h2
    split at h2
    · by_cases e : k = n
      · subst e; assumption
      · exact runN_ok f (n + 1) k (by omega) h2
    · omega
theorem fromG_in {g : D.Grid} {cell k : Nat} {down : Bool} (hg : gridOk g) (hc : cell < g.Cells.size) (hk : k < fromG g cell down) : 0 ≤ ((cell : Nat) : Int) + ((k : Nat) : Int) * (if down = true then g.Cols else 1) ∧ ((cell : Nat) : Int) + ((k : Nat) : Int) * (if down = true then g.Cols else 1) < ((g.Cells.size : Nat) : Int) := by
  have hB := hg.2.1
  obtain ⟨_, _, _, h4, h5⟩ := cell_at hg hc
  unfold fromG at hk
  cases down with
  | true =>
    rw [if_pos rfl] at hk
    unfold fromD at hk
    split at hk
    · have h1 := runN_ok _ _ k (Nat.zero_le _) hk
      have h2 := h5 k h1.1
      have h3 : 0 ≤ ((k : Nat) : Int) * g.Cols := Int.mul_nonneg (by omega) (by omega)
      rw [if_pos rfl]
      omega
    · omega
  | false =>
    rw [if_neg (by simp)] at hk
    unfold fromA at hk
    split at hk
    · have h1 := runN_ok _ _ k (Nat.zero_le _) hk
      have h2 := h4 k h1.1
      rw [if_neg (by simp), Int.mul_one]
      omega
    · omega
theorem slotsN_from (g : D.Grid) : ∀ i, ∀ s ∈ (slotsN g i).1, ∃ c : Nat, c < i ∧ s.Cell = ((c : Nat) : Int) ∧ s.Length = ((fromG g c s.Down : Nat) : Int)
  | 0, s, hs => by simp [slotsN] at hs
  | i + 1, s, hs => by
    rw [slotsN1, List.mem_append, List.mem_append] at hs
    rcases hs with (hs | hs) | hs
    · obtain ⟨c, h1, h2⟩ := slotsN_from g i s hs
      exact ⟨c, by omega, h2⟩
    · split at hs
      · obtain rfl := List.mem_singleton.1 hs
        exact ⟨i, by omega, rfl, rfl⟩
      · cases hs
    · split at hs
      · obtain rfl := List.mem_singleton.1 hs
        exact ⟨i, by omega, rfl, rfl⟩
      · cases hs
theorem cellsS_in {g : D.Grid} {s : D.Slot} {c : Int} (hs : s ∈ slotsG g) (hc : c ∈ cellsS g s s.Length.toNat) : 0 ≤ c ∧ c < ((g.Cells.size : Nat) : Int) := by
  have hg := (slotsG_ok hs).1
  unfold slotsG at hs
  rw [if_pos hg] at hs
  obtain ⟨c0, h1, h2, h3⟩ := slotsN_from g _ s hs
  unfold cellsS at hc
  obtain ⟨k, hk, rfl⟩ := List.mem_map.1 hc
  rw [List.mem_range] at hk
  have := fromG_in (down := s.Down) hg h1 (k := k) (by omega)
  rw [h2]
  unfold stepS
  exact this
def catL (f : ByteArray) (l : List Int) : List Int := l.map fun c => bAt f (Int.toNat c)
theorem catL_next {f : ByteArray} {l : List Int} {i : Nat} {c : Int} (h : l[i]? = some c) : catL f (l.take i) ++ [bAt f (Int.toNat c)] = catL f (l.take (i + 1)) := by
  unfold catL
  rw [List.take_add_one, h, Option.toList_some, List.map_append]; rfl
theorem catL_len (f : ByteArray) (l : List Int) : (catL f l).length = l.length := by simp [catL]
def pat (f : ByteArray) (l : List Int) : ByteArray := mkStr (catL f l)
theorem pat_next {f : ByteArray} {l : List Int} {i : Nat} {c : Int} (h : l[i]? = some c) (h1 : 0 ≤ c ∧ c < ((f.size : Nat) : Int)) : pat f (l.take (i + 1)) = pat f (l.take i) ++ f.extract (Int.toNat c) (Int.toNat (c + 1)) := by
  have hc : Int.toNat c < f.data.toList.length := by rw [Array.length_toList]; show Int.toNat c < f.size; omega
  refine bytes_ext ?_
  unfold pat catL
  rw [List.take_add_one, h, Option.toList_some, List.map_append, mkStr_toList, ByteArray.data_append, Array.toList_append, mkStr_toList, List.map_append]
  congr 1
  rw [ByteArray.data_extract, Array.toList_extract, List.extract_eq_take_drop, show Int.toNat (c + 1) - Int.toNat c = 1 by omega, List.drop_eq_getElem_cons hc]
  have hb : bAt f (Int.toNat c) = ((f.data.toList[Int.toNat c]).toNat : Int) := by
    rw [← bAt_eq (show Int.toNat c < f.size by omega)]; rfl
  simp [hb]
theorem pat_size (f : ByteArray) (l : List Int) : (pat f l).size = l.length := by
  show (pat f l).data.size = _
  rw [← Array.length_toList]
  unfold pat catL
  rw [mkStr_toList]
  simp
def slotPat (g : D.Grid) (f : ByteArray) (slot : Int) : ByteArray := if 0 ≤ slot then (match (slotsG g)[slot.toNat]? with | some s => if isFill g f then pat f (cellsS g s s.Length.toNat) else ⟨#[]⟩ | none => ⟨#[]⟩) else ⟨#[]⟩
theorem slotPat_no {g : D.Grid} {f : ByteArray} {slot : Int} (h : ¬ isFill g f ∨ ¬ (0 ≤ slot ∧ slot ≤ (((slotsG g).length : Nat) : Int) - 1)) : slotPat g f slot = ⟨#[]⟩ := by
  unfold slotPat
  by_cases h0 : 0 ≤ slot
  · rw [if_pos h0]
    cases hs : (slotsG g)[slot.toNat]? with
    | none => rfl
    | some s =>
      have := (List.getElem?_eq_some_iff.1 hs).1
      simp only
      rw [if_neg]
      rcases h with h | h
      · exact h
      · exact absurd ⟨h0, by omega⟩ h
  · rw [if_neg h0]
theorem slotPat_at {g : D.Grid} {f : ByteArray} {slot : Int} {s : D.Slot} (h0 : 0 ≤ slot) (hs : (slotsG g)[slot.toNat]? = some s) (hf : isFill g f) : slotPat g f slot = pat f (cellsS g s s.Length.toNat) := by
  unfold slotPat
  rw [if_pos h0, hs]
  exact if_pos hf
def patsG (g : D.Grid) (f : ByteArray) : List ByteArray := if isFill g f then (layG g).map (pat f) else []
theorem patsG_at {g : D.Grid} {f : ByteArray} {i : Nat} {x : ByteArray} (h : (patsG g f)[i]? = some x) : x = slotPat g f ((i : Nat) : Int) := by
  unfold patsG at h
  split at h
  · rename_i hf
    rw [List.getElem?_map] at h
    obtain ⟨y, h1, rfl⟩ := Option.map_eq_some_iff.1 h
    obtain ⟨s, h2, rfl⟩ := lay_at h1
    exact (slotPat_at (by omega) h2 hf).symm
  · simp at h
theorem patsG_len {g : D.Grid} {f : ByteArray} (h : isFill g f) : (patsG g f).length = (slotsG g).length := by
  unfold patsG
  rw [if_pos h, List.length_map, layG_len]
theorem cof_bd {g : D.Grid} {s : D.Slot} {f : ByteArray} {i : Nat} {c : Int} (hf : isFill g f) (h : (if s ∈ slotsG g then cellsS g s s.Length.toNat else [])[i]? = some c) : 0 ≤ c ∧ c < ((f.size : Nat) : Int) := by
  have hm := List.mem_of_getElem? h
  split at hm
  · rename_i hs
    have := cellsS_in hs hm
    have := hf.2.1
    omega
  · cases hm
end
theorem W_spec_SlotPattern (n : Nat) (g : D.Grid) (f : ByteArray) (slot : Int) (hc : g.Cells.size ≤ maxLen) (hf : f.size ≤ maxLen) : Pure (acall Tryz.prog (n + 5)) 92 [(T.agg (eGrid false g)), (tS f), (tI slot)] (tS (slotPat g f slot)) := by
  refine Pure.intro (rs := [ResultVar.tmp 6]) Tryz.func92 rfl rfl rfl (E0 := [(0, (T.agg (eGrid false g))), (1, (tS f)), (2, (tI slot))]) rfl ?_
  obtain ⟨hlim, hmx, hmax⟩ := lims
  have hsl := slotsG_len g
  refine sr (kO (B.box (ts := (eGrid false g)) (tv (T.agg (eGrid false g)) rfl) nofun rfl) (fO (OF.assign (VEv.str (⟨#[]⟩ : ByteArray))) (nt (sr (lO (OL.loadOn (us := (eGrid false g)) (tv (T.op 0 0) rfl) rfl st34 sz34 (lb rfl) rfl) (cO (OC.callF (us := [(T.agg (eGrid false g))]) (r := (T.sl true 4 ((slotsG g).map (eSlot true)))) (r' := (T.os 4 1 0 (((slotsG g).map (eSlot true)).length))) (objs := [(Obj.rows 4 ((slotsG g).map (eSlot true)))]) rfl (vc (tv (T.agg (eGrid false g)) rfl) vn) (LendL.cons (lg okeGrid) ln) (W_spec_SlotsOf (n + 1) g (by assumption)) rfl) (aO (T.os 4 1 0 (((slotsG g).map (eSlot true)).length)) rfl (nt (sq (sr (lO (OL.loadOn (us := (eGrid false g)) (tv (T.op 0 0) rfl) rfl st34 sz34 (lb rfl) rfl) ?_)))))))))))
  refine mO (tS f) rfl (cO (cS (vc (tv (T.agg (eGrid false g)) rfl) (vc (tv (tS f) rfl) vn)) (LendL.cons (lg okeGrid) (lp rfl ln)) (W_spec_IsFill (n + 1) g f (by assumption) (by assumption)) rfl rfl) (fO (xnot (tv (tB (decide (isFill g f))) rfl)) (mO (tB (!(decide (isFill g f)))) rfl ?_)))
  refine VRunO.joinB 7 [18, 19, 20, 21, 22, 23] 24 (tB (decide ((¬ (isFill g f)) ∨ (¬ (0 ≤ slot ∧ slot ≤ ((((slotsG g).length : Nat) : Int) - 1)))))) ?_ ?_
  · refine gn (isFill g f) (fun fhg17_1 => ?_) fun fhg17_1 => ?_
    · refine offs 6 4 false 17 (ny fhg17_1) rfl rfl rfl ?_
      refine fO (OF.pickT (VEv.tmpB rfl (ny fhg17_1)) (VEv.bool true)) (VRunO.nil ?_)
      exact jq (congrArg T.bool (kOT fhg17_1)) (js rfl (js rfl (js rfl (js rfl (js rfl (js rfl (jn)))))))
    · refine gF (nz fhg17_1) rfl rfl (OF.move (tv (tI slot) rfl)) ?_
      refine gF (nz fhg17_1) rfl rfl (OF.move (tv (T.os 4 1 0 (((slotsG g).map (eSlot true)).length)) rfl)) (gL (nz fhg17_1) rfl rfl (B.lenO (m := (slotsG g).length) (tv (T.os 4 1 0 (((slotsG g).map (eSlot true)).length)) rfl) U123 (List.length_map ..)) (gF (nz fhg17_1) rfl rfl (B.sub (n := ((((slotsG g).length : Nat) : Int) - 1)) (tv (tN ((slotsG g).length)) rfl) (VEv.int .i64 1) (by (rw [wrap64 (by omega)]; done))) (VRunO.chain (VWant.on rfl rfl (nz fhg17_1)) (cS (vc (tv (tI slot) rfl) (vc (VEv.int .i64 0) (vc (tv (tI ((((slotsG g).length : Nat) : Int) - 1)) rfl) vn))) (lps rfl) (W_spec_l1In (n + 3) slot 0 ((((slotsG g).length : Nat) : Int) - 1) ) rfl rfl) (gF (nz fhg17_1) rfl rfl (xnot (tv (tB (decide (0 ≤ slot ∧ slot ≤ ((((slotsG g).length : Nat) : Int) - 1)))) rfl)) (fO (OF.pickF (VEv.tmpB rfl (nz fhg17_1)) (tv (tB (!(decide (0 ≤ slot ∧ slot ≤ ((((slotsG g).length : Nat) : Int) - 1))))) rfl)) (VRunO.nil ?_))))))
      exact jq (congrArg T.bool (kOF (not_not_intro fhg17_1) dN)) (js rfl (js rfl (js rfl (js rfl (js rfl (js rfl (jn)))))))
  refine nt ?_
  refine cd ((¬ (isFill g f)) ∨ (¬ (0 ≤ slot ∧ slot ≤ ((((slotsG g).length : Nat) : Int) - 1)))) rfl (fun fhc0 => ?_) fun fhc0 => ?_
  · refine sr ?_
    refine fO (OF.assign (VEv.str (⟨#[]⟩ : ByteArray))) (nt (rt (tr ?_)))
    refine vfin.eq (r' := (tS (⟨#[]⟩ : ByteArray))) ?_ (vfin.r (VRes.tmp (t := (tS (⟨#[]⟩ : ByteArray))) rfl VRes.nil) (Give.str _))
    show (tS (⟨#[]⟩ : ByteArray)) = (tS (slotPat g f slot))
    refine congrArg T.str ?_
    exact (slotPat_no fhc0).symm
  have hs0 : 0 ≤ slot ∧ slot ≤ (((slotsG g).length : Nat) : Int) - 1 := Classical.byContradiction fun h => fhc0 (.inr h)
  have hfi : isFill g f := Classical.byContradiction fun h => fhc0 (.inl h)
  have hsz := hfi.1.size
  refine sk (tn (sr (fO (OF.assign (VEv.str (⟨#[]⟩ : ByteArray))) (nt (sq (VRun.draw (B := [[], [], [], [2, 1], [1, 2, 3], [3, 2, 1, 4, 0], [0, 4, 1, 2, 3, 5]]) (by kernel_rfl) (by kernel_rfl) (lD (OL.loadOn (us := (eGrid false g)) (tv (T.op 0 0) rfl) rfl st34 sz34 (lb rfl) rfl) rfl rfl (mD (T.os 4 1 0 (((slotsG g).map (eSlot true)).length)) rfl rfl (mD (tI slot) rfl rfl ?_)))))))))
  obtain ⟨x1, hx1⟩ : ∃ x, (slotsG g)[(Int.toNat slot)]? = some x := ⟨_, List.getElem?_eq_getElem (by omega)⟩
  skip
  refine fD (B.indexAddrO (i := (Int.toNat slot)) (tv (T.os 4 1 0 (((slotsG g).map (eSlot true)).length)) rfl) (tv (tI slot) rfl) (by omega) (by (simp only [List.length_map]; omega)) U123 sz138 if138) rfl rfl (lD (OL.loadPn (us := (eSlot false x1)) (row := (eSlot true x1)) (tv (T.orp 4 1 (Int.toNat slot) 0) rfl) rfl (map_at _ hx1) st138 sz138 (lb rfl) rfl (bc rfl (bc rfl (bc rfl (bc rfl bn))))) rfl rfl (VRunD.quiet (bi := [3, 2, 1, 4, 0]) rfl VWant.always rfl rfl rfl bn (OC.callF (us := [(T.agg (eGrid false g)), (T.agg (eSlot false x1))]) (r := (T.sl true 1 ((if x1 ∈ slotsG g then cellsS g x1 x1.Length.toNat else []).map (eInt true)))) (r' := (T.os 1 2 0 (((if x1 ∈ slotsG g then cellsS g x1 x1.Length.toNat else []).map (eInt true)).length))) (objs := [(Obj.rows 1 ((if x1 ∈ slotsG g then cellsS g x1 x1.Length.toNat else []).map (eInt true)))]) rfl (vc (tv (T.agg (eGrid false g)) rfl) (vc (tv (T.agg (eSlot false x1)) rfl) vn)) (LendL.cons (lg okeGrid) (LendL.cons (lg okeSlot) ln)) (W_spec_CellsOf (n + 0) g x1 (by assumption)) rfl) (fD (OF.assign (tv (T.os 1 2 0 (((if x1 ∈ slotsG g then cellsS g x1 x1.Length.toNat else []).map (eInt true)).length)) rfl)) rfl rfl (VRunD.nil (tn (sq (sr (fO (OF.assign (VEv.int .i64 0)) (nt (VRun.block ?_))))))))))
  refine VRun.loop (A := Nat) (fun s_ => [(1, (tS f)), (6, (tS (⟨#[]⟩ : ByteArray))), (8, (tS (pat f ((if x1 ∈ slotsG g then cellsS g x1 x1.Length.toNat else []).take s_)))), (9, (T.os 1 0 0 (((if x1 ∈ slotsG g then cellsS g x1 x1.Length.toNat else []).map (eInt true)).length))), (10, (tN s_))]) (fun s_ => mkO [(0, (Obj.rows 1 ((if x1 ∈ slotsG g then cellsS g x1 x1.Length.toNat else []).map (eInt true))))]) 1 (fun s_ => s_ ≤ (if x1 ∈ slotsG g then cellsS g x1 x1.Length.toNat else []).length) (fun s_ => (if x1 ∈ slotsG g then cellsS g x1 x1.Length.toNat else []).length - s_) (0 : Nat) ?_ (Wk.mk (fun k => if k = 0 then 2 else  k) ?_ ?_ ?_) ?_
  · (simp; done)
  · exact (b2 (b2 (bc ⟨(congrArg T.str (show (⟨#[]⟩ : ByteArray) = pat f ((if x1 ∈ slotsG g then cellsS g x1 x1.Length.toNat else []).take 0) from (by rfl))), rfl⟩ (b2 (b2 bn)))))
  · exact (b3 bn)
  · exact nd rfl
  rintro i (hI' : i ≤ (if x1 ∈ slotsG g then cellsS g x1 x1.Length.toNat else []).length)
  show VRun _ _ _ [(1, (tS f)), (6, (tS (⟨#[]⟩ : ByteArray))), (8, (tS (pat f ((if x1 ∈ slotsG g then cellsS g x1 x1.Length.toNat else []).take i)))), (9, (T.os 1 0 0 (((if x1 ∈ slotsG g then cellsS g x1 x1.Length.toNat else []).map (eInt true)).length))), (10, (tN i))] (mkO [(0, (Obj.rows 1 ((if x1 ∈ slotsG g then cellsS g x1 x1.Length.toNat else []).map (eInt true))))]) 1 _
  have hI1 := hI'
  have hl6 := cof_len g x1
  have hps := pat_size f ((if x1 ∈ slotsG g then cellsS g x1 x1.Length.toNat else []).take i)
  have htl := take_len_le (if x1 ∈ slotsG g then cellsS g x1 x1.Length.toNat else []) i
  refine sq (sr (mO (tN i) rfl (mO (T.os 1 0 0 (((if x1 ∈ slotsG g then cellsS g x1 x1.Length.toNat else []).map (eInt true)).length)) rfl (lO (B.lenO (m := (if x1 ∈ slotsG g then cellsS g x1 x1.Length.toNat else []).length) (tv (T.os 1 0 0 (((if x1 ∈ slotsG g then cellsS g x1 x1.Length.toNat else []).map (eInt true)).length)) rfl) U25 (List.length_map ..)) (fO (xls' (tv (tN i) rfl) (tv (tN ((if x1 ∈ slotsG g then cellsS g x1 x1.Length.toNat else []).length)) rfl)) (nt ?_))))))
  refine cd (i < (if x1 ∈ slotsG g then cellsS g x1 x1.Length.toNat else []).length) rfl (fun fhc1 => ?_) fun fhc1 => ?_
  · refine sk ?_
    refine tn (sq (VRun.block (VRun.draw (B := [[], [], [], [], [3, 2], [2, 3, 4], [], [], [7, 6], [6, 7, 8], [8, 7, 6, 9], [9, 6, 7, 8, 10, 4, 3, 2, 5, 1], [1, 5, 2, 3, 4, 10, 8, 7, 6, 9, 11, 0], [0, 11, 9, 6, 7, 8, 10, 4, 3, 2, 5, 1, 12]]) (by kernel_rfl) (by kernel_rfl) (mD (tS (pat f ((if x1 ∈ slotsG g then cellsS g x1 x1.Length.toNat else []).take i))) rfl rfl (mD (tS f) rfl rfl (mD (T.os 1 0 0 (((if x1 ∈ slotsG g then cellsS g x1 x1.Length.toNat else []).map (eInt true)).length)) rfl rfl (mD (tN i) rfl rfl ?_)))))))
    obtain ⟨x2, hx2⟩ : ∃ x, (if x1 ∈ slotsG g then cellsS g x1 x1.Length.toNat else [])[i]? = some x := ⟨_, List.getElem?_eq_getElem (by omega)⟩
    have hcb := cof_bd hfi hx2
    refine fD (B.indexAddrO (i := i) (tv (T.os 1 0 0 (((if x1 ∈ slotsG g then cellsS g x1 x1.Length.toNat else []).map (eInt true)).length)) rfl) (tv (tN i) rfl) rfl (by (simp only [List.length_map]; omega)) U25 sz3 if3) rfl rfl (lD (OL.loadP1 (t := (tI x2)) (row := (eInt true x2)) (tv (T.orp 1 0 i 0) rfl) rfl (map_at _ hx2) rfl rfl st3) rfl rfl (mD (T.os 1 0 0 (((if x1 ∈ slotsG g then cellsS g x1 x1.Length.toNat else []).map (eInt true)).length)) rfl rfl (mD (tN i) rfl rfl (fD (B.indexAddrO (i := i) (tv (T.os 1 0 0 (((if x1 ∈ slotsG g then cellsS g x1 x1.Length.toNat else []).map (eInt true)).length)) rfl) (tv (tN i) rfl) rfl (by (simp only [List.length_map]; omega)) U25 sz3 if3) rfl rfl (lD (OL.loadP1 (t := (tI x2)) (row := (eInt true x2)) (tv (T.orp 1 0 i 0) rfl) rfl (map_at _ hx2) rfl rfl st3) rfl rfl (fD (B.add (n := (x2 + 1)) (tv (tI x2) rfl) (VEv.int .i64 1) (by (rw [wrap64 (by omega)]; done))) rfl rfl (lD (OL.sliceS (i := (Int.toNat x2)) (j := (Int.toNat (x2 + 1))) (tv (tS f) rfl) (tv (tI x2) rfl) (tv (tI (x2 + 1)) rfl) (by omega) (by omega) (by omega) (by omega) U9) rfl rfl (fD (B.sadd (tv (tS (pat f ((if x1 ∈ slotsG g then cellsS g x1 x1.Length.toNat else []).take i))) rfl) (tv (tS (f.extract (Int.toNat x2) (Int.toNat (x2 + 1)))) rfl) (by (simp only [ByteArray.size_extract]; omega))) rfl rfl (fD (OF.assign (tv (tS (pat f ((if x1 ∈ slotsG g then cellsS g x1 x1.Length.toNat else []).take i) ++ (f.extract (Int.toNat x2) (Int.toNat (x2 + 1))))) rfl)) rfl rfl (VRunD.nil (vinB.n ?_)))))))))))
    refine tn (VRun.region (mO (tN i) rfl (fO (xinc (tv (tN i) rfl) (VEv.int .i64 1) (by omega)) (aO (tN (i + 1)) rfl (VRunO.nil (tn ?_))))))
    refine ⟨(i + 1 : Nat), ?_, ?_, Wk.mk (fun k => k) ?_ ?_ ?_⟩
    · trivial
    · omega
    · exact (b2 (b2 (bc ⟨(congrArg T.str (show (pat f ((if x1 ∈ slotsG g then cellsS g x1 x1.Length.toNat else []).take i) ++ (f.extract (Int.toNat x2) (Int.toNat (x2 + 1)))) = pat f ((if x1 ∈ slotsG g then cellsS g x1 x1.Length.toNat else []).take (i + 1)) from (by exact (pat_next hx2 hcb).symm))), rfl⟩ (b2 (b2 bn)))))
    · exact (b3 bn)
    · exact nd rfl
  refine VRun.exit (vthn.e (vthn.e (vinB.e (tn (sr (mO (tS (pat f ((if x1 ∈ slotsG g then cellsS g x1 x1.Length.toNat else []).take i))) rfl (aO (tS (pat f ((if x1 ∈ slotsG g then cellsS g x1 x1.Length.toNat else []).take i))) rfl (nt (rt ?_)))))))))
  refine vfin.eq (r' := (tS (pat f ((if x1 ∈ slotsG g then cellsS g x1 x1.Length.toNat else []).take i)))) ?_ (vfin.r (VRes.tmp (t := (tS (pat f ((if x1 ∈ slotsG g then cellsS g x1 x1.Length.toNat else []).take i)))) rfl VRes.nil) (Give.str _))
  show (tS (pat f ((if x1 ∈ slotsG g then cellsS g x1 x1.Length.toNat else []).take i))) = (tS (slotPat g f slot))
  refine congrArg T.str ?_
  rw [slotPat_at hs0.1 hx1 hfi, take_all hI1 fhc1, cof_in hx1]
theorem W_impl_readCells (n : Nat) (f : ByteArray) (l : List Int) (hl : l.length ≤ 64) (hb : ∀ c ∈ l, 0 ≤ c ∧ c < ((f.size : Nat) : Int)) : Pure (acall Tryz.prog (n + 1)) 149 [(tS f), (rd 1 eInt l)] (tS (pat f l)) := by
  refine Pure.intro (rs := [ResultVar.tmp 4]) Tryz.func149 rfl rfl rfl (E0 := [(0, (tS f)), (1, (rd 1 eInt l))]) rfl ?_
  obtain ⟨hlim, hmx, hmax⟩ := lims
  refine sr (fO (OF.assign (VEv.str (⟨#[]⟩ : ByteArray))) (nt (sr (fO (OF.assign VEv.nils) (nt (sq (sr (mO (rd 1 eInt l) rfl (lO (B.lenR (m := l.length) (tv (rd 1 eInt l) rfl) U25 (List.length_map ..)) (fO (OF.move (VEv.int .i64 0)) (nt ?_)))))))))))
  refine VRun.block (VRun.wk (Wk.phantom 5 1 rfl) ?_)
  have he1 : [] = ((catL f (l.take 0)).map (eByte true)) := by rfl
  refine VRun.loop (A := Nat) (fun s_ => [(0, (tS f)), (4, (tS (⟨#[]⟩ : ByteArray))), (5, (T.os 1 0 0 (((catL f (l.take s_)).map (eByte true)).length))), (8, (rd 1 eInt l)), (9, (tN l.length)), (10, (tN s_))]) (fun s_ => mkO [(0, (Obj.rows 1 ((catL f (l.take s_)).map (eByte true))))]) 1 (fun s_ => s_ ≤ l.length) (fun s_ => l.length - s_) (0 : Nat) ?_ (Wk.mk (fun k => k) ?_ ?_ ?_) ?_
  · (simp; done)
  · exact (b2 (b2 (bc ⟨(congrArg (fun n_ => T.os 1 0 0 n_) (show 0 = ((catL f (l.take 0)).map (eByte true)).length from (by rfl))), rfl⟩ (b2 (b2 (b2 bn))))))
  · exact (bc ⟨(congrArg (fun l_ => some (Obj.rows 1 l_)) he1), (lb rfl), rfl⟩ bn)
  · exact nd rfl
  rintro i (hI' : i ≤ l.length)
  show VRun _ _ _ [(0, (tS f)), (4, (tS (⟨#[]⟩ : ByteArray))), (5, (T.os 1 0 0 (((catL f (l.take i)).map (eByte true)).length))), (8, (rd 1 eInt l)), (9, (tN l.length)), (10, (tN i))] (mkO [(0, (Obj.rows 1 ((catL f (l.take i)).map (eByte true))))]) 1 _
  have hI1 := hI'
  have htl := take_len_le l i
  have hcl := catL_len f (l.take i)
  refine sr (fO (xls' (tv (tN i) rfl) (tv (tN l.length) rfl)) (nt (sq ?_)))
  refine cd (i < l.length) rfl (fun fhc0 => ?_) fun fhc0 => ?_
  · refine sk ?_
    refine tn (sq (VRun.block (sr ?_)))
    obtain ⟨x1, hx1⟩ : ∃ x, l[i]? = some x := ⟨_, List.getElem?_eq_getElem (by omega)⟩
    have hbx := hb _ (List.mem_of_getElem? hx1)
    refine fO (OF.indexAddrR (row := (eInt false x1)) (i := i) (tv (rd 1 eInt l) rfl) (tv (tN i) rfl) rfl (map_at _ hx1) U25 sz3 if3) (lO (OL.loadR1 (t := (tI x1)) (tv (T.rp [(tI x1)]) rfl) rfl st3) (aO (tI x1) rfl (nt (VRun.region (mO (T.os 1 0 0 (((catL f (l.take i)).map (eByte true)).length)) rfl (mO (tS f) rfl (mO (tI x1) rfl ?_)))))))
    have hb2 : (Int.toNat x1) < f.size := (by omega)
    refine fO (B.index (n := (bAt f (Int.toNat x1))) (i := (Int.toNat x1)) (tv (tS f) rfl) (tv (tI x1) rfl) (by omega) hb2 U9 (bAt_eq hb2)) (kO (OM.buildSlice (l := [(T.int .u8 (bAt f (Int.toNat x1)))]) (VEvp.cons (tv (T.int .u8 (bAt f (Int.toNat x1))) rfl) VEvp.nil) rfl (by decide) (bc (nofun) bn) (bc ((bc (rfl) bn)) bn) (bc (rfl) bn) U132 zo5 (by kernel_rfl) rfl (by rw [sz5]; decide) sz5 (Nat.le_of_ble_eq_true rfl)) (cO (B.append (rows := ((catL f (l.take i)).map (eByte true))) (rows2 := [[(T.int .u8 (bAt f (Int.toNat x1)))]]) (rows3 := ((catL f (l.take i) ++ [bAt f (Int.toNat x1)]).map (eByte true))) (VDst.own (tv (T.os 1 0 0 (((catL f (l.take i)).map (eByte true)).length)) rfl) rfl rfl) (VSrc.own (tv (T.os 1 1 0 1) rfl) rfl rfl U132 (bc (bc rfl bn) bn)) (by decide) U132 sz5 (by decide) zo5 rfl (of_decide_eq_true (by kernel_rfl)) (by (simp only [List.length_map, List.length_append, List.length_cons, List.length_nil, List.length_replicate, List.length_set, List.length_drop, List.length_take, lim] at *; omega)) ((List.map_append (f := eByte true) (l₁ := catL f (l.take i)) (l₂ := [bAt f (Int.toNat x1)])).symm)) (aO (T.os 1 2 0 (((catL f (l.take i) ++ [bAt f (Int.toNat x1)]).map (eByte true)).length)) rfl (VRunO.nil (vinB.n (tn (VRun.region (fO (xinc (tv (tN i) rfl) (VEv.int .i64 1) (by omega)) (mO (tN (i + 1)) rfl (VRunO.nil (tn ?_)))))))))))
    have he3 : (catL f (l.take i) ++ [bAt f (Int.toNat x1)]) = catL f (l.take (i + 1)) := by exact catL_next hx1
    refine ⟨(i + 1 : Nat), ?_, ?_, Wk.mk (fun k => if k = 0 then 2 else  k) ?_ ?_ ?_⟩
    · trivial
    · omega
    · exact (b2 (b2 (bc ⟨(congrArg (fun l_ => T.os 1 2 0 (List.map (eByte true) l_).length) he3), rfl⟩ (b2 (b2 (b2 bn))))))
    · exact (bc ⟨(congrArg (fun l_ => some (Obj.rows 1 (List.map (eByte true) l_))) he3), (lb rfl), rfl⟩ bn)
    · exact nd rfl
  refine VRun.exit (vthn.e (vthn.e (vinB.e (tn (sr (mO (T.os 1 0 0 (((catL f (l.take i)).map (eByte true)).length)) rfl (lO (B.convBS (l := catL f (l.take i)) (tv (T.os 1 0 0 (((catL f (l.take i)).map (eByte true)).length)) rfl) rfl (List.length_map ..) U132 U5 U9) (aO (tS (mkStr (catL f (l.take i)))) rfl (nt (rt ?_))))))))))
  refine vfin.eq (r' := (tS (mkStr (catL f (l.take i))))) ?_ (vfin.r (VRes.tmp (t := (tS (mkStr (catL f (l.take i))))) rfl VRes.nil) (Give.str _))
  show (tS (mkStr (catL f (l.take i)))) = (tS (pat f l))
  refine congrArg T.str ?_
  rw [take_all hI' fhc0]; rfl
theorem W_impl_patterns (n : Nat) (g : D.Grid) (f : ByteArray) (hc : g.Cells.size ≤ maxLen) (hf : f.size ≤ maxLen) : Pure (acall Tryz.prog (n + 5)) 122 [(T.agg (eGrid false g)), (tS f)] (T.sl true 1 ((patsG g f).map (eStr true))) := by
  refine Pure.intro (rs := [ResultVar.tmp 4]) Tryz.func122 rfl rfl rfl (E0 := [(0, (T.agg (eGrid false g))), (1, (tS f))]) rfl ?_
  obtain ⟨hlim, hmx, hmax⟩ := lims
  have hsl := slotsG_len g
  have hll := layG_len g
  refine sr (kO (B.box (ts := (eGrid false g)) (tv (T.agg (eGrid false g)) rfl) nofun rfl) (fO (OF.assign VEv.nils) (nt (sq (sr (lO (OL.loadOn (us := (eGrid false g)) (tv (T.op 0 0) rfl) rfl st34 sz34 (lb rfl) rfl) (mO (tS f) rfl (cO (cS (vc (tv (T.agg (eGrid false g)) rfl) (vc (tv (tS f) rfl) vn)) (LendL.cons (lg okeGrid) (lp rfl ln)) (W_impl_IsFill (n + 1) g f (by assumption) (by assumption)) rfl rfl) (fO (xnot (tv (tB (decide (isFill g f))) rfl)) (nt ?_))))))))))
  refine cn (isFill g f) rfl (fun fhc0 => ?_) fun fhc0 => ?_
  · refine sr ?_
    refine fO (OF.assign VEv.nils) (nt (rt (tr ?_)))
    refine vfin.eq (r' := (T.sl true 1 [])) ?_ (vfin.r (VRes.tmp (t := T.nils) rfl VRes.nil) (Give.nils 1))
    show (T.sl true 1 []) = (T.sl true 1 ((patsG g f).map (eStr true)))
    refine congrArg (fun l_ => T.sl true 1 (List.map (eStr true) l_)) (a₁ := []) ?_
    exact (if_neg fhc0).symm
  refine sk (tn (sr (fO (OF.assign VEv.nils) (nt (sq (sr (lO (OL.loadOn (us := (eGrid false g)) (tv (T.op 0 0) rfl) rfl st34 sz34 (lb rfl) rfl) (cO (OC.callF (us := [(T.agg (eGrid false g))]) (r := (T.sl true 1 ((layG g).map ((eSl 1 eInt) true)))) (r' := (T.os 1 1 0 (((layG g).map ((eSl 1 eInt) true)).length))) (objs := [(Obj.rows 1 ((layG g).map ((eSl 1 eInt) true)))]) rfl (vc (tv (T.agg (eGrid false g)) rfl) vn) (LendL.cons (lg okeGrid) ln) (W_impl_layout (n + 0) g (by assumption)) rfl) (lO (B.lenO (m := (layG g).length) (tv (T.os 1 1 0 (((layG g).map ((eSl 1 eInt) true)).length)) rfl) U150 (List.length_map ..)) (fO (OF.move (VEv.int .i64 0)) (nt ?_)))))))))))
  refine VRun.block (VRun.wk (Wk.freeze (sz := 1) (k := 1) (rows' := ((layG g).map ((eSl 1 eInt) false))) [13] (bc rfl bn) rfl rfl ((okSl okInt).fzMap _ _)) (VRun.wk (Wk.phantom 5 1 rfl) ?_))
  have he1 : [] = ((((layG g).take 0).map (pat f)).map (eStr true)) := by rfl
  refine VRun.loop (A := Nat) (fun s_ => [(1, (tS f)), (4, T.nils), (5, (T.os 1 0 0 (((((layG g).take s_).map (pat f)).map (eStr true)).length))), (13, (rd 1 (eSl 1 eInt) (layG g))), (14, (tN ((layG g).length))), (15, (tN s_))]) (fun s_ => mkO [(0, (Obj.rows 1 ((((layG g).take s_).map (pat f)).map (eStr true))))]) 1 (fun s_ => s_ ≤ (layG g).length) (fun s_ => (layG g).length - s_) (0 : Nat) ?_ (Wk.mk (fun k => if k = 0 then 2 else  k) ?_ ?_ ?_) ?_
  · (simp; done)
  · exact (b2 (b2 (bc ⟨(congrArg (fun n_ => T.os 1 2 0 n_) (show 0 = ((((layG g).take 0).map (pat f)).map (eStr true)).length from (by rfl))), rfl⟩ (b2 (b2 (b2 bn))))))
  · exact (bc ⟨(congrArg (fun l_ => some (Obj.rows 1 l_)) he1), (lb rfl), rfl⟩ bn)
  · exact nd rfl
  rintro i (hI' : i ≤ (layG g).length)
  show VRun _ _ _ [(1, (tS f)), (4, T.nils), (5, (T.os 1 0 0 (((((layG g).take i).map (pat f)).map (eStr true)).length))), (13, (rd 1 (eSl 1 eInt) (layG g))), (14, (tN ((layG g).length))), (15, (tN i))] (mkO [(0, (Obj.rows 1 ((((layG g).take i).map (pat f)).map (eStr true))))]) 1 _
  have hI1 := hI'
  have htl := take_len_le (layG g) i
  refine sr (fO (xls' (tv (tN i) rfl) (tv (tN ((layG g).length)) rfl)) (nt (sq ?_)))
  refine cd (i < (layG g).length) rfl (fun fhc1 => ?_) fun fhc1 => ?_
  · refine sk ?_
    refine tn (sq (VRun.block (sr ?_)))
    obtain ⟨x1, hx1⟩ : ∃ x, (layG g)[i]? = some x := ⟨_, List.getElem?_eq_getElem (by omega)⟩
    obtain ⟨y1, hy1, hq1⟩ := lay_at hx1
    refine fO (OF.indexAddrR (row := ((eSl 1 eInt) false x1)) (i := i) (tv (rd 1 (eSl 1 eInt) (layG g)) rfl) (tv (tN i) rfl) rfl (map_at _ hx1) U150 sz25 if25) (lO (OL.loadR1 (t := (rd 1 eInt x1)) (tv (T.rp [(rd 1 eInt x1)]) rfl) rfl st25) (aO (rd 1 eInt x1) rfl (nt (VRun.region (mO (T.os 1 0 0 (((((layG g).take i).map (pat f)).map (eStr true)).length)) rfl (mO (tS f) rfl (mO (rd 1 eInt x1) rfl (cO (cS (vc (tv (tS f) rfl) (vc (tv (rd 1 eInt x1) rfl) vn)) (lps rfl) (W_impl_readCells (n + 3) f x1 (by (rw [hq1]; exact Nat.le_trans (lay_len hy1) (by decide))) (by (rw [hq1]; intro c hc; have := cellsS_in (List.mem_of_getElem? hy1) hc; have := fhc0.2.1; omega))) rfl rfl) (kO (OM.buildSlice (l := [(tS (pat f x1))]) (VEvp.cons (tv (tS (pat f x1)) rfl) VEvp.nil) rfl (by decide) (bc (nofun) bn) (bc ((bc (rfl) bn)) bn) (bc (rfl) bn) U134 zo9 (by kernel_rfl) rfl (by rw [sz9]; decide) sz9 (Nat.le_of_ble_eq_true rfl)) (cO (B.append (rows := ((((layG g).take i).map (pat f)).map (eStr true))) (rows2 := [[(tS (pat f x1))]]) (rows3 := ((((layG g).take i).map (pat f) ++ [pat f x1]).map (eStr true))) (VDst.own (tv (T.os 1 0 0 (((((layG g).take i).map (pat f)).map (eStr true)).length)) rfl) rfl rfl) (VSrc.own (tv (T.os 1 1 0 1) rfl) rfl rfl U134 (bc (bc rfl bn) bn)) (by decide) U134 sz9 (by decide) zo9 rfl (of_decide_eq_true (by kernel_rfl)) (by (simp only [List.length_map, List.length_append, List.length_cons, List.length_nil, List.length_replicate, List.length_set, List.length_drop, List.length_take, lim] at *; omega)) ((List.map_append (f := eStr true) (l₁ := ((layG g).take i).map (pat f)) (l₂ := [pat f x1])).symm)) (aO (T.os 1 2 0 (((((layG g).take i).map (pat f) ++ [pat f x1]).map (eStr true)).length)) rfl ?_)))))))))))
    refine VRunO.nil (vinB.n (tn (VRun.region (fO (xinc (tv (tN i) rfl) (VEv.int .i64 1) (by omega)) (mO (tN (i + 1)) rfl (VRunO.nil (tn ?_)))))))
    have he2 : (((layG g).take i).map (pat f) ++ [pat f x1]) = ((layG g).take (i + 1)).map (pat f) := by (rw [List.take_add_one, hx1, Option.toList_some, List.map_append]; rfl)
    refine ⟨(i + 1 : Nat), ?_, ?_, Wk.mk (fun k => if k = 0 then 2 else  k) ?_ ?_ ?_⟩
    · trivial
    · omega
    · exact (b2 (b2 (bc ⟨(congrArg (fun l_ => T.os 1 2 0 (List.map (eStr true) l_).length) he2), rfl⟩ (b2 (b2 (b2 bn))))))
    · exact (bc ⟨(congrArg (fun l_ => some (Obj.rows 1 (List.map (eStr true) l_))) he2), (lb rfl), rfl⟩ bn)
    · exact nd rfl
  refine VRun.exit (vthn.e (vthn.e (vinB.e (tn (sr (mO (T.os 1 0 0 (((((layG g).take i).map (pat f)).map (eStr true)).length)) rfl (aO (T.os 1 0 0 (((((layG g).take i).map (pat f)).map (eStr true)).length)) rfl (nt (rt ?_)))))))))
  refine vfin.eq (r' := (T.sl true 1 ((((layG g).take i).map (pat f)).map (eStr true)))) ?_ (vfin.r (VRes.tmp (t := (T.os 1 0 0 (((((layG g).take i).map (pat f)).map (eStr true)).length))) rfl VRes.nil) (Give.os rfl rfl (okStr.cleanMap _)))
  show (T.sl true 1 ((((layG g).take i).map (pat f)).map (eStr true))) = (T.sl true 1 ((patsG g f).map (eStr true)))
  refine congrArg (fun l_ => T.sl true 1 (List.map (eStr true) l_)) ?_
  rw [take_all hI' fhc1, patsG, if_pos (by simpa using fhc0)]
end Go.Proofs.YtcccmceoplcciaaGreat.AE
namespace Go.Proofs.YtcccmceoplcciaaGreat.AE
open Go Go.RowKit
set_option linter.unusedVariables false
set_option linter.unusedSimpArgs false
set_option maxRecDepth 20000
set_option maxHeartbeats 2000000
noncomputable section
theorem tmod_bd (n : Int) {m : Int} (h : 0 < m) : -m < n.tmod m ∧ n.tmod m < m := ⟨Int.lt_tmod_of_pos n h, Int.tmod_lt_of_pos n h⟩
def modZ (n m : Int) : Int := if 1 ≤ m ∧ m ≤ 1000000000000 then (n.tmod m + m).tmod m else 0
theorem modZ_bd (n : Int) : 0 ≤ modZ n 2147483647 ∧ modZ n 2147483647 < 2147483647 := by
  unfold modZ
  rw [if_pos (by omega)]
  have h1 := tmod_bd n (m := 2147483647) (by decide)
  have h2 := tmod_bd (n.tmod 2147483647 + 2147483647) (m := 2147483647) (by decide)
  exact ⟨Int.tmod_nonneg _ (by omega), h2.2⟩
def hashS (d x : Int) : Int := (d * 1000003 + modZ x 2147483647 + 13).tmod 2147483647
def hashL (l : List Int) : Int := l.foldl hashS 11
theorem hashS_bd {d x : Int} (h : 0 ≤ d ∧ d < 2147483647) : 0 ≤ hashS d x ∧ hashS d x < 2147483647 := by
  have h1 := modZ_bd x
  unfold hashS
  exact ⟨Int.tmod_nonneg _ (by omega), (tmod_bd _ (by decide)).2⟩
theorem hash_fold : ∀ (l : List Int) (d : Int), 0 ≤ d ∧ d < 2147483647 → 0 ≤ l.foldl hashS d ∧ l.foldl hashS d < 2147483647
  | [], d, h => h
  | x :: r, d, h => hash_fold r _ (hashS_bd h)
theorem hashL_bd (l : List Int) : 0 ≤ hashL l ∧ hashL l < 2147483647 := hash_fold l 11 (by decide)
theorem hashL_next {l : List Int} {i : Nat} {x : Int} (h : l[i]? = some x) : hashL (l.take (i + 1)) = hashS (hashL (l.take i)) x := by
  unfold hashL
  rw [List.take_add_one, h, Option.toList_some, List.foldl_append]
  rfl
theorem bAt_bd (s : ByteArray) (i : Nat) : 0 ≤ bAt s i ∧ bAt s i < 256 := by
  unfold bAt
  split
  · have := (s[i]).toNat_lt
    omega
  · decide
theorem bys_at {s : ByteArray} {i : Nat} (h : i < s.size) : (bys s)[i]? = some (bAt s i) := by
  unfold bys
  rw [List.getElem?_map, List.getElem?_eq_getElem (by rw [Array.length_toList]; exact h), Option.map_some, ← bAt_eq h]
  rfl
theorem bys_next {s : ByteArray} {i : Nat} (h : i < s.size) : (bys s).take i ++ [bAt s i] = (bys s).take (i + 1) := by
  rw [List.take_add_one, bys_at h]; rfl
def sealZ (salt slot : Int) (w : ByteArray) : Int := if isWord w then hashL ([salt, slot, ((w.size : Nat) : Int)] ++ bys w) else 0
def chkA (seals : List Int) (salt slot : Int) (w : ByteArray) : Prop := 0 ≤ slot ∧ isWord w ∧ seals[slot.toNat]? = some (sealZ salt slot w)
instance (seals : List Int) (salt slot : Int) (w : ByteArray) : Decidable (chkA seals salt slot w) := Classical.propDecidable _
theorem chkA_at {seals : List Int} {salt slot x : Int} {w : ByteArray} (h0 : 0 ≤ slot) (hw : isWord w) (hx : seals[slot.toNat]? = some x) : sealZ salt slot w = x ↔ chkA seals salt slot w := by
  unfold chkA
  rw [hx]
  exact ⟨fun h => ⟨h0, hw, by rw [h]⟩, fun h => (Option.some.inj h.2.2).symm⟩
theorem chkA_lt {seals : List Int} {salt slot : Int} {w : ByteArray} (h : chkA seals salt slot w) : slot < ((seals.length : Nat) : Int) := by
  have := (List.getElem?_eq_some_iff.1 h.2.2).1
  omega
end
theorem W_spec_Mod (n : Nat) (n0 : Int) (m : Int)  : Pure (acall Tryz.prog (n + 2)) 193 [(tI n0), (tI m)] (tI (modZ n0 m)) := by
  refine Pure.intro (rs := [ResultVar.tmp 4]) Tryz.func193 rfl rfl rfl (E0 := [(0, (tI n0)), (1, (tI m))]) rfl ?_
  obtain ⟨hlim, hmx, hmax⟩ := lims
  refine sr (fO (OF.assign (VEv.int .i64 0)) (nt (sq (sr (mO (tI m) rfl (cO (cS (vc (tv (tI m) rfl) (vc (VEv.int .i64 1) (vc (VEv.int .i64 1000000000000) vn))) (lps rfl) (W_spec_l1In (n + 0) m 1 1000000000000 ) rfl rfl) (fO (xnot (tv (tB (decide (1 ≤ m ∧ m ≤ 1000000000000))) rfl)) (nt ?_))))))))
  refine cn (1 ≤ m ∧ m ≤ 1000000000000) rfl (fun fhc0 => ?_) fun fhc0 => ?_
  · refine sr ?_
    refine fO (OF.assign (VEv.int .i64 0)) (nt (rt (tr (vi (n' := 0) rfl ?_))))
    unfold modZ; rw [if_neg fhc0]
  have hmd := tmod_bd n0 (m := m) (by omega)
  have hmd2 := tmod_bd (n0.tmod m + m) (m := m) (by omega)
  refine sk (tn (sr (mO (tI n0) rfl (mO (tI m) rfl (fO (B.rem (n := (n0.tmod m)) (tv (tI n0) rfl) (tv (tI m) rfl) (by omega) (by rfl)) (mO (tI m) rfl (fO (B.add (n := ((n0.tmod m) + m)) (tv (tI (n0.tmod m)) rfl) (tv (tI m) rfl) (by (rw [wrap64 (by omega)]; done))) (mO (tI m) rfl (fO (B.rem (n := (((n0.tmod m) + m).tmod m)) (tv (tI ((n0.tmod m) + m)) rfl) (tv (tI m) rfl) (by omega) (by rfl)) (aO (tI (((n0.tmod m) + m).tmod m)) rfl (nt ?_)))))))))))
  refine rt (vi (n' := (((n0.tmod m) + m).tmod m)) rfl ?_)
  unfold modZ; rw [if_pos (by omega)]
theorem W_impl_Mod (n : Nat) (n0 : Int) (m : Int)  : Pure (acall Tryz.prog (n + 2)) 194 [(tI n0), (tI m)] (tI (modZ n0 m)) := by
  refine Pure.intro (rs := [ResultVar.tmp 4]) Tryz.func194 rfl rfl rfl (E0 := [(0, (tI n0)), (1, (tI m))]) rfl ?_
  obtain ⟨hlim, hmx, hmax⟩ := lims
  refine sr (fO (OF.assign (VEv.int .i64 0)) (nt (sq (sr (mO (tI m) rfl (cO (cS (vc (tv (tI m) rfl) (vc (VEv.int .i64 1) (vc (VEv.int .i64 1000000000000) vn))) (lps rfl) (W_impl_InRange (n + 0) m 1 1000000000000 ) rfl rfl) (fO (xnot (tv (tB (decide (1 ≤ m ∧ m ≤ 1000000000000))) rfl)) (nt ?_))))))))
  refine cn (1 ≤ m ∧ m ≤ 1000000000000) rfl (fun fhc0 => ?_) fun fhc0 => ?_
  · refine sr ?_
    refine fO (OF.assign (VEv.int .i64 0)) (nt (rt (tr (vi (n' := 0) rfl ?_))))
    unfold modZ; rw [if_neg fhc0]
  have hmd := tmod_bd n0 (m := m) (by omega)
  have hmd2 := tmod_bd (n0.tmod m + m) (m := m) (by omega)
  refine sk (tn (sr (mO (tI n0) rfl (mO (tI m) rfl (fO (B.rem (n := (n0.tmod m)) (tv (tI n0) rfl) (tv (tI m) rfl) (by omega) (by rfl)) (mO (tI m) rfl (fO (B.add (n := ((n0.tmod m) + m)) (tv (tI (n0.tmod m)) rfl) (tv (tI m) rfl) (by (rw [wrap64 (by omega)]; done))) (mO (tI m) rfl (fO (B.rem (n := (((n0.tmod m) + m).tmod m)) (tv (tI ((n0.tmod m) + m)) rfl) (tv (tI m) rfl) (by omega) (by rfl)) (aO (tI (((n0.tmod m) + m).tmod m)) rfl (nt ?_)))))))))))
  refine rt (vi (n' := (((n0.tmod m) + m).tmod m)) rfl ?_)
  unfold modZ; rw [if_pos (by omega)]
theorem W_spec_Hash (n : Nat) (l : List Int) (hl : l.length ≤ lim) : Pure (acall Tryz.prog (n + 3)) 176 [(rd 1 eInt l)] (tI (hashL l)) := by
  refine Pure.intro (rs := [ResultVar.tmp 2]) Tryz.func176 rfl rfl rfl (E0 := [(0, (rd 1 eInt l))]) rfl ?_
  obtain ⟨hlim, hmx, hmax⟩ := lims
  refine sr (fO (OF.assign (VEv.int .i64 0)) (nt (sr (fO (OF.assign (VEv.int .i64 11)) (nt (sq (sr (fO (OF.assign (VEv.int .i64 0)) (nt (VRun.block ?_))))))))))
  refine VRun.loop (A := Nat) (fun s_ => [(0, (rd 1 eInt l)), (2, (tN 0)), (3, (tI (hashL (l.take s_)))), (4, (tN s_))]) (fun s_ => mkO []) 0 (fun s_ => s_ ≤ l.length) (fun s_ => l.length - s_) (0 : Nat) ?_ (Wk.mk (fun k => k) ?_ ?_ ?_) ?_
  · (simp; done)
  · exact (b2 (b2 (bc ⟨(congrArg (T.int .i64) (show 11 = hashL (l.take 0) from (by rfl))), rfl⟩ (b2 bn))))
  · exact bn
  · exact nd rfl
  rintro i (hI' : i ≤ l.length)
  show VRun _ _ _ [(0, (rd 1 eInt l)), (2, (tN 0)), (3, (tI (hashL (l.take i)))), (4, (tN i))] (mkO []) 0 _
  have hhb := hashL_bd (l.take i)
  refine sq (sr (mO (tN i) rfl (mO (rd 1 eInt l) rfl (lO (B.lenR (m := l.length) (tv (rd 1 eInt l) rfl) U25 (List.length_map ..)) (fO (xls' (tv (tN i) rfl) (tv (tN l.length) rfl)) (nt ?_))))))
  refine cd (i < l.length) rfl (fun fhc0 => ?_) fun fhc0 => ?_
  · refine sk ?_
    refine tn (sq (VRun.block (VRun.region (mO (tI (hashL (l.take i))) rfl (fO (B.mul (n := (hashL (l.take i) * 1000003)) (tv (tI (hashL (l.take i))) rfl) (VEv.int .i64 1000003) (by (rw [wrap64 (by omega)]; done))) (mO (rd 1 eInt l) rfl (mO (tN i) rfl ?_)))))))
    obtain ⟨x1, hx1⟩ : ∃ x, l[i]? = some x := ⟨_, List.getElem?_eq_getElem (by omega)⟩
    have hmz := modZ_bd x1
    have hhs := hashS_bd (x := x1) hhb
    have hhs2 : hashS (hashL (l.take i)) x1 = (hashL (l.take i) * 1000003 + modZ x1 2147483647 + 13).tmod 2147483647 := rfl
    refine fO (OF.indexAddrR (row := (eInt false x1)) (i := i) (tv (rd 1 eInt l) rfl) (tv (tN i) rfl) rfl (map_at _ hx1) U25 sz3 if3) (lO (OL.loadR1 (t := (tI x1)) (tv (T.rp [(tI x1)]) rfl) rfl st3) (cO (cS (vc (tv (tI x1) rfl) (vc (VEv.int .i64 2147483647) vn)) (lps rfl) (W_spec_Mod (n + 0) x1 2147483647 ) rfl rfl) (fO (B.add (n := ((hashL (l.take i) * 1000003) + modZ x1 2147483647)) (tv (tI (hashL (l.take i) * 1000003)) rfl) (tv (tI (modZ x1 2147483647)) rfl) (by (rw [wrap64 (by omega)]; done))) (fO (B.add (n := (((hashL (l.take i) * 1000003) + modZ x1 2147483647) + 13)) (tv (tI ((hashL (l.take i) * 1000003) + modZ x1 2147483647)) rfl) (VEv.int .i64 13) (by (rw [wrap64 (by omega)]; done))) (fO (B.rem (n := ((((hashL (l.take i) * 1000003) + modZ x1 2147483647) + 13).tmod 2147483647)) (tv (tI (((hashL (l.take i) * 1000003) + modZ x1 2147483647) + 13)) rfl) (VEv.int .i64 2147483647) (by omega) (by rfl)) (aO (tI ((((hashL (l.take i) * 1000003) + modZ x1 2147483647) + 13).tmod 2147483647)) rfl (VRunO.nil (vinB.n (tn (VRun.region (mO (tN i) rfl ?_)))))))))))
    refine fO (xinc (tv (tN i) rfl) (VEv.int .i64 1) (by omega)) (aO (tN (i + 1)) rfl (VRunO.nil (tn ?_)))
    refine ⟨(i + 1 : Nat), ?_, ?_, Wk.mk (fun k => k) ?_ ?_ ?_⟩
    · trivial
    · omega
    · exact (b2 (b2 (bc ⟨(congrArg (T.int .i64) (show ((((hashL (l.take i) * 1000003) + modZ x1 2147483647) + 13).tmod 2147483647) = hashL (l.take (i + 1)) from (by exact (hashL_next hx1).symm))), rfl⟩ (b2 bn))))
    · exact bn
    · exact nd rfl
  refine VRun.exit (vthn.e (vthn.e (vinB.e (tn (sr (mO (tI (hashL (l.take i))) rfl (aO (tI (hashL (l.take i))) rfl (nt (rt (vi (n' := hashL (l.take i)) rfl ?_))))))))))
  rw [take_all hI' fhc0]
theorem W_impl_Hash (n : Nat) (l : List Int) (hl : l.length ≤ lim) : Pure (acall Tryz.prog (n + 3)) 179 [(rd 1 eInt l)] (tI (hashL l)) := by
  refine Pure.intro (rs := [ResultVar.tmp 2]) Tryz.func179 rfl rfl rfl (E0 := [(0, (rd 1 eInt l))]) rfl ?_
  obtain ⟨hlim, hmx, hmax⟩ := lims
  refine sr (fO (OF.assign (VEv.int .i64 0)) (nt (sr (fO (OF.assign (VEv.int .i64 11)) (nt (sq (sr (mO (rd 1 eInt l) rfl (lO (B.lenR (m := l.length) (tv (rd 1 eInt l) rfl) U25 (List.length_map ..)) (fO (OF.move (VEv.int .i64 0)) (nt ?_)))))))))))
  refine VRun.block ?_
  refine VRun.loop (A := Nat) (fun s_ => [(2, (tN 0)), (3, (tI (hashL (l.take s_)))), (6, (rd 1 eInt l)), (7, (tN l.length)), (8, (tN s_))]) (fun s_ => mkO []) 0 (fun s_ => s_ ≤ l.length) (fun s_ => l.length - s_) (0 : Nat) ?_ (Wk.mk (fun k => k) ?_ ?_ ?_) ?_
  · (simp; done)
  · exact (b2 (bc ⟨(congrArg (T.int .i64) (show 11 = hashL (l.take 0) from (by rfl))), rfl⟩ (b2 (b2 (b2 bn)))))
  · exact bn
  · exact nd rfl
  rintro i (hI' : i ≤ l.length)
  show VRun _ _ _ [(2, (tN 0)), (3, (tI (hashL (l.take i)))), (6, (rd 1 eInt l)), (7, (tN l.length)), (8, (tN i))] (mkO []) 0 _
  have hhb := hashL_bd (l.take i)
  refine sr (fO (xls' (tv (tN i) rfl) (tv (tN l.length) rfl)) (nt (sq ?_)))
  refine cd (i < l.length) rfl (fun fhc0 => ?_) fun fhc0 => ?_
  · refine sk ?_
    refine tn (sq (VRun.block (sr ?_)))
    obtain ⟨x1, hx1⟩ : ∃ x, l[i]? = some x := ⟨_, List.getElem?_eq_getElem (by omega)⟩
    have hmz := modZ_bd x1
    have hhs := hashS_bd (x := x1) hhb
    have hhs2 : hashS (hashL (l.take i)) x1 = (hashL (l.take i) * 1000003 + modZ x1 2147483647 + 13).tmod 2147483647 := rfl
    refine fO (OF.indexAddrR (row := (eInt false x1)) (i := i) (tv (rd 1 eInt l) rfl) (tv (tN i) rfl) rfl (map_at _ hx1) U25 sz3 if3) (lO (OL.loadR1 (t := (tI x1)) (tv (T.rp [(tI x1)]) rfl) rfl st3) (aO (tI x1) rfl (nt (VRun.region (mO (tI (hashL (l.take i))) rfl (fO (B.mul (n := (hashL (l.take i) * 1000003)) (tv (tI (hashL (l.take i))) rfl) (VEv.int .i64 1000003) (by (rw [wrap64 (by omega)]; done))) (mO (tI x1) rfl (cO (cS (vc (tv (tI x1) rfl) (vc (VEv.int .i64 2147483647) vn)) (lps rfl) (W_impl_Mod (n + 0) x1 2147483647 ) rfl rfl) (fO (B.add (n := ((hashL (l.take i) * 1000003) + modZ x1 2147483647)) (tv (tI (hashL (l.take i) * 1000003)) rfl) (tv (tI (modZ x1 2147483647)) rfl) (by (rw [wrap64 (by omega)]; done))) (fO (B.add (n := (((hashL (l.take i) * 1000003) + modZ x1 2147483647) + 13)) (tv (tI ((hashL (l.take i) * 1000003) + modZ x1 2147483647)) rfl) (VEv.int .i64 13) (by (rw [wrap64 (by omega)]; done))) (fO (B.rem (n := ((((hashL (l.take i) * 1000003) + modZ x1 2147483647) + 13).tmod 2147483647)) (tv (tI (((hashL (l.take i) * 1000003) + modZ x1 2147483647) + 13)) rfl) (VEv.int .i64 2147483647) (by omega) (by rfl)) ?_)))))))))))
    refine aO (tI ((((hashL (l.take i) * 1000003) + modZ x1 2147483647) + 13).tmod 2147483647)) rfl (VRunO.nil (vinB.n (tn (VRun.region (fO (xinc (tv (tN i) rfl) (VEv.int .i64 1) (by omega)) (mO (tN (i + 1)) rfl (VRunO.nil (tn ?_))))))))
    refine ⟨(i + 1 : Nat), ?_, ?_, Wk.mk (fun k => k) ?_ ?_ ?_⟩
    · trivial
    · omega
    · exact (b2 (bc ⟨(congrArg (T.int .i64) (show ((((hashL (l.take i) * 1000003) + modZ x1 2147483647) + 13).tmod 2147483647) = hashL (l.take (i + 1)) from (by exact (hashL_next hx1).symm))), rfl⟩ (b2 (b2 (b2 bn)))))
    · exact bn
    · exact nd rfl
  refine VRun.exit (vthn.e (vthn.e (vinB.e (tn (sr (mO (tI (hashL (l.take i))) rfl (aO (tI (hashL (l.take i))) rfl (nt (rt (vi (n' := hashL (l.take i)) rfl ?_))))))))))
  rw [take_all hI' fhc0]
theorem W_spec_LettersOf (n : Nat) (s : ByteArray) (hs : s.size ≤ lim) : Pure (acall Tryz.prog (n + 1)) 177 [(tS s)] (T.sl true 1 ((bys s).map (eInt true))) := by
  refine Pure.intro (rs := [ResultVar.tmp 2]) Tryz.func177 rfl rfl rfl (E0 := [(0, (tS s))]) rfl ?_
  obtain ⟨hlim, hmx, hmax⟩ := lims
  have hbl := bys_len s
  refine sr (fO (OF.assign VEv.nils) (nt (sr (kO (OM.slice0 U25 zo3 (by kernel_rfl) rfl (by rw [sz3]; decide) sz3) (aO (T.os 1 0 0 0) rfl (nt (sq (sr (fO (OF.assign (VEv.int .i64 0)) (nt (VRun.block ?_)))))))))))
  have he1 : [] = (((bys s).take 0).map (eInt true)) := by rfl
  refine VRun.loop (A := Nat) (fun s_ => [(0, (tS s)), (2, T.nils), (3, (T.os 1 0 0 ((((bys s).take s_).map (eInt true)).length))), (4, (tN s_))]) (fun s_ => mkO [(0, (Obj.rows 1 (((bys s).take s_).map (eInt true))))]) 1 (fun s_ => s_ ≤ s.size) (fun s_ => s.size - s_) (0 : Nat) ?_ (Wk.mk (fun k => k) ?_ ?_ ?_) ?_
  · (simp; done)
  · exact (b2 (b2 (bc ⟨(congrArg (fun n_ => T.os 1 0 0 n_) (show 0 = (((bys s).take 0).map (eInt true)).length from (by rfl))), rfl⟩ (b2 bn))))
  · exact (bc ⟨(congrArg (fun l_ => some (Obj.rows 1 l_)) he1), (lb rfl), rfl⟩ bn)
  · exact nd rfl
  rintro i (hI' : i ≤ s.size)
  show VRun _ _ _ [(0, (tS s)), (2, T.nils), (3, (T.os 1 0 0 ((((bys s).take i).map (eInt true)).length))), (4, (tN i))] (mkO [(0, (Obj.rows 1 (((bys s).take i).map (eInt true))))]) 1 _
  have htl := take_len_le (bys s) i
  have hbb := bAt_bd s i
  refine sq (sr (mO (tN i) rfl (mO (tS s) rfl (lO (B.lenS (tv (tS s) rfl) U9) (fO (xls' (tv (tN i) rfl) (tv (tN s.size) rfl)) (nt ?_))))))
  refine cd (i < s.size) rfl (fun fhc0 => ?_) fun fhc0 => ?_
  · refine sk ?_
    refine tn (sq (VRun.block (VRun.region (mO (T.os 1 0 0 ((((bys s).take i).map (eInt true)).length)) rfl (mO (tS s) rfl (mO (tN i) rfl ?_))))))
    have hb2 : i < s.size := (by omega)
    refine fO (xix (tv (tS s) rfl) (tv (tN i) rfl) hb2 U9) (fO (xcv (m := (bAt s i)) (tv (T.int .u8 (bAt s i)) rfl) U5 U3 (wrap64 (by omega))) (kO (OM.buildSlice (l := [(tI (bAt s i))]) (VEvp.cons (tv (tI (bAt s i)) rfl) VEvp.nil) rfl (by decide) (bc (nofun) bn) (bc ((bc (rfl) bn)) bn) (bc (rfl) bn) U25 zo3 (by kernel_rfl) rfl (by rw [sz3]; decide) sz3 (Nat.le_of_ble_eq_true rfl)) (cO (B.append (rows := (((bys s).take i).map (eInt true))) (rows2 := [[(tI (bAt s i))]]) (rows3 := (((bys s).take i ++ [bAt s i]).map (eInt true))) (VDst.own (tv (T.os 1 0 0 ((((bys s).take i).map (eInt true)).length)) rfl) rfl rfl) (VSrc.own (tv (T.os 1 1 0 1) rfl) rfl rfl U25 (bc (bc rfl bn) bn)) (by decide) U25 sz3 (by decide) zo3 rfl (of_decide_eq_true (by kernel_rfl)) (by (simp only [List.length_map, List.length_append, List.length_cons, List.length_nil, List.length_replicate, List.length_set, List.length_drop, List.length_take, lim] at *; omega)) ((List.map_append (f := eInt true) (l₁ := (bys s).take i) (l₂ := [bAt s i])).symm)) (aO (T.os 1 2 0 ((((bys s).take i ++ [bAt s i]).map (eInt true)).length)) rfl (VRunO.nil (vinB.n (tn (VRun.region (mO (tN i) rfl (fO (xinc (tv (tN i) rfl) (VEv.int .i64 1) (by omega)) (aO (tN (i + 1)) rfl ?_)))))))))))
    refine VRunO.nil (tn ?_)
    have he3 : ((bys s).take i ++ [bAt s i]) = (bys s).take (i + 1) := by exact bys_next fhc0
    refine ⟨(i + 1 : Nat), ?_, ?_, Wk.mk (fun k => if k = 0 then 2 else  k) ?_ ?_ ?_⟩
    · trivial
    · omega
    · exact (b2 (b2 (bc ⟨(congrArg (fun l_ => T.os 1 2 0 (List.map (eInt true) l_).length) he3), rfl⟩ (b2 bn))))
    · exact (bc ⟨(congrArg (fun l_ => some (Obj.rows 1 (List.map (eInt true) l_))) he3), (lb rfl), rfl⟩ bn)
    · exact nd rfl
  refine VRun.exit (vthn.e (vthn.e (vinB.e (tn (sr (mO (T.os 1 0 0 ((((bys s).take i).map (eInt true)).length)) rfl (aO (T.os 1 0 0 ((((bys s).take i).map (eInt true)).length)) rfl (nt (rt ?_)))))))))
  refine vfin.eq (r' := (T.sl true 1 (((bys s).take i).map (eInt true)))) ?_ (vfin.r (VRes.tmp (t := (T.os 1 0 0 ((((bys s).take i).map (eInt true)).length))) rfl VRes.nil) (Give.os rfl rfl (okInt.cleanMap _)))
  show (T.sl true 1 (((bys s).take i).map (eInt true))) = (T.sl true 1 ((bys s).map (eInt true)))
  refine congrArg (fun l_ => T.sl true 1 (List.map (eInt true) l_)) ?_
  rw [take_all (by omega) (by omega)]
theorem W_impl_LettersOf (n : Nat) (s : ByteArray) (hs : s.size ≤ lim) : Pure (acall Tryz.prog (n + 1)) 180 [(tS s)] (T.sl true 1 ((bys s).map (eInt true))) := by
  refine Pure.intro (rs := [ResultVar.tmp 2]) Tryz.func180 rfl rfl rfl (E0 := [(0, (tS s))]) rfl ?_
  obtain ⟨hlim, hmx, hmax⟩ := lims
  have hbl := bys_len s
  refine sr (fO (OF.assign VEv.nils) (nt (sr (fO (OF.assign VEv.nils) (nt (sq (sr (mO (tS s) rfl (lO (B.lenS (tv (tS s) rfl) U9) (fO (OF.move (VEv.int .i64 0)) (nt ?_)))))))))))
  refine VRun.block (VRun.wk (Wk.phantom 3 1 rfl) ?_)
  have he1 : [] = (((bys s).take 0).map (eInt true)) := by rfl
  refine VRun.loop (A := Nat) (fun s_ => [(0, (tS s)), (2, T.nils), (3, (T.os 1 0 0 ((((bys s).take s_).map (eInt true)).length))), (6, (tN s.size)), (7, (tN s_))]) (fun s_ => mkO [(0, (Obj.rows 1 (((bys s).take s_).map (eInt true))))]) 1 (fun s_ => s_ ≤ s.size) (fun s_ => s.size - s_) (0 : Nat) ?_ (Wk.mk (fun k => k) ?_ ?_ ?_) ?_
  · (simp; done)
  · exact (b2 (b2 (bc ⟨(congrArg (fun n_ => T.os 1 0 0 n_) (show 0 = (((bys s).take 0).map (eInt true)).length from (by rfl))), rfl⟩ (b2 (b2 bn)))))
  · exact (bc ⟨(congrArg (fun l_ => some (Obj.rows 1 l_)) he1), (lb rfl), rfl⟩ bn)
  · exact nd rfl
  rintro i (hI' : i ≤ s.size)
  show VRun _ _ _ [(0, (tS s)), (2, T.nils), (3, (T.os 1 0 0 ((((bys s).take i).map (eInt true)).length))), (6, (tN s.size)), (7, (tN i))] (mkO [(0, (Obj.rows 1 (((bys s).take i).map (eInt true))))]) 1 _
  have htl := take_len_le (bys s) i
  have hbb := bAt_bd s i
  refine sr (fO (xls' (tv (tN i) rfl) (tv (tN s.size) rfl)) (nt (sq ?_)))
  refine cd (i < s.size) rfl (fun fhc0 => ?_) fun fhc0 => ?_
  · refine sk ?_
    refine tn (sq (VRun.block (sr (mO (tN i) rfl (aO (tN i) rfl (nt (VRun.region (mO (T.os 1 0 0 ((((bys s).take i).map (eInt true)).length)) rfl (mO (tS s) rfl (mO (tN i) rfl ?_))))))))))
    have hb2 : i < s.size := (by omega)
    refine fO (xix (tv (tS s) rfl) (tv (tN i) rfl) hb2 U9) (fO (xcv (m := (bAt s i)) (tv (T.int .u8 (bAt s i)) rfl) U5 U3 (wrap64 (by omega))) (kO (OM.buildSlice (l := [(tI (bAt s i))]) (VEvp.cons (tv (tI (bAt s i)) rfl) VEvp.nil) rfl (by decide) (bc (nofun) bn) (bc ((bc (rfl) bn)) bn) (bc (rfl) bn) U25 zo3 (by kernel_rfl) rfl (by rw [sz3]; decide) sz3 (Nat.le_of_ble_eq_true rfl)) (cO (B.append (rows := (((bys s).take i).map (eInt true))) (rows2 := [[(tI (bAt s i))]]) (rows3 := (((bys s).take i ++ [bAt s i]).map (eInt true))) (VDst.own (tv (T.os 1 0 0 ((((bys s).take i).map (eInt true)).length)) rfl) rfl rfl) (VSrc.own (tv (T.os 1 1 0 1) rfl) rfl rfl U25 (bc (bc rfl bn) bn)) (by decide) U25 sz3 (by decide) zo3 rfl (of_decide_eq_true (by kernel_rfl)) (by (simp only [List.length_map, List.length_append, List.length_cons, List.length_nil, List.length_replicate, List.length_set, List.length_drop, List.length_take, lim] at *; omega)) ((List.map_append (f := eInt true) (l₁ := (bys s).take i) (l₂ := [bAt s i])).symm)) (aO (T.os 1 2 0 ((((bys s).take i ++ [bAt s i]).map (eInt true)).length)) rfl (VRunO.nil (vinB.n (tn (VRun.region (fO (xinc (tv (tN i) rfl) (VEv.int .i64 1) (by omega)) (mO (tN (i + 1)) rfl (VRunO.nil ?_)))))))))))
    refine tn ?_
    have he3 : ((bys s).take i ++ [bAt s i]) = (bys s).take (i + 1) := by exact bys_next fhc0
    refine ⟨(i + 1 : Nat), ?_, ?_, Wk.mk (fun k => if k = 0 then 2 else  k) ?_ ?_ ?_⟩
    · trivial
    · omega
    · exact (b2 (b2 (bc ⟨(congrArg (fun l_ => T.os 1 2 0 (List.map (eInt true) l_).length) he3), rfl⟩ (b2 (b2 bn)))))
    · exact (bc ⟨(congrArg (fun l_ => some (Obj.rows 1 (List.map (eInt true) l_))) he3), (lb rfl), rfl⟩ bn)
    · exact nd rfl
  refine VRun.exit (vthn.e (vthn.e (vinB.e (tn (sr (mO (T.os 1 0 0 ((((bys s).take i).map (eInt true)).length)) rfl (aO (T.os 1 0 0 ((((bys s).take i).map (eInt true)).length)) rfl (nt (rt ?_)))))))))
  refine vfin.eq (r' := (T.sl true 1 (((bys s).take i).map (eInt true)))) ?_ (vfin.r (VRes.tmp (t := (T.os 1 0 0 ((((bys s).take i).map (eInt true)).length))) rfl VRes.nil) (Give.os rfl rfl (okInt.cleanMap _)))
  show (T.sl true 1 (((bys s).take i).map (eInt true))) = (T.sl true 1 ((bys s).map (eInt true)))
  refine congrArg (fun l_ => T.sl true 1 (List.map (eInt true) l_)) ?_
  rw [take_all (by omega) (by omega)]
theorem W_spec_SealAnswer (n : Nat) (salt : Int) (slot : Int) (w : ByteArray) (hw : w.size ≤ maxLen) : Pure (acall Tryz.prog (n + 4)) 147 [(tI salt), (tI slot), (tS w)] (tI (sealZ salt slot w)) := by
  refine Pure.intro (rs := [ResultVar.tmp 6]) Tryz.func147 rfl rfl rfl (E0 := [(0, (tI salt)), (1, (tI slot)), (2, (tS w))]) rfl ?_
  obtain ⟨hlim, hmx, hmax⟩ := lims
  have hbl := bys_len w
  refine sr (fO (OF.assign (VEv.int .i64 0)) (nt (sq (sr (mO (tS w) rfl (cO (cS (vc (tv (tS w) rfl) vn) (lps rfl) (W_spec_IsWord (n + 1) w (by assumption)) rfl rfl) (fO (xnot (tv (tB (decide (isWord w))) rfl)) (nt ?_))))))))
  refine cn (isWord w) rfl (fun fhc0 => ?_) fun fhc0 => ?_
  · refine sr ?_
    refine fO (OF.assign (VEv.int .i64 0)) (nt (rt (tr (vi (n' := 0) rfl ?_))))
    unfold sealZ; rw [if_neg fhc0]
  have hw8 := fhc0.1.2
  refine sk (tn (sr (mO (tI salt) rfl (mO (tI slot) rfl (mO (tS w) rfl (lO (B.lenS (tv (tS w) rfl) U9) (kO (OM.buildSlice (l := [(tI salt), (tI slot), (tN w.size)]) (VEvp.cons (tv (tI salt) rfl) (VEvp.cons (tv (tI slot) rfl) (VEvp.cons (tv (tN w.size) rfl) VEvp.nil))) rfl (by decide) (bc (nofun) (bc (nofun) (bc (nofun) bn))) (bc ((bc (rfl) bn)) (bc ((bc (rfl) bn)) (bc ((bc (rfl) bn)) bn))) (bc (rfl) (bc (rfl) (bc (rfl) bn))) U25 zo3 (by kernel_rfl) rfl (by rw [sz3]; decide) sz3 (Nat.le_of_ble_eq_true rfl)) (mO (tS w) rfl (cO (OC.callF (us := [(tS w)]) (r := (T.sl true 1 ((bys w).map (eInt true)))) (r' := (T.os 1 1 0 (((bys w).map (eInt true)).length))) (objs := [(Obj.rows 1 ((bys w).map (eInt true)))]) rfl (vc (tv (tS w) rfl) vn) (lps rfl) (W_spec_LettersOf (n + 2) w (by omega)) rfl) (cO (B.append (rows := [[(tI salt)], [(tI slot)], [(tN w.size)]]) (rows2 := ((bys w).map (eInt true))) (rows3 := (([salt, slot, ((w.size : Nat) : Int)] ++ bys w).map (eInt true))) (VDst.own (tv (T.os 1 0 0 3) rfl) rfl rfl) (VSrc.own (tv (T.os 1 1 0 (((bys w).map (eInt true)).length)) rfl) rfl rfl U25 (okInt.okMap _ _)) (by decide) U25 sz3 (by decide) zo3 rfl (of_decide_eq_true (by kernel_rfl)) (by (simp only [List.length_append, List.length_cons, List.length_nil, List.length_map]; omega)) ((List.map_append (f := eInt true) (l₁ := [salt, slot, ((w.size : Nat) : Int)]) (l₂ := bys w)).symm)) (cO (cS (us := [(rd 1 eInt ([salt, slot, ((w.size : Nat) : Int)] ++ bys w))]) (vc (tv (T.os 1 2 0 ((([salt, slot, ((w.size : Nat) : Int)] ++ bys w).map (eInt true)).length)) rfl) vn) (LendL.cons (Lend.os rfl rfl (okInt.fzMap _ _)) ln) (W_spec_Hash (n + 0) ([salt, slot, ((w.size : Nat) : Int)] ++ bys w) (by (simp only [List.length_append, List.length_cons, List.length_nil, List.length_map]; omega))) rfl rfl) ?_)))))))))))
  refine aO (tI (hashL ([salt, slot, ((w.size : Nat) : Int)] ++ bys w))) rfl (nt (rt (vi (n' := hashL ([salt, slot, ((w.size : Nat) : Int)] ++ bys w)) rfl ?_)))
  unfold sealZ; rw [if_pos fhc0]
theorem W_impl_SealAnswer (n : Nat) (salt : Int) (slot : Int) (w : ByteArray) (hw : w.size ≤ maxLen) : Pure (acall Tryz.prog (n + 4)) 151 [(tI salt), (tI slot), (tS w)] (tI (sealZ salt slot w)) := by
  refine Pure.intro (rs := [ResultVar.tmp 6]) Tryz.func151 rfl rfl rfl (E0 := [(0, (tI salt)), (1, (tI slot)), (2, (tS w))]) rfl ?_
  obtain ⟨hlim, hmx, hmax⟩ := lims
  have hbl := bys_len w
  refine sr (fO (OF.assign (VEv.int .i64 0)) (nt (sq (sr (mO (tS w) rfl (cO (cS (vc (tv (tS w) rfl) vn) (lps rfl) (W_impl_IsWord (n + 1) w (by assumption)) rfl rfl) (fO (xnot (tv (tB (decide (isWord w))) rfl)) (nt ?_))))))))
  refine cn (isWord w) rfl (fun fhc0 => ?_) fun fhc0 => ?_
  · refine sr ?_
    refine fO (OF.assign (VEv.int .i64 0)) (nt (rt (tr (vi (n' := 0) rfl ?_))))
    unfold sealZ; rw [if_neg fhc0]
  have hw8 := fhc0.1.2
  refine sk (tn (sr (mO (tI salt) rfl (mO (tI slot) rfl (mO (tS w) rfl (lO (B.lenS (tv (tS w) rfl) U9) (kO (OM.buildSlice (l := [(tI salt), (tI slot), (tN w.size)]) (VEvp.cons (tv (tI salt) rfl) (VEvp.cons (tv (tI slot) rfl) (VEvp.cons (tv (tN w.size) rfl) VEvp.nil))) rfl (by decide) (bc (nofun) (bc (nofun) (bc (nofun) bn))) (bc ((bc (rfl) bn)) (bc ((bc (rfl) bn)) (bc ((bc (rfl) bn)) bn))) (bc (rfl) (bc (rfl) (bc (rfl) bn))) U25 zo3 (by kernel_rfl) rfl (by rw [sz3]; decide) sz3 (Nat.le_of_ble_eq_true rfl)) (mO (tS w) rfl (cO (OC.callF (us := [(tS w)]) (r := (T.sl true 1 ((bys w).map (eInt true)))) (r' := (T.os 1 1 0 (((bys w).map (eInt true)).length))) (objs := [(Obj.rows 1 ((bys w).map (eInt true)))]) rfl (vc (tv (tS w) rfl) vn) (lps rfl) (W_impl_LettersOf (n + 2) w (by omega)) rfl) (cO (B.append (rows := [[(tI salt)], [(tI slot)], [(tN w.size)]]) (rows2 := ((bys w).map (eInt true))) (rows3 := (([salt, slot, ((w.size : Nat) : Int)] ++ bys w).map (eInt true))) (VDst.own (tv (T.os 1 0 0 3) rfl) rfl rfl) (VSrc.own (tv (T.os 1 1 0 (((bys w).map (eInt true)).length)) rfl) rfl rfl U25 (okInt.okMap _ _)) (by decide) U25 sz3 (by decide) zo3 rfl (of_decide_eq_true (by kernel_rfl)) (by (simp only [List.length_append, List.length_cons, List.length_nil, List.length_map]; omega)) ((List.map_append (f := eInt true) (l₁ := [salt, slot, ((w.size : Nat) : Int)]) (l₂ := bys w)).symm)) (cO (cS (us := [(rd 1 eInt ([salt, slot, ((w.size : Nat) : Int)] ++ bys w))]) (vc (tv (T.os 1 2 0 ((([salt, slot, ((w.size : Nat) : Int)] ++ bys w).map (eInt true)).length)) rfl) vn) (LendL.cons (Lend.os rfl rfl (okInt.fzMap _ _)) ln) (W_impl_Hash (n + 0) ([salt, slot, ((w.size : Nat) : Int)] ++ bys w) (by (simp only [List.length_append, List.length_cons, List.length_nil, List.length_map]; omega))) rfl rfl) ?_)))))))))))
  refine aO (tI (hashL ([salt, slot, ((w.size : Nat) : Int)] ++ bys w))) rfl (nt (rt (vi (n' := hashL ([salt, slot, ((w.size : Nat) : Int)] ++ bys w)) rfl ?_)))
  unfold sealZ; rw [if_pos fhc0]
theorem W_spec_ChecksAnswer (n : Nat) (seals : List Int) (salt : Int) (slot : Int) (w : ByteArray) (hl : seals.length ≤ lim) (hw : w.size ≤ maxLen) : Pure (acall Tryz.prog (n + 5)) 121 [(rd 1 eInt seals), (tI salt), (tI slot), (tS w)] (tB (decide (chkA seals salt slot w))) := by
  refine Pure.intro (rs := [ResultVar.tmp 8]) Tryz.func121 rfl rfl rfl (E0 := [(0, (rd 1 eInt seals)), (1, (tI salt)), (2, (tI slot)), (3, (tS w))]) rfl ?_
  obtain ⟨hlim, hmx, hmax⟩ := lims
  refine sr (fO (OF.assign (VEv.bool false)) (nt (sq (VRun.draw (B := [[], [], [1], [1, 2], [2, 1, 3, 0], [0, 3, 1, 2, 4], [4, 2, 1, 3, 0, 5], [5, 0, 3, 1, 2, 4, 6], [6, 7, 4, 2, 1, 3, 0, 5], [5, 0, 3, 1, 2, 4, 7, 6, 8], [8, 6, 7, 4, 2, 1, 3, 0, 5, 9], [8, 6, 7, 4, 2, 1, 3, 0, 5, 9], [8, 6, 7, 4, 2, 1, 3, 0, 5, 9], [12, 11, 9, 5, 0, 3, 1, 2, 4, 7, 6, 8, 10], [8, 6, 7, 4, 2, 1, 3, 0, 5, 9], [8, 6, 7, 4, 2, 1, 3, 0, 5, 9], [15, 9, 5, 0, 3, 1, 2, 4, 7, 6, 8, 14], [14, 8, 6, 7, 4, 2, 1, 3, 0, 5, 9, 15, 16], [16, 15, 14, 17, 10, 8, 6, 7, 4, 2, 1, 3, 0, 5, 9, 11, 12, 13], [13, 12, 11, 10, 17, 14, 15, 16, 18, 8, 6, 7, 4, 2, 1, 3, 0, 5, 9], [9, 5, 0, 3, 1, 2, 4, 7, 6, 8, 18, 16, 15, 14, 17, 10, 11, 12, 13, 19]]) (by kernel_rfl) (by kernel_rfl) (mD (tI slot) rfl rfl (mD (rd 1 eInt seals) rfl rfl (lD (B.lenR (m := seals.length) (tv (rd 1 eInt seals) rfl) U25 (List.length_map ..)) rfl rfl (fD (B.sub (n := (((seals.length : Nat) : Int) - 1)) (tv (tN seals.length) rfl) (VEv.int .i64 1) (by (rw [wrap64 (by omega)]; done))) rfl rfl (VRunD.quiet (bi := [2, 1, 3, 0]) rfl VWant.always rfl rfl rfl bn (cS (vc (tv (tI slot) rfl) (vc (VEv.int .i64 0) (vc (tv (tI (((seals.length : Nat) : Int) - 1)) rfl) vn))) (lps rfl) (W_spec_l1In (n + 3) slot 0 (((seals.length : Nat) : Int) - 1) ) rfl rfl) (mD (tB (decide (0 ≤ slot ∧ slot ≤ (((seals.length : Nat) : Int) - 1)))) rfl rfl ?_))))))))))
  refine gw (0 ≤ slot ∧ slot ≤ (((seals.length : Nat) : Int) - 1)) (fun fhg14_1 => ?_) fun fhg14_1 => ?_
  · refine VRunD.free rfl (VWant.on rfl rfl (dy fhg14_1)) rfl (OF.move (tv (tS w) rfl)) ?_
    refine VRunD.quiet (bi := [5, 0, 3, 1, 2, 4, 6]) rfl (VWant.on rfl rfl (dy fhg14_1)) rfl rfl rfl bn (cS (vc (tv (tS w) rfl) vn) (lps rfl) (W_spec_IsWord (n + 2) w (by assumption)) rfl rfl) (fD (OF.pickT (VEv.tmpB rfl (dy fhg14_1)) (tv (tB (decide (isWord w))) rfl)) rfl rfl (mD (tB (decide (isWord w))) rfl rfl ?_))
    refine gw (isWord w) (fun fhg18_2 => ?_) fun fhg18_2 => ?_
    · refine VRunD.free rfl (VWant.on rfl rfl (dy fhg18_2)) rfl (OF.move (tv (tI salt) rfl)) ?_
      refine VRunD.free rfl (VWant.on rfl rfl (dy fhg18_2)) rfl (OF.move (tv (tI slot) rfl)) (VRunD.free rfl (VWant.on rfl rfl (dy fhg18_2)) rfl (OF.move (tv (tS w) rfl)) (VRunD.quiet (bi := [12, 11, 9, 5, 0, 3, 1, 2, 4, 7, 6, 8, 10]) rfl (VWant.on rfl rfl (dy fhg18_2)) rfl rfl rfl bn (cS (vc (tv (tI salt) rfl) (vc (tv (tI slot) rfl) (vc (tv (tS w) rfl) vn))) (lps rfl) (W_spec_SealAnswer (n + 0) salt slot w (by assumption)) rfl rfl) (VRunD.free rfl (VWant.on rfl rfl (dy fhg18_2)) rfl (OF.move (tv (rd 1 eInt seals) rfl)) (VRunD.free rfl (VWant.on rfl rfl (dy fhg18_2)) rfl (OF.move (tv (tI slot) rfl)) ?_))))
      obtain ⟨x1, hx1⟩ : ∃ x, seals[(Int.toNat slot)]? = some x := ⟨_, List.getElem?_eq_getElem (by omega)⟩
      refine VRunD.free rfl (VWant.on rfl rfl (dy fhg18_2)) rfl (OF.indexAddrR (row := (eInt false x1)) (i := (Int.toNat slot)) (tv (rd 1 eInt seals) rfl) (tv (tI slot) rfl) (by omega) (map_at _ hx1) U25 sz3 if3) (VRunD.look rfl (VWant.on rfl rfl (dy fhg18_2)) rfl (OL.loadR1 (t := (tI x1)) (tv (T.rp [(tI x1)]) rfl) rfl st3) (VRunD.free rfl (VWant.on rfl rfl (dy fhg18_2)) rfl (xeq (tv (tI (sealZ salt slot w)) rfl) (tv (tI x1) rfl)) (fD (OF.pickT (VEv.tmpB rfl (dy fhg18_2)) (tv (tB (decide (sealZ salt slot w = x1))) rfl)) rfl rfl (fD (OF.assign (tv (tB (decide (sealZ salt slot w = x1))) rfl)) rfl rfl (VRunD.nil (tn (rt (vb (b' := (decide (sealZ salt slot w = x1))) rfl ?_))))))))
      (refine decN (chkA_at ?_ ?_ hx1); omega; assumption)
    refine oD rfl rfl (dz fhg18_2) rfl (oD rfl rfl (dz fhg18_2) rfl (oD rfl rfl (dz fhg18_2) rfl (oD rfl rfl (dz fhg18_2) rfl (oD rfl rfl (dz fhg18_2) rfl (oD rfl rfl (dz fhg18_2) rfl (oD rfl rfl (dz fhg18_2) rfl (oD rfl rfl (dz fhg18_2) rfl (oD rfl rfl (dz fhg18_2) rfl (fD (OF.pickF (VEv.tmpB rfl (dz fhg18_2)) (VEv.bool false)) rfl rfl (fD (OF.assign (tv (tB false) rfl)) rfl rfl (VRunD.nil ?_)))))))))))
    refine tn (rt (vb (b' := false) rfl ?_))
    (symm; rw [decide_eq_false_iff_not]; intro h; have h2 := chkA_lt h; have h3 := h.1; exact absurd h.2.1 (by assumption))
  refine oD rfl rfl (dz fhg14_1) rfl (oD rfl rfl (dz fhg14_1) rfl (fD (OF.pickF (VEv.tmpB rfl (dz fhg14_1)) (VEv.bool false)) rfl rfl (mD (tB false) rfl rfl (VRunD.off rfl (VWant.not (b := false) rfl rfl rfl) (VRunD.off rfl (VWant.not (b := false) rfl rfl rfl) (VRunD.off rfl (VWant.not (b := false) rfl rfl rfl) (VRunD.off rfl (VWant.not (b := false) rfl rfl rfl) (VRunD.off rfl (VWant.not (b := false) rfl rfl rfl) (VRunD.off rfl (VWant.not (b := false) rfl rfl rfl) (VRunD.off rfl (VWant.not (b := false) rfl rfl rfl) (VRunD.off rfl (VWant.not (b := false) rfl rfl rfl) ?_)))))))))))
  refine VRunD.off rfl (VWant.not (b := false) rfl rfl rfl) (fD (OF.pickF (tv (tB false) rfl) (VEv.bool false)) rfl rfl (fD (OF.assign (tv (tB false) rfl)) rfl rfl (VRunD.nil (tn (rt (vb (b' := false) rfl ?_))))))
  (symm; rw [decide_eq_false_iff_not]; intro h; have h2 := chkA_lt h; have h3 := h.1; omega)
theorem W_impl_ChecksAnswer (n : Nat) (seals : List Int) (salt : Int) (slot : Int) (w : ByteArray) (hl : seals.length ≤ lim) (hw : w.size ≤ maxLen) : Pure (acall Tryz.prog (n + 5)) 123 [(rd 1 eInt seals), (tI salt), (tI slot), (tS w)] (tB (decide (chkA seals salt slot w))) := by
  refine Pure.intro (rs := [ResultVar.tmp 8]) Tryz.func123 rfl rfl rfl (E0 := [(0, (rd 1 eInt seals)), (1, (tI salt)), (2, (tI slot)), (3, (tS w))]) rfl ?_
  obtain ⟨hlim, hmx, hmax⟩ := lims
  refine sr (fO (OF.assign (VEv.bool false)) (nt (sq (VRun.draw (B := [[], [], [1], [1, 2, 0], [0, 2, 1, 3], [3, 1, 2, 0, 4], [4, 0, 2, 1, 3, 5], [5, 6, 3, 1, 2, 0, 4], [4, 0, 2, 1, 3, 6, 5, 7], [7, 5, 6, 3, 1, 2, 0, 4, 8], [7, 5, 6, 3, 1, 2, 0, 4, 8], [7, 5, 6, 3, 1, 2, 0, 4, 8], [11, 10, 8, 4, 0, 2, 1, 3, 6, 5, 7, 9], [7, 5, 6, 3, 1, 2, 0, 4, 8], [7, 5, 6, 3, 1, 2, 0, 4, 8], [14, 8, 4, 0, 2, 1, 3, 6, 5, 7, 13], [13, 7, 5, 6, 3, 1, 2, 0, 4, 8, 14, 15], [15, 14, 13, 16, 9, 7, 5, 6, 3, 1, 2, 0, 4, 8, 10, 11, 12], [12, 11, 10, 9, 16, 13, 14, 15, 17, 7, 5, 6, 3, 1, 2, 0, 4, 8], [8, 4, 0, 2, 1, 3, 6, 5, 7, 17, 15, 14, 13, 16, 9, 10, 11, 12, 18]]) (by kernel_rfl) (by kernel_rfl) (mD (tI slot) rfl rfl (mD (rd 1 eInt seals) rfl rfl (lD (B.lenR (m := seals.length) (tv (rd 1 eInt seals) rfl) U25 (List.length_map ..)) rfl rfl (VRunD.quiet (bi := [1, 2, 0]) rfl VWant.always rfl rfl rfl bn (cS (vc (tv (tI slot) rfl) (vc (tv (tN seals.length) rfl) vn)) (lps rfl) (W_impl_at (n + 3) slot ((seals.length : Nat) : Int) ) rfl rfl) (mD (tB (decide (0 ≤ slot ∧ slot < ((seals.length : Nat) : Int)))) rfl rfl ?_)))))))))
  refine gw (0 ≤ slot ∧ slot < ((seals.length : Nat) : Int)) (fun fhg13_1 => ?_) fun fhg13_1 => ?_
  · refine VRunD.free rfl (VWant.on rfl rfl (dy fhg13_1)) rfl (OF.move (tv (tS w) rfl)) ?_
    refine VRunD.quiet (bi := [4, 0, 2, 1, 3, 5]) rfl (VWant.on rfl rfl (dy fhg13_1)) rfl rfl rfl bn (cS (vc (tv (tS w) rfl) vn) (lps rfl) (W_impl_IsWord (n + 2) w (by assumption)) rfl rfl) (fD (OF.pickT (VEv.tmpB rfl (dy fhg13_1)) (tv (tB (decide (isWord w))) rfl)) rfl rfl (mD (tB (decide (isWord w))) rfl rfl ?_))
    refine gw (isWord w) (fun fhg17_2 => ?_) fun fhg17_2 => ?_
    · refine VRunD.free rfl (VWant.on rfl rfl (dy fhg17_2)) rfl (OF.move (tv (tI salt) rfl)) ?_
      refine VRunD.free rfl (VWant.on rfl rfl (dy fhg17_2)) rfl (OF.move (tv (tI slot) rfl)) (VRunD.free rfl (VWant.on rfl rfl (dy fhg17_2)) rfl (OF.move (tv (tS w) rfl)) (VRunD.quiet (bi := [11, 10, 8, 4, 0, 2, 1, 3, 6, 5, 7, 9]) rfl (VWant.on rfl rfl (dy fhg17_2)) rfl rfl rfl bn (cS (vc (tv (tI salt) rfl) (vc (tv (tI slot) rfl) (vc (tv (tS w) rfl) vn))) (lps rfl) (W_impl_SealAnswer (n + 0) salt slot w (by assumption)) rfl rfl) (VRunD.free rfl (VWant.on rfl rfl (dy fhg17_2)) rfl (OF.move (tv (rd 1 eInt seals) rfl)) (VRunD.free rfl (VWant.on rfl rfl (dy fhg17_2)) rfl (OF.move (tv (tI slot) rfl)) ?_))))
      obtain ⟨x1, hx1⟩ : ∃ x, seals[(Int.toNat slot)]? = some x := ⟨_, List.getElem?_eq_getElem (by omega)⟩
      refine VRunD.free rfl (VWant.on rfl rfl (dy fhg17_2)) rfl (OF.indexAddrR (row := (eInt false x1)) (i := (Int.toNat slot)) (tv (rd 1 eInt seals) rfl) (tv (tI slot) rfl) (by omega) (map_at _ hx1) U25 sz3 if3) (VRunD.look rfl (VWant.on rfl rfl (dy fhg17_2)) rfl (OL.loadR1 (t := (tI x1)) (tv (T.rp [(tI x1)]) rfl) rfl st3) (VRunD.free rfl (VWant.on rfl rfl (dy fhg17_2)) rfl (xeq (tv (tI (sealZ salt slot w)) rfl) (tv (tI x1) rfl)) (fD (OF.pickT (VEv.tmpB rfl (dy fhg17_2)) (tv (tB (decide (sealZ salt slot w = x1))) rfl)) rfl rfl (fD (OF.assign (tv (tB (decide (sealZ salt slot w = x1))) rfl)) rfl rfl (VRunD.nil (tn (rt (vb (b' := (decide (sealZ salt slot w = x1))) rfl ?_))))))))
      (refine decN (chkA_at ?_ ?_ hx1); omega; assumption)
    refine oD rfl rfl (dz fhg17_2) rfl (oD rfl rfl (dz fhg17_2) rfl (oD rfl rfl (dz fhg17_2) rfl (oD rfl rfl (dz fhg17_2) rfl (oD rfl rfl (dz fhg17_2) rfl (oD rfl rfl (dz fhg17_2) rfl (oD rfl rfl (dz fhg17_2) rfl (oD rfl rfl (dz fhg17_2) rfl (oD rfl rfl (dz fhg17_2) rfl (fD (OF.pickF (VEv.tmpB rfl (dz fhg17_2)) (VEv.bool false)) rfl rfl (fD (OF.assign (tv (tB false) rfl)) rfl rfl (VRunD.nil ?_)))))))))))
    refine tn (rt (vb (b' := false) rfl ?_))
    (symm; rw [decide_eq_false_iff_not]; intro h; have h2 := chkA_lt h; have h3 := h.1; exact absurd h.2.1 (by assumption))
  refine oD rfl rfl (dz fhg13_1) rfl (oD rfl rfl (dz fhg13_1) rfl (fD (OF.pickF (VEv.tmpB rfl (dz fhg13_1)) (VEv.bool false)) rfl rfl (mD (tB false) rfl rfl (VRunD.off rfl (VWant.not (b := false) rfl rfl rfl) (VRunD.off rfl (VWant.not (b := false) rfl rfl rfl) (VRunD.off rfl (VWant.not (b := false) rfl rfl rfl) (VRunD.off rfl (VWant.not (b := false) rfl rfl rfl) (VRunD.off rfl (VWant.not (b := false) rfl rfl rfl) (VRunD.off rfl (VWant.not (b := false) rfl rfl rfl) (VRunD.off rfl (VWant.not (b := false) rfl rfl rfl) (VRunD.off rfl (VWant.not (b := false) rfl rfl rfl) ?_)))))))))))
  refine VRunD.off rfl (VWant.not (b := false) rfl rfl rfl) (fD (OF.pickF (tv (tB false) rfl) (VEv.bool false)) rfl rfl (fD (OF.assign (tv (tB false) rfl)) rfl rfl (VRunD.nil (tn (rt (vb (b' := false) rfl ?_))))))
  (symm; rw [decide_eq_false_iff_not]; intro h; have h2 := chkA_lt h; have h3 := h.1; omega)
noncomputable section
def rightN (g : D.Grid) (f : ByteArray) (seals : List Int) (salt : Int) : Nat → List Int
  | 0 => []
  | i + 1 => rightN g f seals salt i ++ (if chkA seals salt ((i : Nat) : Int) (slotPat g f ((i : Nat) : Int)) then [((i : Nat) : Int)] else [])
def rightG (g : D.Grid) (f : ByteArray) (seals : List Int) (salt : Int) : List Int := if isFill g f then rightN g f seals salt (slotsG g).length else []
theorem rightN_len (g : D.Grid) (f : ByteArray) (seals : List Int) (salt : Int) : ∀ i, (rightN g f seals salt i).length ≤ i
  | 0 => Nat.le_refl _
  | i + 1 => by
    have := rightN_len g f seals salt i
    unfold rightN
    rw [List.length_append]
    split <;> simp only [List.length_cons, List.length_nil] <;> omega
theorem rightG_len (g : D.Grid) (f : ByteArray) (seals : List Int) (salt : Int) : (rightG g f seals salt).length ≤ 72 := by
  unfold rightG
  split
  · exact Nat.le_trans (rightN_len _ _ _ _ _) (slotsG_len g)
  · simp
theorem right_yes {g : D.Grid} {f : ByteArray} {seals : List Int} {salt : Int} {i : Nat} (h : chkA seals salt ((i : Nat) : Int) (slotPat g f ((i : Nat) : Int))) : rightN g f seals salt i ++ [((i : Nat) : Int)] = rightN g f seals salt (i + 1) := by rw [rightN, if_pos h]
theorem right_no {g : D.Grid} {f : ByteArray} {seals : List Int} {salt : Int} {i : Nat} (h : ¬ chkA seals salt ((i : Nat) : Int) (slotPat g f ((i : Nat) : Int))) : rightN g f seals salt i = rightN g f seals salt (i + 1) := by rw [rightN, if_neg h, List.append_nil]
theorem right_end {g : D.Grid} {f : ByteArray} {seals : List Int} {salt : Int} {i : Nat} (h1 : i ≤ (slotsG g).length) (h2 : isFill g f ∨ i = 0) (h3 : ¬ (i < (slotsG g).length ∧ isFill g f)) : rightN g f seals salt i = rightG g f seals salt := by
  unfold rightG
  by_cases h : isFill g f
  · rw [if_pos h, show i = (slotsG g).length by have : ¬ i < (slotsG g).length := fun e => h3 ⟨e, h⟩; omega]
  · rw [if_neg h, h2.resolve_left h]; rfl
theorem slotPat_size (g : D.Grid) (f : ByteArray) (slot : Int) : (slotPat g f slot).size ≤ 6 := by
  unfold slotPat
  split
  · split
    · rename_i s hs
      split
      · rw [pat_size]; exact lay_len hs
      · exact Nat.zero_le _
    · exact Nat.zero_le _
  · exact Nat.zero_le _
theorem patsG_le (g : D.Grid) (f : ByteArray) : (patsG g f).length ≤ (slotsG g).length := by
  by_cases h : isFill g f
  · rw [patsG_len h]; exact Nat.le_refl _
  · unfold patsG; rw [if_neg h]; exact Nat.zero_le _
theorem patsG_no {g : D.Grid} {f : ByteArray} (h : ¬ isFill g f) : patsG g f = [] := if_neg h
theorem right_end2 {g : D.Grid} {f : ByteArray} {seals : List Int} {salt : Int} {i : Nat} (h1 : i ≤ (patsG g f).length) (h2 : ¬ i < (patsG g f).length) : rightN g f seals salt i = rightG g f seals salt := by
  have hpl := patsG_le g f
  refine right_end (by omega) ?_ ?_
  · by_cases h : isFill g f
    · exact .inl h
    · right; rw [patsG_no h] at h1; exact Nat.le_zero.1 h1
  · rintro ⟨h3, h4⟩; rw [patsG_len h4] at h2; exact h2 h3
end
theorem W_spec_RightSlots (n : Nat) (g : D.Grid) (f : ByteArray) (seals : List Int) (salt : Int) (hc : g.Cells.size ≤ maxLen) (hf : f.size ≤ maxLen) (hl : seals.length ≤ lim) : Pure (acall Tryz.prog (n + 6)) 89 [(T.agg (eGrid false g)), (tS f), (rd 1 eInt seals), (tI salt)] (T.sl true 1 ((rightG g f seals salt).map (eInt true))) := by
  refine Pure.intro (rs := [ResultVar.tmp 8]) Tryz.func89 rfl rfl rfl (E0 := [(0, (T.agg (eGrid false g))), (1, (tS f)), (2, (rd 1 eInt seals)), (3, (tI salt))]) rfl ?_
  obtain ⟨hlim, hmx, hmax⟩ := lims
  have hsl := slotsG_len g
  refine sr (kO (B.box (ts := (eGrid false g)) (tv (T.agg (eGrid false g)) rfl) nofun rfl) (fO (OF.assign VEv.nils) (nt (sr (kO (OM.slice0 U25 zo3 (by kernel_rfl) rfl (by rw [sz3]; decide) sz3) (aO (T.os 1 1 0 0) rfl (nt (sr (lO (OL.loadOn (us := (eGrid false g)) (tv (T.op 0 0) rfl) rfl st34 sz34 (lb rfl) rfl) (cO (OC.callF (us := [(T.agg (eGrid false g))]) (r := (T.sl true 4 ((slotsG g).map (eSlot true)))) (r' := (T.os 4 2 0 (((slotsG g).map (eSlot true)).length))) (objs := [(Obj.rows 4 ((slotsG g).map (eSlot true)))]) rfl (vc (tv (T.agg (eGrid false g)) rfl) vn) (LendL.cons (lg okeGrid) ln) (W_spec_SlotsOf (n + 2) g (by assumption)) rfl) (aO (T.os 4 2 0 (((slotsG g).map (eSlot true)).length)) rfl ?_)))))))))))
  refine nt (sq (sr (fO (OF.assign (VEv.int .i64 0)) (nt (VRun.block ?_)))))
  have he1 : [] = ((rightN g f seals salt 0).map (eInt true)) := by rfl
  refine VRun.loop (A := Nat) (fun s_ => [(1, (tS f)), (2, (rd 1 eInt seals)), (3, (tI salt)), (4, (T.op 0 0)), (8, T.nils), (9, (T.os 1 2 0 (((rightN g f seals salt s_).map (eInt true)).length))), (10, (T.os 4 1 0 (((slotsG g).map (eSlot true)).length))), (11, (tN s_))]) (fun s_ => mkO [(0, (Obj.cells (eGrid false g))), (1, (Obj.rows 4 ((slotsG g).map (eSlot true)))), (2, (Obj.rows 1 ((rightN g f seals salt s_).map (eInt true))))]) 3 (fun s_ => s_ ≤ (slotsG g).length ∧ (isFill g f ∨ s_ = 0)) (fun s_ => (slotsG g).length - s_) (0 : Nat) ?_ (Wk.mk (fun k => if k = 1 then 2 else if k = 2 then 1 else  k) ?_ ?_ ?_) ?_
  · exact ⟨Nat.zero_le _, .inr rfl⟩
  · exact (b2 (b2 (b2 (b2 (b2 (bc ⟨(congrArg (fun n_ => T.os 1 1 0 n_) (show 0 = ((rightN g f seals salt 0).map (eInt true)).length from (by rfl))), rfl⟩ (b2 (b2 bn))))))))
  · exact (b3 (b3 (bc ⟨(congrArg (fun l_ => some (Obj.rows 1 l_)) he1), (lb rfl), rfl⟩ bn)))
  · exact nd rfl
  rintro i (hI' : i ≤ (slotsG g).length ∧ (isFill g f ∨ i = 0))
  show VRun _ _ _ [(1, (tS f)), (2, (rd 1 eInt seals)), (3, (tI salt)), (4, (T.op 0 0)), (8, T.nils), (9, (T.os 1 2 0 (((rightN g f seals salt i).map (eInt true)).length))), (10, (T.os 4 1 0 (((slotsG g).map (eSlot true)).length))), (11, (tN i))] (mkO [(0, (Obj.cells (eGrid false g))), (1, (Obj.rows 4 ((slotsG g).map (eSlot true)))), (2, (Obj.rows 1 ((rightN g f seals salt i).map (eInt true))))]) 3 _
  have hI1 := hI'.1
  have hrl := rightN_len g f seals salt i
  have hps := slotPat_size g f ((i : Nat) : Int)
  refine sq (sr (mO (tN i) rfl (mO (T.os 4 1 0 (((slotsG g).map (eSlot true)).length)) rfl (lO (B.lenO (m := (slotsG g).length) (tv (T.os 4 1 0 (((slotsG g).map (eSlot true)).length)) rfl) U123 (List.length_map ..)) (fO (xls' (tv (tN i) rfl) (tv (tN ((slotsG g).length)) rfl)) (mO (tB (decide (i < (slotsG g).length))) rfl ?_))))))
  refine VRunO.joinB 4 [20, 21, 22] 23 (tB (decide ((i < (slotsG g).length) ∧ (isFill g f)))) ?_ ?_
  · refine gw (i < (slotsG g).length) (fun fhg19_2 => ?_) fun fhg19_2 => ?_
    · refine gL (dy fhg19_2) rfl rfl (OL.loadOn (us := (eGrid false g)) (tv (T.op 0 0) rfl) rfl st34 sz34 (lb rfl) rfl) ?_
      refine gF (dy fhg19_2) rfl rfl (OF.move (tv (tS f) rfl)) (VRunO.chain (VWant.on rfl rfl (dy fhg19_2)) (cS (vc (tv (T.agg (eGrid false g)) rfl) (vc (tv (tS f) rfl) vn)) (LendL.cons (lg okeGrid) (lp rfl ln)) (W_spec_IsFill (n + 2) g f (by assumption) (by assumption)) rfl rfl) (fO (OF.pickT (VEv.tmpB rfl (dy fhg19_2)) (tv (tB (decide (isFill g f))) rfl)) (VRunO.nil ?_)))
      exact jq (congrArg T.bool (kAT fhg19_2 rfl)) (js rfl (js rfl (js rfl (jn))))
    · refine offs 3 4 true 19 (dz fhg19_2) rfl rfl rfl ?_
      refine fO (OF.pickF (VEv.tmpB rfl (dz fhg19_2)) (VEv.bool false)) (VRunO.nil ?_)
      exact jq (congrArg T.bool (kAF fhg19_2)) (js rfl (js rfl (js rfl (jn))))
  refine nt ?_
  refine cd ((i < (slotsG g).length) ∧ (isFill g f)) rfl (fun fhc0 => ?_) fun fhc0 => ?_
  · refine sk ?_
    refine tn (sq (VRun.block (sr (mO (rd 1 eInt seals) rfl (mO (tI salt) rfl (mO (tN i) rfl (lO (OL.loadOn (us := (eGrid false g)) (tv (T.op 0 0) rfl) rfl st34 sz34 (lb rfl) rfl) (mO (tS f) rfl (mO (tN i) rfl (cO (cS (vc (tv (T.agg (eGrid false g)) rfl) (vc (tv (tS f) rfl) (vc (tv (tN i) rfl) vn))) (LendL.cons (lg okeGrid) (lp rfl (lp rfl ln))) (W_spec_SlotPattern (n + 0) g f ((i : Nat) : Int) (by assumption) (by assumption)) rfl rfl) (cO (cS (vc (tv (rd 1 eInt seals) rfl) (vc (tv (tI salt) rfl) (vc (tv (tN i) rfl) (vc (tv (tS (slotPat g f ((i : Nat) : Int))) rfl) vn)))) (lps rfl) (W_spec_ChecksAnswer (n + 0) seals salt ((i : Nat) : Int) (slotPat g f ((i : Nat) : Int)) (by assumption) (by omega)) rfl rfl) ?_)))))))))))
    refine nt ?_
    refine cd (chkA seals salt ((i : Nat) : Int) (slotPat g f ((i : Nat) : Int))) rfl (fun fhc1 => ?_) fun fhc1 => ?_
    · refine VRun.region ?_
      refine mO (T.os 1 2 0 (((rightN g f seals salt i).map (eInt true)).length)) rfl (mO (tN i) rfl (kO (OM.buildSlice (l := [(tN i)]) (VEvp.cons (tv (tN i) rfl) VEvp.nil) rfl (by decide) (bc (nofun) bn) (bc ((bc (rfl) bn)) bn) (bc (rfl) bn) U25 zo3 (by kernel_rfl) rfl (by rw [sz3]; decide) sz3 (Nat.le_of_ble_eq_true rfl)) (cO (B.append (rows := ((rightN g f seals salt i).map (eInt true))) (rows2 := [[(tN i)]]) (rows3 := ((rightN g f seals salt i ++ [((i : Nat) : Int)]).map (eInt true))) (VDst.own (tv (T.os 1 2 0 (((rightN g f seals salt i).map (eInt true)).length)) rfl) rfl rfl) (VSrc.own (tv (T.os 1 3 0 1) rfl) rfl rfl U25 (bc (bc rfl bn) bn)) (by decide) U25 sz3 (by decide) zo3 rfl (of_decide_eq_true (by kernel_rfl)) (by (simp only [List.length_map, List.length_append, List.length_cons, List.length_nil, List.length_replicate, List.length_set, List.length_drop, List.length_take, lim] at *; omega)) ((List.map_append (f := eInt true) (l₁ := rightN g f seals salt i) (l₂ := [((i : Nat) : Int)])).symm)) (aO (T.os 1 4 0 (((rightN g f seals salt i ++ [((i : Nat) : Int)]).map (eInt true)).length)) rfl (VRunO.nil (vinB.n (tn (VRun.region (mO (tN i) rfl (fO (xinc (tv (tN i) rfl) (VEv.int .i64 1) (by omega)) (aO (tN (i + 1)) rfl ?_)))))))))))
      refine VRunO.nil (tn ?_)
      have he3 : (rightN g f seals salt i ++ [((i : Nat) : Int)]) = rightN g f seals salt (i + 1) := by exact right_yes fhc1
      refine ⟨(i + 1 : Nat), ?_, ?_, Wk.mk (fun k => if k = 2 then 4 else  k) ?_ ?_ ?_⟩
      · exact ⟨by omega, .inl fhc0.2⟩
      · omega
      · exact (b2 (b2 (b2 (b2 (b2 (bc ⟨(congrArg (fun l_ => T.os 1 4 0 (List.map (eInt true) l_).length) he3), rfl⟩ (b2 (b2 bn))))))))
      · exact (b3 (b3 (bc ⟨(congrArg (fun l_ => some (Obj.rows 1 (List.map (eInt true) l_))) he3), (lb rfl), rfl⟩ bn)))
      · exact nd rfl
    refine sk (vinB.n (tn (VRun.region (mO (tN i) rfl (fO (xinc (tv (tN i) rfl) (VEv.int .i64 1) (by omega)) (aO (tN (i + 1)) rfl (VRunO.nil (tn ?_))))))))
    have he4 : rightN g f seals salt i = rightN g f seals salt (i + 1) := by exact right_no fhc1
    refine ⟨(i + 1 : Nat), ?_, ?_, Wk.mk (fun k => k) ?_ ?_ ?_⟩
    · exact ⟨by omega, .inl fhc0.2⟩
    · omega
    · exact (b2 (b2 (b2 (b2 (b2 (bc ⟨(congrArg (fun l_ => T.os 1 2 0 (List.map (eInt true) l_).length) he4), rfl⟩ (b2 (b2 bn))))))))
    · exact (b3 (b3 (bc ⟨(congrArg (fun l_ => some (Obj.rows 1 (List.map (eInt true) l_))) he4), (lb rfl), rfl⟩ bn)))
    · exact nd rfl
  refine VRun.exit (vthn.e (vthn.e (vinB.e (tn (sr (mO (T.os 1 2 0 (((rightN g f seals salt i).map (eInt true)).length)) rfl (aO (T.os 1 2 0 (((rightN g f seals salt i).map (eInt true)).length)) rfl (nt (rt ?_)))))))))
  refine vfin.eq (r' := (T.sl true 1 ((rightN g f seals salt i).map (eInt true)))) ?_ (vfin.r (VRes.tmp (t := (T.os 1 2 0 (((rightN g f seals salt i).map (eInt true)).length))) rfl VRes.nil) (Give.os rfl rfl (okInt.cleanMap _)))
  show (T.sl true 1 ((rightN g f seals salt i).map (eInt true))) = (T.sl true 1 ((rightG g f seals salt).map (eInt true)))
  refine congrArg (fun l_ => T.sl true 1 (List.map (eInt true) l_)) ?_
  exact right_end hI1 hI'.2 fhc0
theorem W_impl_RightSlots (n : Nat) (g : D.Grid) (f : ByteArray) (seals : List Int) (salt : Int) (hc : g.Cells.size ≤ maxLen) (hf : f.size ≤ maxLen) (hl : seals.length ≤ lim) : Pure (acall Tryz.prog (n + 6)) 90 [(T.agg (eGrid false g)), (tS f), (rd 1 eInt seals), (tI salt)] (T.sl true 1 ((rightG g f seals salt).map (eInt true))) := by
  refine Pure.intro (rs := [ResultVar.tmp 8]) Tryz.func90 rfl rfl rfl (E0 := [(0, (T.agg (eGrid false g))), (1, (tS f)), (2, (rd 1 eInt seals)), (3, (tI salt))]) rfl ?_
  obtain ⟨hlim, hmx, hmax⟩ := lims
  have hsl := slotsG_len g
  have hpl := patsG_le g f
  refine sr (kO (B.box (ts := (eGrid false g)) (tv (T.agg (eGrid false g)) rfl) nofun rfl) (fO (OF.assign VEv.nils) (nt (sr (fO (OF.assign VEv.nils) (nt (sq (sr (lO (OL.loadOn (us := (eGrid false g)) (tv (T.op 0 0) rfl) rfl st34 sz34 (lb rfl) rfl) (mO (tS f) rfl (cO (OC.callF (us := [(T.agg (eGrid false g)), (tS f)]) (r := (T.sl true 1 ((patsG g f).map (eStr true)))) (r' := (T.os 1 1 0 (((patsG g f).map (eStr true)).length))) (objs := [(Obj.rows 1 ((patsG g f).map (eStr true)))]) rfl (vc (tv (T.agg (eGrid false g)) rfl) (vc (tv (tS f) rfl) vn)) (LendL.cons (lg okeGrid) (lp rfl ln)) (W_impl_patterns (n + 0) g f (by assumption) (by assumption)) rfl) ?_)))))))))))
  refine lO (B.lenO (m := (patsG g f).length) (tv (T.os 1 1 0 (((patsG g f).map (eStr true)).length)) rfl) U134 (List.length_map ..)) (fO (OF.move (VEv.int .i64 0)) (nt (VRun.block (VRun.wk (Wk.freeze (sz := 1) (k := 1) (rows' := ((patsG g f).map (eStr false))) [14] (bc rfl bn) rfl rfl (okStr.fzMap _ _)) (VRun.wk (Wk.phantom 9 1 rfl) ?_)))))
  have he1 : [] = ((rightN g f seals salt 0).map (eInt true)) := by rfl
  refine VRun.loop (A := Nat) (fun s_ => [(2, (rd 1 eInt seals)), (3, (tI salt)), (8, T.nils), (9, (T.os 1 0 0 (((rightN g f seals salt s_).map (eInt true)).length))), (14, (rd 1 eStr (patsG g f))), (15, (tN ((patsG g f).length))), (16, (tN s_))]) (fun s_ => mkO [(0, (Obj.rows 1 ((rightN g f seals salt s_).map (eInt true))))]) 1 (fun s_ => s_ ≤ (patsG g f).length) (fun s_ => (patsG g f).length - s_) (0 : Nat) ?_ (Wk.mk (fun k => if k = 0 then 2 else  k) ?_ ?_ ?_) ?_
  · (simp; done)
  · exact (b2 (b2 (b2 (bc ⟨(congrArg (fun n_ => T.os 1 2 0 n_) (show 0 = ((rightN g f seals salt 0).map (eInt true)).length from (by rfl))), rfl⟩ (b2 (b2 (b2 bn)))))))
  · exact (bc ⟨(congrArg (fun l_ => some (Obj.rows 1 l_)) he1), (lb rfl), rfl⟩ bn)
  · exact nd rfl
  rintro i (hI' : i ≤ (patsG g f).length)
  show VRun _ _ _ [(2, (rd 1 eInt seals)), (3, (tI salt)), (8, T.nils), (9, (T.os 1 0 0 (((rightN g f seals salt i).map (eInt true)).length))), (14, (rd 1 eStr (patsG g f))), (15, (tN ((patsG g f).length))), (16, (tN i))] (mkO [(0, (Obj.rows 1 ((rightN g f seals salt i).map (eInt true))))]) 1 _
  have hrl := rightN_len g f seals salt i
  have hps := slotPat_size g f ((i : Nat) : Int)
  refine sr (fO (xls' (tv (tN i) rfl) (tv (tN ((patsG g f).length)) rfl)) (nt (sq ?_)))
  refine cd (i < (patsG g f).length) rfl (fun fhc0 => ?_) fun fhc0 => ?_
  · refine sk ?_
    refine tn (sq (VRun.block (sr (mO (tN i) rfl ?_))))
    obtain ⟨x1, hx1⟩ : ∃ x, (patsG g f)[i]? = some x := ⟨_, List.getElem?_eq_getElem (by omega)⟩
    have hpx := patsG_at hx1
    refine fO (OF.indexAddrR (row := (eStr false x1)) (i := i) (tv (rd 1 eStr (patsG g f)) rfl) (tv (tN i) rfl) rfl (map_at _ hx1) U134 sz9 if9) (lO (OL.loadR1 (t := (tS x1)) (tv (T.rp [(tS x1)]) rfl) rfl st9) (aO (tN i) rfl (aO (tS x1) rfl (nt (sr (mO (rd 1 eInt seals) rfl (mO (tI salt) rfl (mO (tN i) rfl (mO (tS x1) rfl (cO (cS (vc (tv (rd 1 eInt seals) rfl) (vc (tv (tI salt) rfl) (vc (tv (tN i) rfl) (vc (tv (tS x1) rfl) vn)))) (lps rfl) (W_impl_ChecksAnswer (n + 0) seals salt ((i : Nat) : Int) x1 (by assumption) (by (rw [hpx]; omega))) rfl rfl) (nt ?_)))))))))))
    refine cd (chkA seals salt ((i : Nat) : Int) x1) rfl (fun fhc1 => ?_) fun fhc1 => ?_
    · refine VRun.region ?_
      refine mO (T.os 1 0 0 (((rightN g f seals salt i).map (eInt true)).length)) rfl (mO (tN i) rfl (kO (OM.buildSlice (l := [(tN i)]) (VEvp.cons (tv (tN i) rfl) VEvp.nil) rfl (by decide) (bc (nofun) bn) (bc ((bc (rfl) bn)) bn) (bc (rfl) bn) U25 zo3 (by kernel_rfl) rfl (by rw [sz3]; decide) sz3 (Nat.le_of_ble_eq_true rfl)) (cO (B.append (rows := ((rightN g f seals salt i).map (eInt true))) (rows2 := [[(tN i)]]) (rows3 := ((rightN g f seals salt i ++ [((i : Nat) : Int)]).map (eInt true))) (VDst.own (tv (T.os 1 0 0 (((rightN g f seals salt i).map (eInt true)).length)) rfl) rfl rfl) (VSrc.own (tv (T.os 1 1 0 1) rfl) rfl rfl U25 (bc (bc rfl bn) bn)) (by decide) U25 sz3 (by decide) zo3 rfl (of_decide_eq_true (by kernel_rfl)) (by (simp only [List.length_map, List.length_append, List.length_cons, List.length_nil, List.length_replicate, List.length_set, List.length_drop, List.length_take, lim] at *; omega)) ((List.map_append (f := eInt true) (l₁ := rightN g f seals salt i) (l₂ := [((i : Nat) : Int)])).symm)) (aO (T.os 1 2 0 (((rightN g f seals salt i ++ [((i : Nat) : Int)]).map (eInt true)).length)) rfl (VRunO.nil (vinB.n (tn (VRun.region (fO (xinc (tv (tN i) rfl) (VEv.int .i64 1) (by omega)) (mO (tN (i + 1)) rfl (VRunO.nil ?_)))))))))))
      refine tn ?_
      have he2 : (rightN g f seals salt i ++ [((i : Nat) : Int)]) = rightN g f seals salt (i + 1) := by (rw [hpx] at fhc1; exact right_yes fhc1)
      refine ⟨(i + 1 : Nat), ?_, ?_, Wk.mk (fun k => if k = 0 then 2 else  k) ?_ ?_ ?_⟩
      · trivial
      · omega
      · exact (b2 (b2 (b2 (bc ⟨(congrArg (fun l_ => T.os 1 2 0 (List.map (eInt true) l_).length) he2), rfl⟩ (b2 (b2 (b2 bn)))))))
      · exact (bc ⟨(congrArg (fun l_ => some (Obj.rows 1 (List.map (eInt true) l_))) he2), (lb rfl), rfl⟩ bn)
      · exact nd rfl
    refine sk (vinB.n (tn (VRun.region (fO (xinc (tv (tN i) rfl) (VEv.int .i64 1) (by omega)) (mO (tN (i + 1)) rfl (VRunO.nil (tn ?_)))))))
    have he3 : rightN g f seals salt i = rightN g f seals salt (i + 1) := by (rw [hpx] at fhc1; exact right_no fhc1)
    refine ⟨(i + 1 : Nat), ?_, ?_, Wk.mk (fun k => k) ?_ ?_ ?_⟩
    · trivial
    · omega
    · exact (b2 (b2 (b2 (bc ⟨(congrArg (fun l_ => T.os 1 0 0 (List.map (eInt true) l_).length) he3), rfl⟩ (b2 (b2 (b2 bn)))))))
    · exact (bc ⟨(congrArg (fun l_ => some (Obj.rows 1 (List.map (eInt true) l_))) he3), (lb rfl), rfl⟩ bn)
    · exact nd rfl
  refine VRun.exit (vthn.e (vthn.e (vinB.e (tn (sr (mO (T.os 1 0 0 (((rightN g f seals salt i).map (eInt true)).length)) rfl (aO (T.os 1 0 0 (((rightN g f seals salt i).map (eInt true)).length)) rfl (nt (rt ?_)))))))))
  refine vfin.eq (r' := (T.sl true 1 ((rightN g f seals salt i).map (eInt true)))) ?_ (vfin.r (VRes.tmp (t := (T.os 1 0 0 (((rightN g f seals salt i).map (eInt true)).length))) rfl VRes.nil) (Give.os rfl rfl (okInt.cleanMap _)))
  show (T.sl true 1 ((rightN g f seals salt i).map (eInt true))) = (T.sl true 1 ((rightG g f seals salt).map (eInt true)))
  refine congrArg (fun l_ => T.sl true 1 (List.map (eInt true) l_)) ?_
  exact right_end2 hI' fhc0
end Go.Proofs.YtcccmceoplcciaaGreat.AE
namespace Go.Proofs.YtcccmceoplcciaaGreat.AE
open Go Go.RowKit
set_option linter.unusedVariables false
set_option linter.unusedSimpArgs false
set_option maxRecDepth 20000
set_option maxHeartbeats 2000000
noncomputable section
def isPuz (p : D.Puzzle) : Prop := formG p.Grid = 0 ∧ p.Clues.length = (slotsG p.Grid).length ∧ p.Seals.length = (slotsG p.Grid).length ∧ (1 ≤ p.Salt ∧ p.Salt ≤ 9999) ∧ ∀ c ∈ p.Clues, okC c
instance (p : D.Puzzle) : Decidable (isPuz p) := Classical.propDecidable _
def noC (c : D.Clue) : Prop := ¬ okC c
instance (c : D.Clue) : Decidable (noC c) := Classical.propDecidable _
end
theorem W_impl_IsPuzzle_1 (n : Nat) (c : D.Clue) (hz : zClue c ≤ mx) : Pure (acall Tryz.prog (n + 5)) 109 [(T.agg (eClue false c))] (tB (decide (noC c))) := by
  refine Pure.intro (rs := [ResultVar.tmp 2]) Tryz.func109 rfl rfl rfl (E0 := [(0, (T.agg (eClue false c)))]) rfl ?_
  obtain ⟨hlim, hmx, hmax⟩ := lims
  refine sr (kO (B.box (ts := (eClue false c)) (tv (T.agg (eClue false c)) rfl) nofun rfl) (fO (OF.assign (VEv.bool false)) (nt (sr (lO (OL.loadOn (us := (eClue false c)) (tv (T.op 0 0) rfl) rfl st83 sz83 (lb rfl) rfl) (cO (cS (vc (tv (T.agg (eClue false c)) rfl) vn) (LendL.cons (lg okeClue) ln) (W_impl_IsClue (n + 0) c (by assumption)) rfl rfl) (fO (xnot (tv (tB (decide ((1 ≤ c.Sense ∧ c.Sense ≤ 99) ∧ isPlay c.Play))) rfl)) (aO (tB (!(decide ((1 ≤ c.Sense ∧ c.Sense ≤ 99) ∧ isPlay c.Play)))) rfl (nt (rt (vb (b' := (!(decide ((1 ≤ c.Sense ∧ c.Sense ≤ 99) ∧ isPlay c.Play)))) rfl ?_)))))))))))
  rw [dN]; exact decN Iff.rfl
theorem W_slices_IndexFunc_impl_Clue_impl_Clue_impl_IsPuzzle_1 (n : Nat) (l : List D.Clue) (hz : zL zClue l ≤ mx) : Pure (acall Tryz.prog (n + 6)) 141 [(rd 2 eClue l), (T.fn 109 [])] (tI (ixF noC l)) := by
  refine Pure.intro (rs := [ResultVar.tmp 4]) Tryz.func141 rfl rfl rfl (E0 := [(0, (rd 2 eClue l)), (1, (T.fn 109 []))]) rfl ?_
  obtain ⟨hlim, hmx, hmax⟩ := lims
  have hl := zL_len (z := zClue) l
  refine sr (fO (OF.assign (VEv.int .i64 0)) (nt (sq (sr (mO (rd 2 eClue l) rfl (lO (B.lenR (m := l.length) (tv (rd 2 eClue l) rfl) U35 (List.length_map ..)) (fO (OF.move (VEv.int .i64 0)) (nt (VRun.block ?_)))))))))
  refine VRun.loop (A := Nat) (fun s_ => [(0, (rd 2 eClue l)), (1, (T.fn 109 [])), (7, (tN l.length)), (8, (tN s_))]) (fun s_ => mkO []) 0 (fun s_ => NoneTo noC l s_) (fun s_ => l.length - s_) (0 : Nat) ?_ (Wk.mk (fun k => k) ?_ ?_ ?_) ?_
  · exact NoneTo.start _ _
  · exact (b2 (b2 (b2 (b2 bn))))
  · exact bn
  · exact nd rfl
  rintro i (hI' : NoneTo noC l i)
  show VRun _ _ _ [(0, (rd 2 eClue l)), (1, (T.fn 109 [])), (7, (tN l.length)), (8, (tN i))] (mkO []) 0 _
  have hI1 := hI'.1
  refine sr (fO (xls' (tv (tN i) rfl) (tv (tN l.length) rfl)) (nt (sq ?_)))
  refine cd (i < l.length) rfl (fun fhc0 => ?_) fun fhc0 => ?_
  · refine sk ?_
    refine tn (sq (VRun.block (sr (mO (tN i) rfl (aO (tN i) rfl (nt (sr (mO (T.fn 109 []) rfl (mO (rd 2 eClue l) rfl (mO (tN i) rfl ?_))))))))))
    obtain ⟨x1, hx1⟩ : ∃ x, l[i]? = some x := ⟨_, List.getElem?_eq_getElem (by omega)⟩
    refine fO (OF.indexAddrR (row := (eClue false x1)) (i := i) (tv (rd 2 eClue l) rfl) (tv (tN i) rfl) rfl (map_at _ hx1) U35 sz83 if83) (lO (OL.loadRn (us := (eClue false x1)) (tv (T.rp (eClue false x1)) rfl) st83 sz83 (lb rfl) rfl) (cO (OC.callv (us := [(T.agg (eClue false x1))]) (ucaps := []) (r := (tB (decide (noC x1)))) (r' := (tB (decide (noC x1)))) (objs := []) rfl rfl (vc (tv (T.agg (eClue false x1)) rfl) vn) (LendL.cons (lg okeClue) ln) ln (W_impl_IsPuzzle_1 (n + 0) x1 (by exact Nat.le_trans (zL_at hx1) hz)) rfl) (nt ?_)))
    refine cd (noC x1) rfl (fun fhc1 => ?_) fun fhc1 => ?_
    · refine sr ?_
      refine mO (tN i) rfl (aO (tN i) rfl (nt (rt (vinB.r (tr (tr (vinB.r (tr (vi (n' := ((i : Nat) : Int)) rfl ?_)))))))))
      exact (ixF_found hx1 fhc1 hI'.2).symm
    refine sk (vinB.n (tn (VRun.region (fO (xinc (tv (tN i) rfl) (VEv.int .i64 1) (by omega)) (mO (tN (i + 1)) rfl (VRunO.nil (tn ?_)))))))
    refine ⟨(i + 1 : Nat), ?_, ?_, Wk.mk (fun k => k) ?_ ?_ ?_⟩
    · exact hI'.next hx1 fhc1
    · omega
    · exact (b2 (b2 (b2 (b2 bn))))
    · exact bn
    · exact nd rfl
  refine VRun.exit (vthn.e (vthn.e (vinB.e (tn (sr (fO (OF.assign (VEv.int .i64 (-1))) (nt (rt (vi (n' := (-1)) rfl ?_)))))))))
  exact (ixF_none (hI'.all fhc0)).symm
theorem W_slices_ContainsFunc_impl_Clue_impl_Clue_impl_IsPuzzle_1 (n : Nat) (l : List D.Clue) (hz : zL zClue l ≤ mx) : Pure (acall Tryz.prog (n + 7)) 108 [(rd 2 eClue l), (T.fn 109 [])] (tB (decide (∃ c ∈ l, noC c))) := by
  refine Pure.intro (rs := [ResultVar.tmp 4]) Tryz.func108 rfl rfl rfl (E0 := [(0, (rd 2 eClue l)), (1, (T.fn 109 []))]) rfl ?_
  obtain ⟨hlim, hmx, hmax⟩ := lims
  refine sr (fO (OF.assign (VEv.bool false)) (nt (sr (mO (rd 2 eClue l) rfl (mO (T.fn 109 []) rfl (cO (cS (us := [(rd 2 eClue l), (T.fn 109 [])]) (vc (tv (rd 2 eClue l) rfl) (vc (tv (T.fn 109 []) rfl) vn)) (lp rfl (LendL.cons (Lend.fn ln) ln)) (W_slices_IndexFunc_impl_Clue_impl_Clue_impl_IsPuzzle_1 (n + 0) l (by assumption)) rfl rfl) (fO (xge (tv (tI (ixF noC l)) rfl) (VEv.int .i64 0)) (aO (tB (decide (0 ≤ ixF noC l))) rfl (nt (rt (vb (b' := (decide (0 ≤ ixF noC l))) rfl ?_)))))))))))
  refine decN ?_; exact ixF_nn
theorem W_spec_IsPuzzle (n : Nat) (a : D.Puzzle) (hz : zPuzzle a ≤ mx) : Pure (acall Tryz.prog (n + 10)) 57 [(T.agg (ePuzzle false a))] (tB (decide (isPuz a))) := by
  refine Pure.intro (rs := [ResultVar.tmp 2]) Tryz.func57 rfl rfl rfl (E0 := [(0, (T.agg (ePuzzle false a)))]) rfl ?_
  obtain ⟨hlim, hmx, hmax⟩ := lims
  simp only [zPuzzle, zGrid] at hz
  have hl := zL_len (z := zClue) a.Clues
  have hl2 := zL_len (z := zI) a.Seals
  refine sr (kO (B.box (ts := (ePuzzle false a)) (tv (T.agg (ePuzzle false a)) rfl) nofun rfl) (fO (OF.assign (VEv.bool false)) (nt (sq (sr (fO (OF.assign (VEv.int .i64 0)) (nt (VRun.block ?_))))))))
  refine VRun.loop (A := Nat) (fun s_ => [(1, (T.op 0 0)), (3, (tN s_))]) (fun s_ => mkO [(0, (Obj.cells (ePuzzle false a)))]) 1 (fun s_ => NoneTo noC a.Clues s_) (fun s_ => a.Clues.length - s_) (0 : Nat) ?_ (Wk.mk (fun k => k) ?_ ?_ ?_) ?_
  · exact NoneTo.start _ _
  · exact (b2 (b2 bn))
  · exact (b3 bn)
  · exact nd rfl
  rintro i (hI' : NoneTo noC a.Clues i)
  show VRun _ _ _ [(1, (T.op 0 0)), (3, (tN i))] (mkO [(0, (Obj.cells (ePuzzle false a)))]) 1 _
  have hI1 := hI'.1
  refine sq (sr (mO (tN i) rfl (lf (rd 2 eClue a.Clues) rfl fa37_1 rfl rfl st35 (lO (B.lenR (m := a.Clues.length) (tv (rd 2 eClue a.Clues) rfl) U35 (List.length_map ..)) (fO (xls' (tv (tN i) rfl) (tv (tN a.Clues.length) rfl)) (nt ?_))))))
  refine cd (i < a.Clues.length) rfl (fun fhc0 => ?_) fun fhc0 => ?_
  · refine sk ?_
    refine tn (sq (VRun.block (sr (lf (rd 2 eClue a.Clues) rfl fa37_1 rfl rfl st35 (mO (tN i) rfl ?_)))))
    obtain ⟨x1, hx1⟩ : ∃ x, a.Clues[i]? = some x := ⟨_, List.getElem?_eq_getElem (by omega)⟩
    refine fO (OF.indexAddrR (row := (eClue false x1)) (i := i) (tv (rd 2 eClue a.Clues) rfl) (tv (tN i) rfl) rfl (map_at _ hx1) U35 sz83 if83) (lO (OL.loadRn (us := (eClue false x1)) (tv (T.rp (eClue false x1)) rfl) st83 sz83 (lb rfl) rfl) (cO (cS (vc (tv (T.agg (eClue false x1)) rfl) vn) (LendL.cons (lg okeClue) ln) (W_spec_IsClue (n + 4) x1 (by exact Nat.le_trans (zL_at hx1) (by omega))) rfl rfl) (fO (xnot (tv (tB (decide ((1 ≤ x1.Sense ∧ x1.Sense ≤ 99) ∧ isPlay x1.Play))) rfl)) (nt ?_))))
    refine cn ((1 ≤ x1.Sense ∧ x1.Sense ≤ 99) ∧ isPlay x1.Play) rfl (fun fhc1 => ?_) fun fhc1 => ?_
    · refine sr ?_
      refine fO (OF.assign (VEv.bool false)) (nt (rt (vinB.r (tr (tr (vinB.r (tr (vb (b' := false) rfl ?_))))))))
      symm; rw [decide_eq_false_iff_not]; rintro ⟨_, _, _, _, h⟩; exact fhc1 (h x1 (List.mem_of_getElem? hx1))
    refine sk (vinB.n (tn (VRun.region (mO (tN i) rfl (fO (xinc (tv (tN i) rfl) (VEv.int .i64 1) (by omega)) (aO (tN (i + 1)) rfl (VRunO.nil (tn ?_))))))))
    refine ⟨(i + 1 : Nat), ?_, ?_, Wk.mk (fun k => k) ?_ ?_ ?_⟩
    · exact hI'.next hx1 (fun h => h fhc1)
    · omega
    · exact (b2 (b2 bn))
    · exact (b3 bn)
    · exact nd rfl
  refine VRun.exit (vthn.e (vthn.e (vinB.e (tn (sr (fO (OF.fieldAddrO (tv (T.op 0 0) rfl) fa37_0) (lO (OL.loadOn (us := (eGrid false a.Grid)) (tv (T.op 0 0) rfl) rfl st34 sz34 (lb rfl) rfl) (cO (OC.callF (us := [(T.agg (eGrid false a.Grid))]) (r := (T.sl true 4 ((slotsG a.Grid).map (eSlot true)))) (r' := (T.os 4 1 0 (((slotsG a.Grid).map (eSlot true)).length))) (objs := [(Obj.rows 4 ((slotsG a.Grid).map (eSlot true)))]) rfl (vc (tv (T.agg (eGrid false a.Grid)) rfl) vn) (LendL.cons (lg okeGrid) ln) (W_spec_SlotsOf (n + 6) a.Grid (by omega)) rfl) (lO (B.lenO (m := (slotsG a.Grid).length) (tv (T.os 4 1 0 (((slotsG a.Grid).map (eSlot true)).length)) rfl) U123 (List.length_map ..)) (aO (tN ((slotsG a.Grid).length)) rfl (nt ?_)))))))))))
  refine sr (fO (OF.fieldAddrO (tv (T.op 0 0) rfl) fa37_0) (lO (OL.loadOn (us := (eGrid false a.Grid)) (tv (T.op 0 0) rfl) rfl st34 sz34 (lb rfl) rfl) (cO (cS (vc (tv (T.agg (eGrid false a.Grid)) rfl) vn) (LendL.cons (lg okeGrid) ln) (W_spec_FormOf (n + 0) a.Grid (by omega)) rfl rfl) (fO (xeq (tv (tI (formG a.Grid)) rfl) (VEv.int .i64 0)) (mO (tB (decide (formG a.Grid = 0))) rfl ?_)))))
  refine VRunO.joinB 6 [28, 29, 30, 31, 32] 33 (tB (decide ((formG a.Grid = 0) ∧ (a.Clues.length = (slotsG a.Grid).length)))) ?_ ?_
  · refine gw (formG a.Grid = 0) (fun fhg27_1 => ?_) fun fhg27_1 => ?_
    · refine glf (rd 2 eClue a.Clues) (dy fhg27_1) rfl rfl rfl rfl fa37_1 rfl rfl st35 ?_
      refine gL (dy fhg27_1) rfl rfl (B.lenR (m := a.Clues.length) (tv (rd 2 eClue a.Clues) rfl) U35 (List.length_map ..)) (gF (dy fhg27_1) rfl rfl (OF.move (tv (tN ((slotsG a.Grid).length)) rfl)) (gF (dy fhg27_1) rfl rfl (xeq' (tv (tN a.Clues.length) rfl) (tv (tN ((slotsG a.Grid).length)) rfl)) (fO (OF.pickT (VEv.tmpB rfl (dy fhg27_1)) (tv (tB (decide (a.Clues.length = (slotsG a.Grid).length))) rfl)) (VRunO.nil ?_))))
      exact jq (congrArg T.bool (kAT fhg27_1 rfl)) (js rfl (js rfl (js rfl (js rfl (js rfl (jn))))))
    · refine offs 5 4 true 27 (dz fhg27_1) rfl rfl rfl ?_
      refine fO (OF.pickF (VEv.tmpB rfl (dz fhg27_1)) (VEv.bool false)) (VRunO.nil ?_)
      exact jq (congrArg T.bool (kAF fhg27_1)) (js rfl (js rfl (js rfl (js rfl (js rfl (jn))))))
  refine mO (tB (decide ((formG a.Grid = 0) ∧ (a.Clues.length = (slotsG a.Grid).length)))) rfl ?_
  refine VRunO.joinB 6 [35, 36, 37, 38, 39] 40 (tB (decide (((formG a.Grid = 0) ∧ (a.Clues.length = (slotsG a.Grid).length)) ∧ (a.Seals.length = (slotsG a.Grid).length)))) ?_ ?_
  · refine gw ((formG a.Grid = 0) ∧ (a.Clues.length = (slotsG a.Grid).length)) (fun fhg34_2 => ?_) fun fhg34_2 => ?_
    · refine glf (rd 1 eInt a.Seals) (dy fhg34_2) rfl rfl rfl rfl fa37_2 rfl rfl st25 ?_
      refine gL (dy fhg34_2) rfl rfl (B.lenR (m := a.Seals.length) (tv (rd 1 eInt a.Seals) rfl) U25 (List.length_map ..)) (gF (dy fhg34_2) rfl rfl (OF.move (tv (tN ((slotsG a.Grid).length)) rfl)) (gF (dy fhg34_2) rfl rfl (xeq' (tv (tN a.Seals.length) rfl) (tv (tN ((slotsG a.Grid).length)) rfl)) (fO (OF.pickT (VEv.tmpB rfl (dy fhg34_2)) (tv (tB (decide (a.Seals.length = (slotsG a.Grid).length))) rfl)) (VRunO.nil ?_))))
      exact jq (congrArg T.bool (kAT fhg34_2 rfl)) (js rfl (js rfl (js rfl (js rfl (js rfl (jn))))))
    · refine offs 5 11 true 34 (dz fhg34_2) rfl rfl rfl ?_
      refine fO (OF.pickF (VEv.tmpB rfl (dz fhg34_2)) (VEv.bool false)) (VRunO.nil ?_)
      exact jq (congrArg T.bool (kAF fhg34_2)) (js rfl (js rfl (js rfl (js rfl (js rfl (jn))))))
  refine mO (tB (decide (((formG a.Grid = 0) ∧ (a.Clues.length = (slotsG a.Grid).length)) ∧ (a.Seals.length = (slotsG a.Grid).length)))) rfl ?_
  refine VRunO.joinB 4 [42, 43, 44] 45 (tB (decide ((((formG a.Grid = 0) ∧ (a.Clues.length = (slotsG a.Grid).length)) ∧ (a.Seals.length = (slotsG a.Grid).length)) ∧ (1 ≤ a.Salt ∧ a.Salt ≤ 9999)))) ?_ ?_
  · refine gw (((formG a.Grid = 0) ∧ (a.Clues.length = (slotsG a.Grid).length)) ∧ (a.Seals.length = (slotsG a.Grid).length)) (fun fhg41_3 => ?_) fun fhg41_3 => ?_
    · refine glf (tI a.Salt) (dy fhg41_3) rfl rfl rfl rfl fa37_3 rfl rfl st3 ?_
      refine VRunO.chain (VWant.on rfl rfl (dy fhg41_3)) (cS (vc (tv (tI a.Salt) rfl) (vc (VEv.int .i64 1) (vc (VEv.int .i64 9999) vn))) (lps rfl) (W_spec_l1In (n + 8) a.Salt 1 9999 ) rfl rfl) (fO (OF.pickT (VEv.tmpB rfl (dy fhg41_3)) (tv (tB (decide (1 ≤ a.Salt ∧ a.Salt ≤ 9999))) rfl)) (VRunO.nil ?_))
      exact jq (congrArg T.bool (kAT fhg41_3 rfl)) (js rfl (js rfl (js rfl (jn))))
    · refine offs 3 18 true 41 (dz fhg41_3) rfl rfl rfl ?_
      refine fO (OF.pickF (VEv.tmpB rfl (dz fhg41_3)) (VEv.bool false)) (VRunO.nil ?_)
      exact jq (congrArg T.bool (kAF fhg41_3)) (js rfl (js rfl (js rfl (jn))))
  refine aO (tB (decide ((((formG a.Grid = 0) ∧ (a.Clues.length = (slotsG a.Grid).length)) ∧ (a.Seals.length = (slotsG a.Grid).length)) ∧ (1 ≤ a.Salt ∧ a.Salt ≤ 9999)))) rfl (nt (rt (vb (b' := (decide ((((formG a.Grid = 0) ∧ (a.Clues.length = (slotsG a.Grid).length)) ∧ (a.Seals.length = (slotsG a.Grid).length)) ∧ (1 ≤ a.Salt ∧ a.Salt ≤ 9999)))) rfl ?_)))
  refine decN ⟨fun h => ⟨h.1.1.1, h.1.1.2, h.1.2, h.2, fun c hc => Classical.byContradiction fun e => hI'.mem fhc0 c hc e⟩, fun h => ⟨⟨⟨h.1, h.2.1⟩, h.2.2.1⟩, h.2.2.2.1⟩⟩
theorem W_impl_IsPuzzle (n : Nat) (a : D.Puzzle) (hz : zPuzzle a ≤ mx) : Pure (acall Tryz.prog (n + 42)) 62 [(T.agg (ePuzzle false a))] (tB (decide (isPuz a))) := by
  refine Pure.intro (rs := [ResultVar.tmp 2]) Tryz.func62 rfl rfl rfl (E0 := [(0, (T.agg (ePuzzle false a)))]) rfl ?_
  obtain ⟨hlim, hmx, hmax⟩ := lims
  simp only [zPuzzle, zGrid] at hz
  have hl := zL_len (z := zClue) a.Clues
  have hl2 := zL_len (z := zI) a.Seals
  refine sr (kO (B.box (ts := (ePuzzle false a)) (tv (T.agg (ePuzzle false a)) rfl) nofun rfl) (fO (OF.assign (VEv.bool false)) (nt (sq (sr (fO (OF.fieldAddrO (tv (T.op 0 0) rfl) fa37_0) (lO (OL.loadOn (us := (eGrid false a.Grid)) (tv (T.op 0 0) rfl) rfl st34 sz34 (lb rfl) rfl) (cO (cS (vc (tv (T.agg (eGrid false a.Grid)) rfl) vn) (LendL.cons (lg okeGrid) ln) (W_impl_FormOf (n + 0) a.Grid (by omega)) rfl rfl) (fO (xne (tv (tI (formG a.Grid)) rfl) (VEv.int .i64 0)) (nt ?_))))))))))
  refine cn (formG a.Grid = 0) rfl (fun fhc0 => ?_) fun fhc0 => ?_
  · refine sr ?_
    refine fO (OF.assign (VEv.bool false)) (nt (rt (tr (vb (b' := false) rfl ?_))))
    symm; rw [decide_eq_false_iff_not]; intro h; exact fhc0 h.1
  refine sk (tn (sr (fO (OF.fieldAddrO (tv (T.op 0 0) rfl) fa37_0) (lO (OL.loadOn (us := (eGrid false a.Grid)) (tv (T.op 0 0) rfl) rfl st34 sz34 (lb rfl) rfl) (cO (OC.callF (us := [(T.agg (eGrid false a.Grid))]) (r := (T.sl true 4 ((slotsG a.Grid).map (eSlot true)))) (r' := (T.os 4 1 0 (((slotsG a.Grid).map (eSlot true)).length))) (objs := [(Obj.rows 4 ((slotsG a.Grid).map (eSlot true)))]) rfl (vc (tv (T.agg (eGrid false a.Grid)) rfl) vn) (LendL.cons (lg okeGrid) ln) (W_impl_SlotsOf (n + 38) a.Grid (by omega)) rfl) (lO (B.lenO (m := (slotsG a.Grid).length) (tv (T.os 4 1 0 (((slotsG a.Grid).map (eSlot true)).length)) rfl) U123 (List.length_map ..)) (aO (tN ((slotsG a.Grid).length)) rfl (nt (sr (lf (rd 2 eClue a.Clues) rfl fa37_1 rfl rfl st35 (lO (B.lenR (m := a.Clues.length) (tv (rd 2 eClue a.Clues) rfl) U35 (List.length_map ..)) ?_)))))))))))
  refine mO (tN ((slotsG a.Grid).length)) rfl (fO (xeq' (tv (tN a.Clues.length) rfl) (tv (tN ((slotsG a.Grid).length)) rfl)) (mO (tB (decide (a.Clues.length = (slotsG a.Grid).length))) rfl ?_))
  refine gw (a.Clues.length = (slotsG a.Grid).length) (fun fhg17_1 => ?_) fun fhg17_1 => ?_
  · refine glf (rd 1 eInt a.Seals) (dy fhg17_1) rfl rfl rfl rfl fa37_2 rfl rfl st25 ?_
    refine gL (dy fhg17_1) rfl rfl (B.lenR (m := a.Seals.length) (tv (rd 1 eInt a.Seals) rfl) U25 (List.length_map ..)) (gF (dy fhg17_1) rfl rfl (OF.move (tv (tN ((slotsG a.Grid).length)) rfl)) (gF (dy fhg17_1) rfl rfl (xeq' (tv (tN a.Seals.length) rfl) (tv (tN ((slotsG a.Grid).length)) rfl)) (fO (OF.pickT (VEv.tmpB rfl (dy fhg17_1)) (tv (tB (decide (a.Seals.length = (slotsG a.Grid).length))) rfl)) (mO (tB (decide (a.Seals.length = (slotsG a.Grid).length))) rfl ?_))))
    refine gw (a.Seals.length = (slotsG a.Grid).length) (fun fhg24_2 => ?_) fun fhg24_2 => ?_
    · refine glf (tI a.Salt) (dy fhg24_2) rfl rfl rfl rfl fa37_3 rfl rfl st3 ?_
      refine VRunO.chain (VWant.on rfl rfl (dy fhg24_2)) (cS (vc (tv (tI a.Salt) rfl) (vc (VEv.int .i64 1) (vc (VEv.int .i64 9999) vn))) (lps rfl) (W_impl_InRange (n + 40) a.Salt 1 9999 ) rfl rfl) (fO (OF.pickT (VEv.tmpB rfl (dy fhg24_2)) (tv (tB (decide (1 ≤ a.Salt ∧ a.Salt ≤ 9999))) rfl)) (mO (tB (decide (1 ≤ a.Salt ∧ a.Salt ≤ 9999))) rfl ?_))
      refine gw (1 ≤ a.Salt ∧ a.Salt ≤ 9999) (fun fhg29_3 => ?_) fun fhg29_3 => ?_
      · refine glf (rd 2 eClue a.Clues) (dy fhg29_3) rfl rfl rfl rfl fa37_1 rfl rfl st35 ?_
        refine VRunO.chain (VWant.on rfl rfl (dy fhg29_3)) (cS (us := [(rd 2 eClue a.Clues), (T.fn 109 [])]) (vc (tv (rd 2 eClue a.Clues) rfl) (vc (VEv.func 109) vn)) (lp rfl (LendL.cons (Lend.fn ln) ln)) (W_slices_ContainsFunc_impl_Clue_impl_Clue_impl_IsPuzzle_1 (n + 34) a.Clues (by omega)) rfl rfl) (gF (dy fhg29_3) rfl rfl (xnot (tv (tB (decide (∃ c ∈ a.Clues, noC c))) rfl)) (fO (OF.pickT (VEv.tmpB rfl (dy fhg29_3)) (tv (tB (!(decide (∃ c ∈ a.Clues, noC c)))) rfl)) (aO (tB (!(decide (∃ c ∈ a.Clues, noC c)))) rfl (nt (rt (vb (b' := (!(decide (∃ c ∈ a.Clues, noC c)))) rfl ?_))))))
        (rw [dN]; refine decN ⟨fun h => ⟨?_, ?_, ?_, ?_, fun c hc => Classical.byContradiction fun e => h ⟨c, hc, e⟩⟩, fun h => ?_⟩ <;> first | assumption | (rintro ⟨c, hc, hb⟩; exact hb (h.2.2.2.2 c hc)))
      refine offs 4 17 true 29 (dz fhg29_3) rfl rfl rfl (fO (OF.pickF (VEv.tmpB rfl (dz fhg29_3)) (VEv.bool false)) (aO (tB false) rfl (nt (rt (vb (b' := false) rfl ?_)))))
      (symm; rw [decide_eq_false_iff_not]; rintro ⟨h1, h2, h3, h4, h5⟩; contradiction)
    refine offs 3 12 true 24 (dz fhg24_2) rfl rfl rfl (fO (OF.pickF (VEv.tmpB rfl (dz fhg24_2)) (VEv.bool false)) (mO (tB false) rfl (offs 4 17 true 29 (b := false) rfl rfl rfl rfl (fO (OF.pickF (tv (tB false) rfl) (VEv.bool false)) (aO (tB false) rfl (nt (rt (vb (b' := false) rfl ?_))))))))
    (symm; rw [decide_eq_false_iff_not]; rintro ⟨h1, h2, h3, h4, h5⟩; contradiction)
  refine offs 5 5 true 17 (dz fhg17_1) rfl rfl rfl (fO (OF.pickF (VEv.tmpB rfl (dz fhg17_1)) (VEv.bool false)) (mO (tB false) rfl (offs 3 12 true 24 (b := false) rfl rfl rfl rfl (fO (OF.pickF (tv (tB false) rfl) (VEv.bool false)) (mO (tB false) rfl (offs 4 17 true 29 (b := false) rfl rfl rfl rfl (fO (OF.pickF (tv (tB false) rfl) (VEv.bool false)) (aO (tB false) rfl (nt (rt (vb (b' := false) rfl ?_)))))))))))
  (symm; rw [decide_eq_false_iff_not]; rintro ⟨h1, h2, h3, h4, h5⟩; contradiction)
end Go.Proofs.YtcccmceoplcciaaGreat.AE
namespace Go.Proofs.YtcccmceoplcciaaGreat.AE
open Go Go.RowKit
set_option linter.unusedVariables false
set_option linter.unusedSimpArgs false
set_option maxRecDepth 20000
set_option maxHeartbeats 2000000
theorem W_spec_Max (n : Nat) (a : Int) (b : Int)  : Pure (acall Tryz.prog (n + 1)) 88 [(tI a), (tI b)] (tI (max a b)) := by
  refine Pure.intro (rs := [ResultVar.tmp 4]) Tryz.func88 rfl rfl rfl (E0 := [(0, (tI a)), (1, (tI b))]) rfl ?_
  obtain ⟨hlim, hmx, hmax⟩ := lims
  refine sr (fO (OF.assign (VEv.int .i64 0)) (nt (sq (sr (mO (tI b) rfl (mO (tI a) rfl (fO (xgt (tv (tI b) rfl) (tv (tI a) rfl)) (nt ?_))))))))
  refine cd (a < b) rfl (fun fhc0 => ?_) fun fhc0 => ?_
  · refine sr ?_
    refine mO (tI b) rfl (aO (tI b) rfl (nt (rt (tr (vi (n' := b) rfl ?_)))))
    omega
  refine sk (tn (sr (mO (tI a) rfl (aO (tI a) rfl (nt (rt (vi (n' := a) rfl ?_)))))))
  omega
end Go.Proofs.YtcccmceoplcciaaGreat.AE
namespace Go.Proofs.YtcccmceoplcciaaGreat.AE
open Go Go.RowKit
set_option linter.unusedVariables false
set_option linter.unusedSimpArgs false
set_option maxRecDepth 20000
set_option maxHeartbeats 2000000
noncomputable section
def isAsc (l : List Int) : Prop := l.Pairwise (· < ·)
def srtd (l : List Int) : List Int := Lib.compact (sortI l)
theorem asc_uniq : ∀ {a b : List Int}, isAsc a → isAsc b → (∀ x, x ∈ a ↔ x ∈ b) → a = b
  | [], [], _, _, _ => rfl
  | [], y :: s, _, _, h => by have := (h y).2 (by simp); simp at this
  | x :: r, [], _, _, h => by have := (h x).1 (by simp); simp at this
  | x :: r, y :: s, h1, h2, h => by
    have a1 := List.pairwise_cons.1 h1
    have b1 := List.pairwise_cons.1 h2
    have hxy : x = y := by
      have e1 := (h x).1 (by simp)
      have e2 := (h y).2 (by simp)
      rcases List.mem_cons.1 e1 with e1 | e1
      · exact e1
      · rcases List.mem_cons.1 e2 with e2 | e2
        · exact e2.symm
        · have := a1.1 y e2
          have := b1.1 x e1
          omega
    subst hxy
    rw [asc_uniq a1.2 b1.2 (fun z => ?_)]
    have hz := h z
    simp only [List.mem_cons] at hz
    refine ⟨fun e => ?_, fun e => ?_⟩
    · have := a1.1 z e
      rcases hz.1 (.inr e) with e1 | e1
      · omega
      · exact e1
    · have := b1.1 z e
      rcases hz.2 (.inr e) with e1 | e1
      · omega
      · exact e1
theorem comp_spec (d : Array Int) (hs : ∀ j, j + 1 < d.size → d[j]! ≤ d[j + 1]!) : ∀ m, m ≤ d.size → isAsc (Lib.compactUpTo d m) ∧ (∀ x ∈ Lib.compactUpTo d m, 0 < m ∧ x ≤ d[m - 1]!) ∧ (∀ j, j < m → d[j]! ∈ Lib.compactUpTo d m) ∧ (∀ x ∈ Lib.compactUpTo d m, ∃ j, j < m ∧ x = d[j]!)
  | 0, _ => ⟨List.Pairwise.nil, fun x hx => by simp [Lib.compactUpTo] at hx, fun j hj => by omega, fun x hx => by simp [Lib.compactUpTo] at hx⟩
  | m + 1, hm => by
    obtain ⟨h1, h2, h3, h4⟩ := comp_spec d hs m (by omega)
    rw [Lib.compactUpTo_succ]
    by_cases hk : Lib.keeps d m = true
    · rw [if_pos hk]
      have hlt : ∀ x ∈ Lib.compactUpTo d m, x < d[m]! := fun x hx => by
        obtain ⟨h5, h6⟩ := h2 x hx
        have h7 := hs (m - 1) (by omega)
        rw [show m - 1 + 1 = m by omega] at h7
        have h8 : d[m]! ≠ d[m - 1]! := fun e => by
          rw [Lib.keeps_neg h5 e] at hk
          cases hk
        omega
      refine ⟨List.pairwise_append.2 ⟨h1, List.pairwise_singleton _ _, fun x hx y hy => ?_⟩, fun x hx => ?_, fun j hj => ?_, fun x hx => ?_⟩
      · obtain rfl := List.mem_singleton.1 hy
        exact hlt x hx
      · rw [Nat.add_sub_cancel]
        rcases List.mem_append.1 hx with hx | hx
        · have := hlt x hx
          omega
        · obtain rfl := List.mem_singleton.1 hx
          omega
      · rcases Nat.lt_or_ge j m with h | h
        · exact List.mem_append.2 (.inl (h3 j h))
        · obtain rfl : j = m := by omega
          exact List.mem_append.2 (.inr (List.mem_singleton.2 rfl))
      · rcases List.mem_append.1 hx with hx | hx
        · obtain ⟨j, hj, e⟩ := h4 x hx
          exact ⟨j, by omega, e⟩
        · exact ⟨m, by omega, List.mem_singleton.1 hx⟩
    · have hm0 : 0 < m := Nat.pos_of_ne_zero (fun e => hk (by rw [e]; exact Lib.keeps_lt_one d 0 (by omega)))
      have he : d[m]! = d[m - 1]! := Classical.byContradiction fun e => hk (Lib.keeps_pos e)
      rw [if_neg hk, List.append_nil]
      refine ⟨h1, fun x hx => ⟨by omega, ?_⟩, fun j hj => ?_, fun x hx => ?_⟩
      · rw [Nat.add_sub_cancel, he]
        exact (h2 x hx).2
      · rcases Nat.lt_or_ge j m with h | h
        · exact h3 j h
        · obtain rfl : j = m := by omega
          rw [he]
          exact h3 (j - 1) (by omega)
      · obtain ⟨j, hj, e⟩ := h4 x hx
        exact ⟨j, by omega, e⟩
theorem sortI_pw (l : List Int) : (sortI l).Pairwise (· ≤ ·) := by
  have := List.pairwise_mergeSort (le := fun x y : Int => decide (x ≤ y)) (by intro a b c; simp; omega) (by intro a b; simp; omega) l
  exact this.imp (fun h => by simpa using h)
theorem sortI_mem {l : List Int} {x : Int} : x ∈ sortI l ↔ x ∈ l := List.mem_mergeSort
theorem comp_sorted {l : List Int} (hl : l.Pairwise (· ≤ ·)) : isAsc (Lib.compact l) ∧ ∀ x, x ∈ Lib.compact l ↔ x ∈ l := by
  obtain ⟨h1, _, h3, h4⟩ := comp_spec l.toArray (fun j hj => by
    have hj' : j + 1 < l.length := by simpa using hj
    have := List.pairwise_iff_getElem.1 hl j (j + 1) (by omega) hj' (by omega)
    simpa [show j < l.length by omega, hj'] using this) l.length (by simp)
  refine ⟨h1, fun x => ⟨fun hx => ?_, fun hx => ?_⟩⟩
  · obtain ⟨j, hj, e⟩ := h4 x hx
    rw [e]
    simp [hj]
  · obtain ⟨j, hj, e⟩ := List.getElem_of_mem hx
    have := h3 j hj
    simp only [List.getElem!_toArray, getElem!_pos l j hj, e] at this
    exact this
theorem srtd_asc (l : List Int) : isAsc (srtd l) := (comp_sorted (sortI_pw l)).1
theorem srtd_mem {l : List Int} {x : Int} : x ∈ srtd l ↔ x ∈ l := ((comp_sorted (sortI_pw l)).2 x).trans sortI_mem
theorem srtd_eq {l : List Int} : srtd l = l ↔ isAsc l := ⟨fun h => h ▸ srtd_asc l, fun h => asc_uniq (srtd_asc l) h (fun _ => srtd_mem)⟩
theorem srtd_len (l : List Int) : (srtd l).length ≤ l.length := by
  have := compact_le (sortI l)
  rw [sortI_length] at this
  exact this
def ascOk (n : Int) (l : List Int) (j : Nat) : Prop := ∃ x, l[j]? = some x ∧ (0 ≤ x ∧ x ≤ n) ∧ (0 < j → ∃ y, l[j - 1]? = some y ∧ ¬ x ≤ y)
theorem asc_of {n : Int} {l : List Int} : (∀ j, j < l.length → ascOk n l j) ↔ (∀ x ∈ l, 0 ≤ x ∧ x ≤ n) ∧ isAsc l := by
  refine ⟨fun h => ⟨fun x hx => ?_, ?_⟩, fun h j hj => ?_⟩
  · obtain ⟨j, hj, e⟩ := List.getElem_of_mem hx
    obtain ⟨y, h1, h2, _⟩ := h j hj
    rw [List.getElem?_eq_getElem hj, e] at h1
    cases h1
    exact h2
  · have key : ∀ k i (hi : i < l.length) (hk : i + k + 1 < l.length), l[i] < l[i + k + 1] := by
      intro k
      induction k with
      | zero =>
        intro i hi hk
        obtain ⟨x, h1, _, h3⟩ := h (i + 0 + 1) hk
        obtain ⟨y, h4, h5⟩ := h3 (by omega)
        rw [List.getElem?_eq_getElem hk] at h1
        rw [show i + 0 + 1 - 1 = i by omega, List.getElem?_eq_getElem hi] at h4
        have e1 := Option.some.inj h1
        have e2 := Option.some.inj h4
        omega
      | succ k ih =>
        intro i hi hk
        have a1 := ih i hi (by omega)
        obtain ⟨x, h1, _, h3⟩ := h (i + (k + 1) + 1) hk
        obtain ⟨y, h4, h5⟩ := h3 (by omega)
        rw [List.getElem?_eq_getElem hk] at h1
        rw [show i + (k + 1) + 1 - 1 = i + k + 1 by omega, List.getElem?_eq_getElem (show i + k + 1 < l.length by omega)] at h4
        have e1 := Option.some.inj h1
        have e2 := Option.some.inj h4
        omega
    refine List.pairwise_iff_getElem.2 (fun i j hi hj hij => ?_)
    have := key (j - i - 1) i hi (by omega)
    simp only [show i + (j - i - 1) + 1 = j by omega] at this
    exact this
  · refine ⟨l[j], List.getElem?_eq_getElem hj, h.1 _ (List.getElem_mem hj), fun h0 => ⟨l[j - 1], List.getElem?_eq_getElem (by omega), ?_⟩⟩
    have := List.pairwise_iff_getElem.1 h.2 (j - 1) j (by omega) hj (by omega)
    omega
end
theorem W_slices_Clone_int_int_ (n : Nat) (a : List Int) (ha : a.length ≤ mx + 1) : Pure (acall Tryz.prog (n + 1)) 113 [(rd 1 eInt a)] (T.sl true 1 (a.map (eInt true))) := by
  refine Pure.intro (rs := [ResultVar.tmp 2]) Tryz.func113 rfl rfl rfl (E0 := [(0, (rd 1 eInt a))]) rfl ?_
  obtain ⟨hlim, hmx, hmax⟩ := lims
  refine sr (fO (OF.assign VEv.nils) (nt (sq (sr (mO (rd 1 eInt a) rfl ?_)))))
  refine VRunO.nilEq VWant.always (tv (rd 1 eInt a) rfl) VEv.nils U25 (fun bn1 hbn1 => ?_)
  refine nt ?_
  refine VRun.cond (tv (tB bn1) rfl) (fun hc0 => ?_) (fun hc0 => ?_)
  · have fhc0 : bn1 = true := hc0
    have ebn1 := hbn1 hc0
    refine sr (fO (OF.assign VEv.nils) (nt (rt (tr ?_))))
    refine vfin.eq (r' := (T.sl true 1 [])) ?_ (vfin.r (VRes.tmp (t := T.nils) rfl VRes.nil) (Give.nils 1))
    show (T.sl true 1 []) = (T.sl true 1 (a.map (eInt true)))
    refine congrArg (fun l_ => T.sl true 1 (List.map (eInt true) l_)) (a₁ := []) ?_
    exact (List.map_eq_nil_iff.1 ebn1).symm
  have fhc0 : bn1 = false := hc0
  refine sk (tn (sr (kO (OM.slice0 U25 zo3 (by kernel_rfl) rfl (by rw [sz3]; decide) sz3) (mO (rd 1 eInt a) rfl (cO (B.append (rows := []) (rows2 := (a.map (eInt false))) (rows3 := (a.map (eInt true))) (VDst.own (tv (T.os 1 0 0 0) rfl) rfl rfl) (VSrc.read (tv (rd 1 eInt a) rfl) U25 (okInt.okMap _ _)) nofun U25 sz3 (by decide) zo3 rfl (of_decide_eq_true (by kernel_rfl)) (by first | omega | (simp only [List.length_map]; omega) | (simp only [List.length_map, List.length_append, List.length_cons, List.length_nil, List.length_replicate, List.length_set, List.length_drop, List.length_take, lim] at *; omega)) (List.nil_append _)) (aO (T.os 1 1 0 ((a.map (eInt true)).length)) rfl (nt (rt ?_))))))))
  refine vfin.eq (r' := (T.sl true 1 (a.map (eInt true)))) ?_ (vfin.r (VRes.tmp (t := (T.os 1 1 0 ((a.map (eInt true)).length))) rfl VRes.nil) (Give.os rfl rfl (okInt.cleanMap _)))
  rfl
theorem W_slices_Sort_int_int_ (n : Nat) (a : List Int) (ha : a.length ≤ mx + 1) : Loan (acall Tryz.prog (n + 1)) 114 1 (List.map (eInt true) a) [(T.os 1 0 0 ((a.map (eInt true)).length))] (T.tup []) (List.map (eInt true) (sortI a)) := by
  obtain ⟨hlim, hmx, hmax⟩ := lims
  exact sortLoan n rfl rfl a (by omega)
theorem W_slices_Compact_int_int_ (n : Nat) (a : List Int) (ha : a.length ≤ mx + 1) : Loan (acall Tryz.prog (n + 1)) 115 1 (List.map (eInt true) a) [(T.os 1 0 0 ((a.map (eInt true)).length))] (T.os 1 0 0 (List.map (eInt true) (Lib.compact a)).length) (List.map (eInt true) (Lib.compact a)) := by
  obtain ⟨hlim, hmx, hmax⟩ := lims
  exact compLoan n rfl rfl a (by omega)
theorem W_impl_sortedInts (n : Nat) (a : List Int) (ha : a.length ≤ mx + 1) : Pure (acall Tryz.prog (n + 2)) 67 [(rd 1 eInt a)] (T.sl true 1 ((srtd a).map (eInt true))) := by
  refine Pure.intro (rs := [ResultVar.tmp 2]) Tryz.func67 rfl rfl rfl (E0 := [(0, (rd 1 eInt a))]) rfl ?_
  obtain ⟨hlim, hmx, hmax⟩ := lims
  have hsl := sortI_length a
  refine sr (fO (OF.assign VEv.nils) (nt (sr (mO (rd 1 eInt a) rfl (cO (OC.callF (us := [(rd 1 eInt a)]) (r := (T.sl true 1 (a.map (eInt true)))) (r' := (T.os 1 0 0 ((a.map (eInt true)).length))) (objs := [(Obj.rows 1 (a.map (eInt true)))]) rfl (vc (tv (rd 1 eInt a) rfl) vn) (lps rfl) (W_slices_Clone_int_int_ (n + 0) a (by first | assumption | omega)) rfl) (aO (T.os 1 0 0 ((a.map (eInt true)).length)) rfl (nt (sr (mO (T.os 1 0 0 ((a.map (eInt true)).length)) rfl (cO (OC.callLoan (ts := [(T.os 1 0 0 ((a.map (eInt true)).length))]) (k := 0) (r := (T.tup [])) (rows := (a.map (eInt true))) (rows' := ((sortI a).map (eInt true))) rfl (vc (tv (T.os 1 0 0 ((a.map (eInt true)).length)) rfl) vn) rfl rfl rfl LRes.none rfl (scMap (fun _ => rfl) _) (scMap (fun _ => rfl) _) (W_slices_Sort_int_int_ (n + 0) a (by first | assumption | omega))) (nt ?_)))))))))))
  refine sr (mO (T.os 1 0 0 ((a.map (eInt true)).length)) rfl (cO (OC.callLoan (ts := [(T.os 1 0 0 ((a.map (eInt true)).length))]) (k := 0) (r := (T.os 1 0 0 (((Lib.compact (sortI a)).map (eInt true)).length))) (rows := ((sortI a).map (eInt true))) (rows' := ((Lib.compact (sortI a)).map (eInt true))) rfl (vc (tv (T.os 1 0 0 ((a.map (eInt true)).length)) rfl) vn) rfl rfl rfl (LRes.os _ _) rfl (scMap (fun _ => rfl) _) (scMap (fun _ => rfl) _) (Loan.len (by simp only [List.length_map, sortI_length]) (W_slices_Compact_int_int_ (n + 0) (sortI a) (by first | assumption | omega)))) (aO (T.os 1 0 0 (((Lib.compact (sortI a)).map (eInt true)).length)) rfl (nt (rt ?_)))))
  refine vfin.eq (r' := (T.sl true 1 ((Lib.compact (sortI a)).map (eInt true)))) ?_ (vfin.r (VRes.tmp (t := (T.os 1 0 0 (((Lib.compact (sortI a)).map (eInt true)).length))) rfl VRes.nil) (Give.os rfl rfl (okInt.cleanMap _)))
  show (T.sl true 1 ((Lib.compact (sortI a)).map (eInt true))) = (T.sl true 1 ((srtd a).map (eInt true)))
  refine congrArg (fun l_ => T.sl true 1 (List.map (eInt true) l_)) ?_
  first | rfl | (exact decN (by omega)) | (symm; rw [decide_eq_false_iff_not]; omega) | (symm; rw [decide_eq_true_eq]; omega) | (simp_all; done)
theorem W_impl_allIn (n : Nat) (l : List Int) (a : Int) (b : Int) (hl : l.length ≤ mx + 1) : Pure (acall Tryz.prog (n + 2)) 65 [(rd 1 eInt l), (tI a), (tI b)] (tB (decide (∀ x ∈ l, a ≤ x ∧ x ≤ b))) := by
  refine Pure.intro (rs := [ResultVar.tmp 6]) Tryz.func65 rfl rfl rfl (E0 := [(0, (rd 1 eInt l)), (1, (tI a)), (2, (tI b))]) rfl ?_
  obtain ⟨hlim, hmx, hmax⟩ := lims
  refine sr (fO (OF.assign (VEv.bool false)) (nt (sq (sr (mO (rd 1 eInt l) rfl (lO (B.lenR (m := l.length) (tv (rd 1 eInt l) rfl) U25 (List.length_map ..)) (fO (OF.move (VEv.int .i64 0)) (nt (VRun.block ?_)))))))))
  refine VRun.loop (A := Nat) (fun s_ => [(1, (tI a)), (2, (tI b)), (9, (rd 1 eInt l)), (10, (tN l.length)), (11, (tN s_))]) (fun s_ => mkO []) 0 (fun s_ => s_ ≤ l.length ∧ ∀ j, j < s_ → ∃ x, l[j]? = some x ∧ (a ≤ x ∧ x ≤ b)) (fun s_ => l.length - s_) (0 : Nat) ?_ (Wk.mk (fun k => k) ?_ ?_ ?_) ?_
  · exact ⟨Nat.zero_le _, fun j hj => by omega⟩
  · exact (b2 (b2 (b2 (b2 (b2 bn)))))
  · exact bn
  · exact nd rfl
  rintro i (hI' : i ≤ l.length ∧ ∀ j, j < i → ∃ x, l[j]? = some x ∧ (a ≤ x ∧ x ≤ b))
  show VRun _ _ _ [(1, (tI a)), (2, (tI b)), (9, (rd 1 eInt l)), (10, (tN l.length)), (11, (tN i))] (mkO []) 0 _
  have hI0 := hI'
  refine sr (fO (xls' (tv (tN i) rfl) (tv (tN l.length) rfl)) (nt (sq ?_)))
  refine cd (i < l.length) rfl (fun fhc0 => ?_) fun fhc0 => ?_
  · refine sk ?_
    refine tn (sq (VRun.block (sr ?_)))
    obtain ⟨x1, hx1⟩ : ∃ x, l[i]? = some x := ⟨_, List.getElem?_eq_getElem (by omega)⟩
    refine fO (OF.indexAddrR (row := (eInt false x1)) (i := i) (tv (rd 1 eInt l) rfl) (tv (tN i) rfl) rfl (map_at _ hx1) U25 sz3 if3) (lO (OL.loadR1 (t := (tI x1)) (tv (T.rp [(tI x1)]) rfl) rfl st3) (aO (tI x1) rfl (nt (sr (mO (tI x1) rfl (mO (tI a) rfl (mO (tI b) rfl (cO (cS (vc (tv (tI x1) rfl) (vc (tv (tI a) rfl) (vc (tv (tI b) rfl) vn))) (lps rfl) (W_impl_InRange (n + 0) x1 a b ) rfl rfl) (fO (xnot (tv (tB (decide (a ≤ x1 ∧ x1 ≤ b))) rfl)) (nt ?_))))))))))
    refine cn (a ≤ x1 ∧ x1 ≤ b) rfl (fun fhc1 => ?_) fun fhc1 => ?_
    · refine sr ?_
      refine fO (OF.assign (VEv.bool false)) (nt (rt (vinB.r (tr (tr (vinB.r (tr (vb (b' := false) rfl ?_))))))))
      symm; rw [decide_eq_false_iff_not]; intro h; have := h x1 (List.mem_of_getElem? hx1); omega
    refine sk (vinB.n (tn (VRun.region (fO (xinc (tv (tN i) rfl) (VEv.int .i64 1) (by omega)) (mO (tN (i + 1)) rfl (VRunO.nil (tn ?_)))))))
    refine ⟨(i + 1 : Nat), ?_, ?_, Wk.mk (fun k => k) ?_ ?_ ?_⟩
    · exact allNext hI0 fhc0 ⟨x1, hx1, by omega⟩
    · first | omega | (simp only []; omega) | (show _ < _; omega) | (simp; omega)
    · exact (b2 (b2 (b2 (b2 (b2 bn)))))
    · exact bn
    · exact nd rfl
  refine VRun.exit (vthn.e (vthn.e (vinB.e (tn (sr (fO (OF.assign (VEv.bool true)) (nt (rt (vb (b' := true) rfl ?_)))))))))
  symm; rw [decide_eq_true_eq]; intro x hx; obtain ⟨j, hj, e⟩ := List.getElem_of_mem hx; obtain ⟨y, h1, h2⟩ := allEnd hI' fhc0 j hj; rw [List.getElem?_eq_getElem hj, e] at h1; cases h1; exact h2
end Go.Proofs.YtcccmceoplcciaaGreat.AE
