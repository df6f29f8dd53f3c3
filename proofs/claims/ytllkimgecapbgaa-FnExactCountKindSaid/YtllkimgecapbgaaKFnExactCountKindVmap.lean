/- Walks of the program's functions over trees. Conditions: as each theorem states. -/
import Derived.Test.YtllkimgecapbgaaKFnExactCountKindFeq
namespace Go.Proofs.Ytllkimgecapbgaa.AE
open Go Go.RowKit
set_option linter.unusedVariables false
set_option linter.unusedSimpArgs false
set_option maxRecDepth 20000
set_option maxHeartbeats 2000000

noncomputable section
def l9put : List Int → Int → List Int
  | [], n => [n]
  | x :: r, n => if x < n then x :: l9put r n else if x = n then x :: r else n :: x :: r
theorem l9put_mem {l : List Int} {n y : Int} : y ∈ l9put l n ↔ y ∈ l ∨ y = n := by
  induction l with
  | nil => simp [l9put]
  | cons x r ih =>
    simp only [l9put]
    split
    · simp only [List.mem_cons, ih, or_assoc]
    · split
      · rename_i h1 h2
        subst h2
        simp only [List.mem_cons]
        exact ⟨.inl, fun h => h.elim id .inl⟩
      · simp only [List.mem_cons]
        exact or_comm
theorem l9put_len {l : List Int} {n : Int} : (l9put l n).length ≤ l.length + 1 := by
  induction l with
  | nil => simp [l9put]
  | cons x r ih =>
    simp only [l9put]
    split
    · simp only [List.length_cons]; omega
    · split <;> simp
theorem l9put_srt {l : List Int} {n : Int} (h : l.Pairwise (· < ·)) : (l9put l n).Pairwise (· < ·) := by
  induction l with
  | nil => simp [l9put]
  | cons x r ih =>
    have h1 := List.pairwise_cons.1 h
    simp only [l9put]
    split
    · rename_i hx
      refine List.pairwise_cons.2 ⟨fun y hy => ?_, ih h1.2⟩
      rcases l9put_mem.1 hy with h2 | h2
      · exact h1.1 y h2
      · exact h2 ▸ hx
    · split
      · exact h
      · refine List.pairwise_cons.2 ⟨fun y hy => ?_, h⟩
        rcases List.mem_cons.1 hy with h2 | h2
        · omega
        · have := h1.1 y h2
          omega
theorem l9_at {n : Int} : ∀ {l : List Int} {k : Nat}, (∀ j y, j < k → l[j]? = some y → y < n) → l[k]? = some n → l = l9put l n
  | [], _, _, h => by simp at h
  | x :: r, 0, _, h => by
    obtain rfl : x = n := by simpa using h
    simp [l9put]
  | x :: r, k + 1, h1, h => by
    have h2 := h1 0 x (by omega) (by simp)
    simp only [l9put, if_pos h2]
    rw [← l9_at (k := k) (fun j y hj hy => h1 (j + 1) y (by omega) (by simpa using hy)) (by simpa using h)]
theorem l9_ins {n : Int} : ∀ {l : List Int} {k : Nat}, (∀ j y, j < k → l[j]? = some y → y < n) → k ≤ l.length → (∀ y, l[k]? = some y → n < y) → (l.take k ++ [n]) ++ l.drop k = l9put l n
  | [], k, _, h, _ => by
    obtain rfl : k = 0 := by simpa using h
    rfl
  | x :: r, 0, _, _, h => by
    have h2 := h x (by simp)
    simp only [l9put]
    rw [if_neg (by omega), if_neg (by omega)]
    rfl
  | x :: r, k + 1, h1, h, h3 => by
    have h2 := h1 0 x (by omega) (by simp)
    simp only [l9put, if_pos h2]
    rw [← l9_ins (k := k) (fun j y hj hy => h1 (j + 1) y (by omega) (by simpa using hy)) (by simpa using h) (fun y hy => h3 y (by simpa using hy))]
    rfl
theorem same_atM {α : Type} {l : List α} {i : Nat} {x y : α} (hx : l[i]? = some x) (hy : l[i]? = some y) : y = x := by
  rw [hx] at hy
  exact (Option.some.inj hy).symm
def tks (l : List D.Report) (s k : Int) : List Int := (l.filter (fun x => decide (x.Slot = s ∧ x.Kind = k))).map (fun x => x.Tester)
theorem tks_next {a : List D.Report} {i : Nat} {x : D.Report} (s k : Int) (h : a[i]? = some x) : tks (a.take (i + 1)) s k = tks (a.take i) s k ++ (if x.Slot = s ∧ x.Kind = k then [x.Tester] else []) := by
  unfold tks
  rw [List.take_add_one, h, List.filter_append, List.map_append]
  by_cases hp : x.Slot = s ∧ x.Kind = k
  · simp [hp]
  · rw [if_neg hp]
    simp [hp]
def cnt (a : List D.Report) (s k : Int) : List Int := (tks a s k).foldl addNew []
def srt (a : List D.Report) (s k : Int) : List Int := (tks a s k).foldl l9put []
theorem fold_len : ∀ (t : List Int) {b c : List Int}, b.Pairwise (· < ·) → c.Nodup → (∀ x, x ∈ b ↔ x ∈ c) → (t.foldl l9put b).length = (t.foldl addNew c).length
  | [], b, c, h1, h2, h3 => same_len (h1.imp (fun h => by omega)) h2 h3
  | x :: t, b, c, h1, h2, h3 => fold_len t (l9put_srt h1) (addNew_nodup h2) (fun y => by rw [l9put_mem, addNew_mem, h3])
theorem srt_len (a : List D.Report) (s k : Int) : (srt a s k).length = (cnt a s k).length := fold_len _ List.Pairwise.nil List.nodup_nil (fun _ => Iff.rfl)
theorem cnt_next {a : List D.Report} {i : Nat} {x : D.Report} {s k : Int} {m : List (Int × Int)} (h : a[i]? = some x) (hm : m.map (·.1) = cnt (a.take i) s k) : (if x.Slot = s ∧ x.Kind = k then mput m x.Tester 1 else m).map (·.1) = cnt (a.take (i + 1)) s k := by
  unfold cnt at *
  rw [tks_next s k h, List.foldl_append, ← hm]
  split
  · rw [mput_keys]; rfl
  · rfl
theorem srt_next {a : List D.Report} {i : Nat} {x : D.Report} {s k : Int} {m : List Int} (h : a[i]? = some x) (hm : m = srt (a.take i) s k) : (if x.Slot = s ∧ x.Kind = k then l9put m x.Tester else m) = srt (a.take (i + 1)) s k := by
  unfold srt at *
  rw [tks_next s k h, List.foldl_append, ← hm]
  split <;> rfl
theorem if_l9_len {c : Prop} [Decidable c] {m : List Int} {n : Int} {i : Nat} (h : m.length ≤ i) : (if c then l9put m n else m).length ≤ i + 1 := by
  split
  · have := l9put_len (l := m) (n := n)
    omega
  · omega
end
theorem W_spec_l9Put (n : Nat) (l : List Int) (v : Int) (hl : l.length ≤ mx) : Pure (acall Try.prog (n + 1)) 41 [(rd 1 eInt l), (tI v)] (T.sl true 1 ((l9put l v).map (eInt true))) := by
  refine Pure.intro (rs := [ResultVar.tmp 4]) Try.func41 rfl rfl rfl (E0 := [(0, (rd 1 eInt l)), (1, (tI v))]) rfl ?_
  have hlim : lim = 1099511627776 := rfl
  have hmx : mx = 1048576 := rfl
  have hmax : maxLen = 9223372036854775807 := rfl
  refine sr ?_
  refine fO (OF.assign VEv.nils) ?_
  refine nt ?_
  refine sr ?_
  refine fO (OF.assign (VEv.int .i64 0)) ?_
  refine nt ?_
  refine sq ?_
  refine VRun.block ?_
  refine VRun.loop (A := Nat) (fun s_ => [(0, (rd 1 eInt l)), (1, (tI v)), (4, T.nils), (5, (tN s_))]) (fun s_ => mkO []) 0 (fun s_ => s_ ≤ l.length ∧ ∀ j y, j < s_ → l[j]? = some y → y < v) (fun s_ => l.length - s_) (0 : Nat) ?_ (Wk.mk (fun k => k) ?_ ?_ ?_) ?_
  · exact ⟨Nat.zero_le _, fun j y hj => by omega⟩
  · exact (ball_cons ⟨rfl, rfl⟩ (ball_cons ⟨rfl, rfl⟩ (ball_cons ⟨rfl, rfl⟩ (ball_cons ⟨rfl, rfl⟩ (ball_nil)))))
  · exact (ball_nil)
  · show List.Nodup ([] : List Nat)
    decide
  rintro k hI
  have hI' : k ≤ l.length ∧ ∀ j y, j < k → l[j]? = some y → y < v := hI
  clear hI
  show VRun _ _ _ [(0, (rd 1 eInt l)), (1, (tI v)), (4, T.nils), (5, (tN k))] (mkO []) 0 _
  have hI1 := hI'.1
  refine sq ?_
  refine sr ?_
  refine mO (tN k) rfl ?_
  refine mO (rd 1 eInt l) rfl ?_
  refine lO (B.lenR (m := l.length) (tv (rd 1 eInt l) rfl) Try.underlying64 (List.length_map ..)) ?_
  refine fO (B.lss (c := (decide (k < l.length))) (tv (tN k) rfl) (tv (tN l.length) rfl) (by first | (exact decN (by omega)))) ?_
  refine mO (tB (decide (k < l.length))) rfl ?_
  refine bool_way (decide (k < l.length)) (fun hg10_1 => ?_) (fun hg10_1 => ?_)
  · have fhg10_1 : k < l.length := of_decide_eq_true hg10_1
    refine gF hg10_1 rfl rfl (OF.move (tv (rd 1 eInt l) rfl)) ?_
    refine gF hg10_1 rfl rfl (OF.move (tv (tN k) rfl)) ?_
    obtain ⟨x1, hx1⟩ : ∃ x, l[k]? = some x := ⟨_, List.getElem?_eq_getElem (by first | omega)⟩
    refine gF hg10_1 rfl rfl (OF.indexAddrR (row := (eInt false x1)) (i := k) (tv (rd 1 eInt l) rfl) (tv (tN k) rfl) rfl (map_at _ hx1) Try.underlying64 sz3 if3) ?_
    refine gL hg10_1 rfl rfl (OL.loadR1 (t := (tI x1)) (tv (T.rp [(tI x1)]) rfl) rfl st3) ?_
    refine gF hg10_1 rfl rfl (OF.move (tv (tI v) rfl)) ?_
    refine gF hg10_1 rfl rfl (B.lss (c := (decide (x1 < v))) (tv (tI x1) rfl) (tv (tI v) rfl) rfl) ?_
    refine fO (OF.pickT (VEv.tmpB (b := (decide (k < l.length))) rfl hg10_1) (tv (tB (decide (x1 < v))) rfl)) ?_
    refine nt ?_
    refine VRun.cond (tv (tB (decide (x1 < v))) rfl) (fun hc0 => ?_) (fun hc0 => ?_)
    · have fhc0 : x1 < v := of_decide_eq_true hc0
      refine sk ?_
      refine tn ?_
      refine VRun.block ?_
      refine VRun.region ?_
      refine mO (tN k) rfl ?_
      refine fO (B.add (n := (((k + 1) : Nat) : Int)) (tv (tN k) rfl) (VEv.int .i64 1) (by first | rfl | (rw [wrap64 (by omega)]; omega) | (rw [wrap64 (by omega)]; done))) ?_
      refine aO (tN (k + 1)) rfl ?_
      refine VRunO.nil ?_
      refine vinB.n ?_
      refine tn ?_
      refine ⟨(k + 1 : Nat), ?_, ?_, Wk.mk (fun k => k) ?_ ?_ ?_⟩
      · refine ⟨by omega, fun j y hj hy => ?_⟩
        rcases Nat.lt_or_ge j k with h1 | h1
        · exact hI'.2 j y h1 hy
        · obtain rfl : j = k := (by omega); obtain rfl := same_atM hx1 hy; assumption
      · first | omega | (simp only []; omega) | (show _ < _; omega) | (simp; omega)
      · exact (ball_cons ⟨rfl, rfl⟩ (ball_cons ⟨rfl, rfl⟩ (ball_cons ⟨rfl, rfl⟩ (ball_cons ⟨rfl, rfl⟩ (ball_nil)))))
      · exact (ball_nil)
      · show List.Nodup ([] : List Nat)
        decide
    have fhc0 : ¬ (x1 < v) := of_decide_eq_false hc0
    refine VRun.exit ?_
    refine vthn.e ?_
    refine vthn.e ?_
    refine vinB.e ?_
    refine tn ?_
    refine sq ?_
    refine sr ?_
    refine mO (tN k) rfl ?_
    refine mO (rd 1 eInt l) rfl ?_
    refine lO (B.lenR (m := l.length) (tv (rd 1 eInt l) rfl) Try.underlying64 (List.length_map ..)) ?_
    refine fO (B.lss (c := (decide (k < l.length))) (tv (tN k) rfl) (tv (tN l.length) rfl) (by first | (exact decN (by omega)))) ?_
    refine mO (tB (decide (k < l.length))) rfl ?_
    refine gF hg10_1 rfl rfl (OF.move (tv (rd 1 eInt l) rfl)) ?_
    refine gF hg10_1 rfl rfl (OF.move (tv (tN k) rfl)) ?_
    refine gF hg10_1 rfl rfl (OF.indexAddrR (row := (eInt false x1)) (i := k) (tv (rd 1 eInt l) rfl) (tv (tN k) rfl) rfl (map_at _ hx1) Try.underlying64 sz3 if3) ?_
    refine gL hg10_1 rfl rfl (OL.loadR1 (t := (tI x1)) (tv (T.rp [(tI x1)]) rfl) rfl st3) ?_
    refine gF hg10_1 rfl rfl (OF.move (tv (tI v) rfl)) ?_
    refine gF hg10_1 rfl rfl (B.eql (c := (decide (x1 = v))) (tv (tI x1) rfl) (tv (tI v) rfl) rfl) ?_
    refine fO (OF.pickT (VEv.tmpB (b := (decide (k < l.length))) rfl hg10_1) (tv (tB (decide (x1 = v))) rfl)) ?_
    refine nt ?_
    refine VRun.cond (tv (tB (decide (x1 = v))) rfl) (fun hc1 => ?_) (fun hc1 => ?_)
    · have fhc1 : x1 = v := of_decide_eq_true hc1
      refine sr ?_
      refine kO (OM.slice0 Try.underlying64 zo3 (by kernel_rfl) rfl (by rw [sz3]; decide) sz3) ?_
      refine mO (rd 1 eInt l) rfl ?_
      refine cO (B.append (rows := []) (rows2 := (l.map (eInt false))) (rows3 := (l.map (eInt true))) (VDst.own (tv (T.os 1 0 0 0) rfl) rfl rfl) (VSrc.read (tv (rd 1 eInt l) rfl) Try.underlying64 (okInt.okMap _ _)) nofun Try.underlying64 sz3 (by decide) zo3 rfl (of_decide_eq_true (by kernel_rfl)) (by first | omega | (simp only [List.length_map]; omega) | (simp only [List.length_map, List.length_append, List.length_cons, List.length_nil, List.length_replicate, List.length_set, List.length_drop, List.length_take, lim] at *; omega)) (List.nil_append _)) ?_
      refine aO (T.os 1 1 0 ((l.map (eInt true)).length)) rfl ?_
      refine nt ?_
      refine rt ?_
      refine tr ?_
      refine vfin.eq (r' := (T.sl true 1 (l.map (eInt true)))) ?_ (vfin.r (VRes.tmp (t := (T.os 1 1 0 ((l.map (eInt true)).length))) rfl VRes.nil) (Give.os rfl rfl (okInt.cleanMap _)))
      show (T.sl true 1 (l.map (eInt true))) = (T.sl true 1 ((l9put l v).map (eInt true)))
      refine congrArg (fun l_ => T.sl true 1 (List.map (eInt true) l_)) ?_
      first | (refine l9_at hI'.2 ?_; simp_all; done) | (refine l9_ins hI'.2 hI1 ?_; intro y hy; obtain rfl := same_atM hx1 hy; omega) | (refine l9_ins hI'.2 hI1 ?_; intro y hy; have := (List.getElem?_eq_some_iff.1 hy).1; omega)
    have fhc1 : ¬ (x1 = v) := of_decide_eq_false hc1
    refine sk ?_
    refine tn ?_
    refine sq ?_
    refine VRun.draw (B := [[], [], [], [2, 1], [1, 2, 3, 0], [], [5], [5, 6, 0, 3, 2, 1, 4], [], [], [9, 8], [8, 9, 10, 4, 1, 2, 3, 0, 6, 5, 7], [7, 5, 6, 0, 3, 2, 1, 4, 10, 9, 8, 11]]) (by kernel_rfl) (by kernel_rfl) ?_
    refine VRunD.make rfl VWant.always rfl (OM.slice0 Try.underlying64 zo3 (by kernel_rfl) rfl (by rw [sz3]; decide) sz3) ?_
    refine mD (rd 1 eInt l) rfl rfl ?_
    refine mD (tN k) rfl rfl ?_
    refine lD (show OL _ _ _ _ _ (T.sl false 1 ((l.take k).map (eInt false))) by rw [List.map_take]; exact (OL.sliceRHi (j := k) (tv (rd 1 eInt l) rfl) (tv (tN k) rfl) rfl (by first | omega | (simp only [List.length_map]; omega) | (simp only [List.length_map, List.length_append, List.length_cons, List.length_nil, List.length_replicate, List.length_set, List.length_drop, List.length_take, lim] at *; omega)) Try.underlying64 sz3 if3)) rfl rfl ?_
    refine VRunD.quiet (bi := [1, 2, 3, 0]) rfl VWant.always rfl rfl rfl (ball_cons (Nat.le_of_ble_eq_true rfl) (ball_nil)) (B.append (rows := []) (rows2 := ((l.take k).map (eInt false))) (rows3 := ((l.take k).map (eInt true))) (VDst.own (tv (T.os 1 0 0 0) rfl) rfl rfl) (VSrc.read (tv (rd 1 eInt (l.take k)) rfl) Try.underlying64 (okInt.okMap _ _)) nofun Try.underlying64 sz3 (by decide) zo3 rfl (of_decide_eq_true (by kernel_rfl)) (by first | omega | (simp only [List.length_map]; omega) | (simp only [List.length_map, List.length_append, List.length_cons, List.length_nil, List.length_replicate, List.length_set, List.length_drop, List.length_take, lim] at *; omega)) (List.nil_append _)) ?_
    refine mD (tI v) rfl rfl ?_
    refine VRunD.make rfl VWant.always rfl (OM.buildSlice (l := [(tI v)]) (VEvp.cons (tv (tI v) rfl) VEvp.nil) rfl (by decide) (ball_cons (nofun) (ball_nil)) (ball_cons ((ball_cons (rfl) (ball_nil))) (ball_nil)) (ball_cons (rfl) (ball_nil)) Try.underlying64 zo3 (by kernel_rfl) rfl (by rw [sz3]; decide) sz3 (Nat.le_of_ble_eq_true rfl)) ?_
    refine VRunD.quiet (bi := [5, 6, 0, 3, 2, 1, 4]) rfl VWant.always rfl rfl rfl (ball_cons (Nat.le_of_ble_eq_true rfl) (ball_cons (Nat.le_of_ble_eq_true rfl) (ball_nil))) (B.append (rows := ((l.take k).map (eInt true))) (rows2 := [[(tI v)]]) (rows3 := (((l.take k) ++ [v]).map (eInt true))) (VDst.own (tv (T.os 1 1 0 (((l.take k).map (eInt true)).length)) rfl) rfl rfl) (VSrc.own (tv (T.os 1 2 0 1) rfl) rfl rfl Try.underlying64 (ball_cons (ball_cons rfl (ball_nil)) (ball_nil))) (by decide) Try.underlying64 sz3 (by decide) zo3 rfl (of_decide_eq_true (by kernel_rfl)) (by first | omega | (simp only [List.length_map]; omega) | (simp only [List.length_map, List.length_append, List.length_cons, List.length_nil, List.length_replicate, List.length_set, List.length_drop, List.length_take, lim] at *; omega)) ((List.map_append (f := eInt true) (l₁ := (l.take k)) (l₂ := [v])).symm)) ?_
    refine mD (rd 1 eInt l) rfl rfl ?_
    refine mD (tN k) rfl rfl ?_
    refine lD (show OL _ _ _ _ _ (T.sl false 1 ((l.drop k).map (eInt false))) by rw [List.map_drop]; exact (OL.sliceRLo (i := k) (tv (rd 1 eInt l) rfl) (tv (tN k) rfl) rfl (by first | omega | (simp only [List.length_map]; omega) | (simp only [List.length_map, List.length_append, List.length_cons, List.length_nil, List.length_replicate, List.length_set, List.length_drop, List.length_take, lim] at *; omega)) Try.underlying64 sz3 if3)) rfl rfl ?_
    refine VRunD.quiet (bi := [8, 9, 10, 4, 1, 2, 3, 0, 6, 5, 7]) rfl VWant.always rfl rfl rfl (ball_cons (Nat.le_of_ble_eq_true rfl) (ball_nil)) (B.append (rows := (((l.take k) ++ [v]).map (eInt true))) (rows2 := ((l.drop k).map (eInt false))) (rows3 := ((((l.take k) ++ [v]) ++ (l.drop k)).map (eInt true))) (VDst.own (tv (T.os 1 3 0 ((((l.take k) ++ [v]).map (eInt true)).length)) rfl) rfl rfl) (VSrc.read (tv (rd 1 eInt (l.drop k)) rfl) Try.underlying64 (okInt.okMap _ _)) nofun Try.underlying64 sz3 (by decide) zo3 rfl (of_decide_eq_true (by kernel_rfl)) (by first | omega | (simp only [List.length_map]; omega) | (simp only [List.length_map, List.length_append, List.length_cons, List.length_nil, List.length_replicate, List.length_set, List.length_drop, List.length_take, lim] at *; omega)) ((List.map_append (f := eInt true) (l₁ := ((l.take k) ++ [v])) (l₂ := (l.drop k))).symm)) ?_
    refine fD (OF.assign (tv (T.os 1 4 0 (((((l.take k) ++ [v]) ++ (l.drop k)).map (eInt true)).length)) rfl)) rfl rfl ?_
    refine VRunD.nil ?_
    refine tn ?_
    refine rt ?_
    refine vfin.eq (r' := (T.sl true 1 ((((l.take k) ++ [v]) ++ (l.drop k)).map (eInt true)))) ?_ (vfin.r (VRes.tmp (t := (T.os 1 4 0 (((((l.take k) ++ [v]) ++ (l.drop k)).map (eInt true)).length))) rfl VRes.nil) (Give.os rfl rfl (okInt.cleanMap _)))
    show (T.sl true 1 ((((l.take k) ++ [v]) ++ (l.drop k)).map (eInt true))) = (T.sl true 1 ((l9put l v).map (eInt true)))
    refine congrArg (fun l_ => T.sl true 1 (List.map (eInt true) l_)) ?_
    first | (refine l9_at hI'.2 ?_; simp_all; done) | (refine l9_ins hI'.2 hI1 ?_; intro y hy; obtain rfl := same_atM hx1 hy; omega) | (refine l9_ins hI'.2 hI1 ?_; intro y hy; have := (List.getElem?_eq_some_iff.1 hy).1; omega)
  have fhg10_1 : ¬ (k < l.length) := of_decide_eq_false hg10_1
  refine oO rfl rfl hg10_1 ?_
  refine oO rfl rfl hg10_1 ?_
  refine oO rfl rfl hg10_1 ?_
  refine oO rfl rfl hg10_1 ?_
  refine oO rfl rfl hg10_1 ?_
  refine oO rfl rfl hg10_1 ?_
  refine fO (OF.pickF (VEv.tmpB (b := (decide (k < l.length))) rfl hg10_1) (VEv.bool false)) ?_
  refine nt ?_
  refine VRun.cond (tv (tB false) rfl) (fun hk2 => ?_) (fun hk2 => ?_)
  · exact absurd (rfl.symm.trans hk2) (by decide)
  · skip
    refine VRun.exit ?_
    refine vthn.e ?_
    refine vthn.e ?_
    refine vinB.e ?_
    refine tn ?_
    refine sq ?_
    refine sr ?_
    refine mO (tN k) rfl ?_
    refine mO (rd 1 eInt l) rfl ?_
    refine lO (B.lenR (m := l.length) (tv (rd 1 eInt l) rfl) Try.underlying64 (List.length_map ..)) ?_
    refine fO (B.lss (c := (decide (k < l.length))) (tv (tN k) rfl) (tv (tN l.length) rfl) (by first | (exact decN (by omega)))) ?_
    refine mO (tB (decide (k < l.length))) rfl ?_
    refine oO rfl rfl hg10_1 ?_
    refine oO rfl rfl hg10_1 ?_
    refine oO rfl rfl hg10_1 ?_
    refine oO rfl rfl hg10_1 ?_
    refine oO rfl rfl hg10_1 ?_
    refine oO rfl rfl hg10_1 ?_
    refine fO (OF.pickF (VEv.tmpB (b := (decide (k < l.length))) rfl hg10_1) (VEv.bool false)) ?_
    refine nt ?_
    refine VRun.cond (tv (tB false) rfl) (fun hk3 => ?_) (fun hk3 => ?_)
    · exact absurd (rfl.symm.trans hk3) (by decide)
    · skip
      refine sk ?_
      refine tn ?_
      refine sq ?_
      refine VRun.draw (B := [[], [], [], [2, 1], [1, 2, 3, 0], [], [5], [5, 6, 0, 3, 2, 1, 4], [], [], [9, 8], [8, 9, 10, 4, 1, 2, 3, 0, 6, 5, 7], [7, 5, 6, 0, 3, 2, 1, 4, 10, 9, 8, 11]]) (by kernel_rfl) (by kernel_rfl) ?_
      refine VRunD.make rfl VWant.always rfl (OM.slice0 Try.underlying64 zo3 (by kernel_rfl) rfl (by rw [sz3]; decide) sz3) ?_
      refine mD (rd 1 eInt l) rfl rfl ?_
      refine mD (tN k) rfl rfl ?_
      refine lD (show OL _ _ _ _ _ (T.sl false 1 ((l.take k).map (eInt false))) by rw [List.map_take]; exact (OL.sliceRHi (j := k) (tv (rd 1 eInt l) rfl) (tv (tN k) rfl) rfl (by first | omega | (simp only [List.length_map]; omega) | (simp only [List.length_map, List.length_append, List.length_cons, List.length_nil, List.length_replicate, List.length_set, List.length_drop, List.length_take, lim] at *; omega)) Try.underlying64 sz3 if3)) rfl rfl ?_
      refine VRunD.quiet (bi := [1, 2, 3, 0]) rfl VWant.always rfl rfl rfl (ball_cons (Nat.le_of_ble_eq_true rfl) (ball_nil)) (B.append (rows := []) (rows2 := ((l.take k).map (eInt false))) (rows3 := ((l.take k).map (eInt true))) (VDst.own (tv (T.os 1 0 0 0) rfl) rfl rfl) (VSrc.read (tv (rd 1 eInt (l.take k)) rfl) Try.underlying64 (okInt.okMap _ _)) nofun Try.underlying64 sz3 (by decide) zo3 rfl (of_decide_eq_true (by kernel_rfl)) (by first | omega | (simp only [List.length_map]; omega) | (simp only [List.length_map, List.length_append, List.length_cons, List.length_nil, List.length_replicate, List.length_set, List.length_drop, List.length_take, lim] at *; omega)) (List.nil_append _)) ?_
      refine mD (tI v) rfl rfl ?_
      refine VRunD.make rfl VWant.always rfl (OM.buildSlice (l := [(tI v)]) (VEvp.cons (tv (tI v) rfl) VEvp.nil) rfl (by decide) (ball_cons (nofun) (ball_nil)) (ball_cons ((ball_cons (rfl) (ball_nil))) (ball_nil)) (ball_cons (rfl) (ball_nil)) Try.underlying64 zo3 (by kernel_rfl) rfl (by rw [sz3]; decide) sz3 (Nat.le_of_ble_eq_true rfl)) ?_
      refine VRunD.quiet (bi := [5, 6, 0, 3, 2, 1, 4]) rfl VWant.always rfl rfl rfl (ball_cons (Nat.le_of_ble_eq_true rfl) (ball_cons (Nat.le_of_ble_eq_true rfl) (ball_nil))) (B.append (rows := ((l.take k).map (eInt true))) (rows2 := [[(tI v)]]) (rows3 := (((l.take k) ++ [v]).map (eInt true))) (VDst.own (tv (T.os 1 1 0 (((l.take k).map (eInt true)).length)) rfl) rfl rfl) (VSrc.own (tv (T.os 1 2 0 1) rfl) rfl rfl Try.underlying64 (ball_cons (ball_cons rfl (ball_nil)) (ball_nil))) (by decide) Try.underlying64 sz3 (by decide) zo3 rfl (of_decide_eq_true (by kernel_rfl)) (by first | omega | (simp only [List.length_map]; omega) | (simp only [List.length_map, List.length_append, List.length_cons, List.length_nil, List.length_replicate, List.length_set, List.length_drop, List.length_take, lim] at *; omega)) ((List.map_append (f := eInt true) (l₁ := (l.take k)) (l₂ := [v])).symm)) ?_
      refine mD (rd 1 eInt l) rfl rfl ?_
      refine mD (tN k) rfl rfl ?_
      refine lD (show OL _ _ _ _ _ (T.sl false 1 ((l.drop k).map (eInt false))) by rw [List.map_drop]; exact (OL.sliceRLo (i := k) (tv (rd 1 eInt l) rfl) (tv (tN k) rfl) rfl (by first | omega | (simp only [List.length_map]; omega) | (simp only [List.length_map, List.length_append, List.length_cons, List.length_nil, List.length_replicate, List.length_set, List.length_drop, List.length_take, lim] at *; omega)) Try.underlying64 sz3 if3)) rfl rfl ?_
      refine VRunD.quiet (bi := [8, 9, 10, 4, 1, 2, 3, 0, 6, 5, 7]) rfl VWant.always rfl rfl rfl (ball_cons (Nat.le_of_ble_eq_true rfl) (ball_nil)) (B.append (rows := (((l.take k) ++ [v]).map (eInt true))) (rows2 := ((l.drop k).map (eInt false))) (rows3 := ((((l.take k) ++ [v]) ++ (l.drop k)).map (eInt true))) (VDst.own (tv (T.os 1 3 0 ((((l.take k) ++ [v]).map (eInt true)).length)) rfl) rfl rfl) (VSrc.read (tv (rd 1 eInt (l.drop k)) rfl) Try.underlying64 (okInt.okMap _ _)) nofun Try.underlying64 sz3 (by decide) zo3 rfl (of_decide_eq_true (by kernel_rfl)) (by first | omega | (simp only [List.length_map]; omega) | (simp only [List.length_map, List.length_append, List.length_cons, List.length_nil, List.length_replicate, List.length_set, List.length_drop, List.length_take, lim] at *; omega)) ((List.map_append (f := eInt true) (l₁ := ((l.take k) ++ [v])) (l₂ := (l.drop k))).symm)) ?_
      refine fD (OF.assign (tv (T.os 1 4 0 (((((l.take k) ++ [v]) ++ (l.drop k)).map (eInt true)).length)) rfl)) rfl rfl ?_
      refine VRunD.nil ?_
      refine tn ?_
      refine rt ?_
      refine vfin.eq (r' := (T.sl true 1 ((((l.take k) ++ [v]) ++ (l.drop k)).map (eInt true)))) ?_ (vfin.r (VRes.tmp (t := (T.os 1 4 0 (((((l.take k) ++ [v]) ++ (l.drop k)).map (eInt true)).length))) rfl VRes.nil) (Give.os rfl rfl (okInt.cleanMap _)))
      show (T.sl true 1 ((((l.take k) ++ [v]) ++ (l.drop k)).map (eInt true))) = (T.sl true 1 ((l9put l v).map (eInt true)))
      refine congrArg (fun l_ => T.sl true 1 (List.map (eInt true) l_)) ?_
      first | (refine l9_at hI'.2 ?_; simp_all; done) | (refine l9_ins hI'.2 hI1 ?_; intro y hy; obtain rfl := same_atM hx1 hy; omega) | (refine l9_ins hI'.2 hI1 ?_; intro y hy; have := (List.getElem?_eq_some_iff.1 hy).1; omega)
theorem W_spec_CountKind (n : Nat) (a : List D.Report) (s : Int) (k : Int) (hz : zL zReport a ≤ mx) : Pure (acall Try.prog (n + 2)) 26 [(rd 4 eReport a), (tI s), (tI k)] (tN ((cnt a s k).length)) := by
  refine Pure.intro (rs := [ResultVar.tmp 6]) Try.func26 rfl rfl rfl (E0 := [(0, (rd 4 eReport a)), (1, (tI s)), (2, (tI k))]) rfl ?_
  have hlim : lim = 1099511627776 := rfl
  have hmx : mx = 1048576 := rfl
  have hmax : maxLen = 9223372036854775807 := rfl
  have ha := zL_len (z := zReport) a
  refine sr ?_
  refine fO (OF.assign (VEv.int .i64 0)) ?_
  refine nt ?_
  refine sr ?_
  refine kO (OM.slice0 Try.underlying64 zo3 (by kernel_rfl) rfl (by rw [sz3]; decide) sz3) ?_
  refine aO (T.os 1 0 0 0) rfl ?_
  refine nt ?_
  refine sq ?_
  refine sr ?_
  refine fO (OF.assign (VEv.int .i64 0)) ?_
  refine nt ?_
  refine VRun.block ?_
  have he1 : [] = ([].map (eInt true)) := by first | rfl | (refine (if_pos ?_).symm; constructor <;> assumption) | (refine (if_neg ?_).symm; rintro ⟨_, _⟩; contradiction) | (simp; done) | omega
  refine VRun.loop (A := Nat × (List Int)) (fun s_ => [(0, (rd 4 eReport a)), (1, (tI s)), (2, (tI k)), (6, (tN 0)), (7, (T.os 1 0 0 ((s_.2.map (eInt true)).length))), (8, (tN s_.1))]) (fun s_ => mkO [(0, (Obj.rows 1 (s_.2.map (eInt true))))]) 1 (fun s_ => s_.1 ≤ a.length ∧ s_.2.length ≤ s_.1 ∧ s_.2 = srt (a.take s_.1) s k) (fun s_ => a.length - s_.1) ((0, []) : Nat × (List Int)) ?_ (Wk.mk (fun k => k) ?_ ?_ ?_) ?_
  · exact ⟨Nat.zero_le _, Nat.le_refl _, rfl⟩
  · exact (ball_cons ⟨rfl, rfl⟩ (ball_cons ⟨rfl, rfl⟩ (ball_cons ⟨rfl, rfl⟩ (ball_cons ⟨rfl, rfl⟩ (ball_cons ⟨(congrArg (fun n_ => T.os 1 0 0 n_) (show 0 = ([].map (eInt true)).length from (by first | rfl | (simp only [List.length_map]; omega) | (simp only [List.length_map, List.length_set, List.length_append, List.length_take, List.length_replicate, List.length_cons, List.length_nil]; omega)))), rfl⟩ (ball_cons ⟨rfl, rfl⟩ (ball_nil)))))))
  · exact (ball_cons ⟨(congrArg (fun l_ => some (Obj.rows 1 l_)) he1), (Nat.le_of_ble_eq_true rfl), rfl⟩ (ball_nil))
  · show List.Nodup ([0] : List Nat)
    decide
  rintro ⟨i, out⟩ hI
  have hI' : i ≤ a.length ∧ out.length ≤ i ∧ out = srt (a.take i) s k := hI
  clear hI
  show VRun _ _ _ [(0, (rd 4 eReport a)), (1, (tI s)), (2, (tI k)), (6, (tN 0)), (7, (T.os 1 0 0 ((out.map (eInt true)).length))), (8, (tN i))] (mkO [(0, (Obj.rows 1 (out.map (eInt true))))]) 1 _
  have hI1 := hI'.1
  have hI2 := hI'.2.1
  refine sq ?_
  refine sr ?_
  refine mO (tN i) rfl ?_
  refine mO (rd 4 eReport a) rfl ?_
  refine lO (B.lenR (m := a.length) (tv (rd 4 eReport a) rfl) Try.underlying47 (List.length_map ..)) ?_
  refine fO (B.lss (c := (decide (i < a.length))) (tv (tN i) rfl) (tv (tN a.length) rfl) (by first | (exact decN (by omega)))) ?_
  refine nt ?_
  refine VRun.cond (tv (tB (decide (i < a.length))) rfl) (fun hc0 => ?_) (fun hc0 => ?_)
  · have fhc0 : i < a.length := of_decide_eq_true hc0
    refine sk ?_
    refine tn ?_
    refine sq ?_
    refine VRun.block ?_
    refine sr ?_
    refine mO (rd 4 eReport a) rfl ?_
    refine mO (tN i) rfl ?_
    obtain ⟨x1, hx1⟩ : ∃ x, a[i]? = some x := ⟨_, List.getElem?_eq_getElem (by first | omega)⟩
    refine fO (OF.indexAddrR (row := (eReport false x1)) (i := i) (tv (rd 4 eReport a) rfl) (tv (tN i) rfl) rfl (map_at _ hx1) Try.underlying47 sz65 if65) ?_
    refine fO (B.fieldAddrR (us := ((eReport false x1).drop 1)) (tv (T.rp (eReport false x1)) rfl) (Nat.le_of_ble_eq_true rfl) fa65_1 rfl) ?_
    refine lO (OL.loadR1 (t := (tI x1.Slot)) (tv (T.rp ((eReport false x1).drop 1)) rfl) rfl st3) ?_
    refine mO (tI s) rfl ?_
    refine fO (B.eql (c := (decide (x1.Slot = s))) (tv (tI x1.Slot) rfl) (tv (tI s) rfl) rfl) ?_
    refine mO (tB (decide (x1.Slot = s))) rfl ?_
    refine bool_way (decide (x1.Slot = s)) (fun hg23_2 => ?_) (fun hg23_2 => ?_)
    · have fhg23_2 : x1.Slot = s := of_decide_eq_true hg23_2
      refine gF hg23_2 rfl rfl (OF.move (tv (rd 4 eReport a) rfl)) ?_
      refine gF hg23_2 rfl rfl (OF.move (tv (tN i) rfl)) ?_
      refine gF hg23_2 rfl rfl (OF.indexAddrR (row := (eReport false x1)) (i := i) (tv (rd 4 eReport a) rfl) (tv (tN i) rfl) rfl (map_at _ hx1) Try.underlying47 sz65 if65) ?_
      refine gF hg23_2 rfl rfl (B.fieldAddrR (us := ((eReport false x1).drop 2)) (tv (T.rp (eReport false x1)) rfl) (Nat.le_of_ble_eq_true rfl) fa65_2 rfl) ?_
      refine gL hg23_2 rfl rfl (OL.loadR1 (t := (tI x1.Kind)) (tv (T.rp ((eReport false x1).drop 2)) rfl) rfl st3) ?_
      refine gF hg23_2 rfl rfl (OF.move (tv (tI k) rfl)) ?_
      refine gF hg23_2 rfl rfl (B.eql (c := (decide (x1.Kind = k))) (tv (tI x1.Kind) rfl) (tv (tI k) rfl) rfl) ?_
      refine fO (OF.pickT (VEv.tmpB (b := (decide (x1.Slot = s))) rfl hg23_2) (tv (tB (decide (x1.Kind = k))) rfl)) ?_
      refine nt ?_
      refine VRun.cond (tv (tB (decide (x1.Kind = k))) rfl) (fun hc1 => ?_) (fun hc1 => ?_)
      · have fhc1 : x1.Kind = k := of_decide_eq_true hc1
        refine VRun.region ?_
        refine mO (T.os 1 0 0 ((out.map (eInt true)).length)) rfl ?_
        refine mO (rd 4 eReport a) rfl ?_
        refine mO (tN i) rfl ?_
        refine fO (OF.indexAddrR (row := (eReport false x1)) (i := i) (tv (rd 4 eReport a) rfl) (tv (tN i) rfl) rfl (map_at _ hx1) Try.underlying47 sz65 if65) ?_
        refine fO (B.fieldAddrR (us := (eReport false x1)) (tv (T.rp (eReport false x1)) rfl) (Nat.le_of_ble_eq_true rfl) fa65_0 rfl) ?_
        refine lO (OL.loadR1 (t := (tI x1.Tester)) (tv (T.rp (eReport false x1)) rfl) rfl st3) ?_
        refine cO (OC.callF (us := [(rd 1 eInt out), (tI x1.Tester)]) (r := (T.sl true 1 ((l9put out x1.Tester).map (eInt true)))) (r' := (T.os 1 1 0 (((l9put out x1.Tester).map (eInt true)).length))) (objs := [(Obj.rows 1 ((l9put out x1.Tester).map (eInt true)))]) rfl (vc (tv (T.os 1 0 0 ((out.map (eInt true)).length)) rfl) (vc (tv (tI x1.Tester) rfl) VEvs.nil)) (LendL.cons (Lend.os rfl rfl (okInt.fzMap _ _)) (lp rfl (LendL.nil))) (W_spec_l9Put (n + 0) out x1.Tester (by first | assumption | omega)) rfl) ?_
        refine aO (T.os 1 1 0 (((l9put out x1.Tester).map (eInt true)).length)) rfl ?_
        refine VRunO.nil ?_
        refine vinB.n ?_
        refine tn ?_
        refine VRun.region ?_
        refine mO (tN i) rfl ?_
        refine fO (B.add (n := (((i + 1) : Nat) : Int)) (tv (tN i) rfl) (VEv.int .i64 1) (by first | rfl | (rw [wrap64 (by omega)]; omega) | (rw [wrap64 (by omega)]; done))) ?_
        refine aO (tN (i + 1)) rfl ?_
        refine VRunO.nil ?_
        refine tn ?_
        have he3 : l9put out x1.Tester = (if x1.Slot = s ∧ x1.Kind = k then l9put out x1.Tester else out) := by first | rfl | (refine (if_pos ?_).symm; constructor <;> assumption) | (refine (if_neg ?_).symm; rintro ⟨_, _⟩; contradiction) | (simp; done) | omega
        refine ⟨((i + 1, if x1.Slot = s ∧ x1.Kind = k then l9put out x1.Tester else out) : Nat × (List Int)), ?_, ?_, Wk.mk (fun k => if k = 0 then 1 else  k) ?_ ?_ ?_⟩
        · exact ⟨by omega, if_l9_len hI2, srt_next hx1 hI'.2.2⟩
        · first | omega | (simp only []; omega) | (show _ < _; omega) | (simp; omega)
        · exact (ball_cons ⟨rfl, rfl⟩ (ball_cons ⟨rfl, rfl⟩ (ball_cons ⟨rfl, rfl⟩ (ball_cons ⟨rfl, rfl⟩ (ball_cons ⟨(congrArg (fun l_ => T.os 1 1 0 (List.map (eInt true) l_).length) he3), rfl⟩ (ball_cons ⟨rfl, rfl⟩ (ball_nil)))))))
        · exact (ball_cons ⟨(congrArg (fun l_ => some (Obj.rows 1 (List.map (eInt true) l_))) he3), (Nat.le_of_ble_eq_true rfl), rfl⟩ (ball_nil))
        · show List.Nodup ([1] : List Nat)
          decide
      have fhc1 : ¬ (x1.Kind = k) := of_decide_eq_false hc1
      refine sk ?_
      refine vinB.n ?_
      refine tn ?_
      refine VRun.region ?_
      refine mO (tN i) rfl ?_
      refine fO (B.add (n := (((i + 1) : Nat) : Int)) (tv (tN i) rfl) (VEv.int .i64 1) (by first | rfl | (rw [wrap64 (by omega)]; omega) | (rw [wrap64 (by omega)]; done))) ?_
      refine aO (tN (i + 1)) rfl ?_
      refine VRunO.nil ?_
      refine tn ?_
      have he4 : out = (if x1.Slot = s ∧ x1.Kind = k then l9put out x1.Tester else out) := by first | rfl | (refine (if_pos ?_).symm; constructor <;> assumption) | (refine (if_neg ?_).symm; rintro ⟨_, _⟩; contradiction) | (simp; done) | omega
      refine ⟨((i + 1, if x1.Slot = s ∧ x1.Kind = k then l9put out x1.Tester else out) : Nat × (List Int)), ?_, ?_, Wk.mk (fun k => k) ?_ ?_ ?_⟩
      · exact ⟨by omega, if_l9_len hI2, srt_next hx1 hI'.2.2⟩
      · first | omega | (simp only []; omega) | (show _ < _; omega) | (simp; omega)
      · exact (ball_cons ⟨rfl, rfl⟩ (ball_cons ⟨rfl, rfl⟩ (ball_cons ⟨rfl, rfl⟩ (ball_cons ⟨rfl, rfl⟩ (ball_cons ⟨(congrArg (fun l_ => T.os 1 0 0 (List.map (eInt true) l_).length) he4), rfl⟩ (ball_cons ⟨rfl, rfl⟩ (ball_nil)))))))
      · exact (ball_cons ⟨(congrArg (fun l_ => some (Obj.rows 1 (List.map (eInt true) l_))) he4), (Nat.le_of_ble_eq_true rfl), rfl⟩ (ball_nil))
      · show List.Nodup ([0] : List Nat)
        decide
    have fhg23_2 : ¬ (x1.Slot = s) := of_decide_eq_false hg23_2
    refine oO rfl rfl hg23_2 ?_
    refine oO rfl rfl hg23_2 ?_
    refine oO rfl rfl hg23_2 ?_
    refine oO rfl rfl hg23_2 ?_
    refine oO rfl rfl hg23_2 ?_
    refine oO rfl rfl hg23_2 ?_
    refine oO rfl rfl hg23_2 ?_
    refine fO (OF.pickF (VEv.tmpB (b := (decide (x1.Slot = s))) rfl hg23_2) (VEv.bool false)) ?_
    refine nt ?_
    refine VRun.cond (tv (tB false) rfl) (fun hk5 => ?_) (fun hk5 => ?_)
    · exact absurd (rfl.symm.trans hk5) (by decide)
    · skip
      refine sk ?_
      refine vinB.n ?_
      refine tn ?_
      refine VRun.region ?_
      refine mO (tN i) rfl ?_
      refine fO (B.add (n := (((i + 1) : Nat) : Int)) (tv (tN i) rfl) (VEv.int .i64 1) (by first | rfl | (rw [wrap64 (by omega)]; omega) | (rw [wrap64 (by omega)]; done))) ?_
      refine aO (tN (i + 1)) rfl ?_
      refine VRunO.nil ?_
      refine tn ?_
      have he6 : out = (if x1.Slot = s ∧ x1.Kind = k then l9put out x1.Tester else out) := by first | rfl | (refine (if_pos ?_).symm; constructor <;> assumption) | (refine (if_neg ?_).symm; rintro ⟨_, _⟩; contradiction) | (simp; done) | omega
      refine ⟨((i + 1, if x1.Slot = s ∧ x1.Kind = k then l9put out x1.Tester else out) : Nat × (List Int)), ?_, ?_, Wk.mk (fun k => k) ?_ ?_ ?_⟩
      · exact ⟨by omega, if_l9_len hI2, srt_next hx1 hI'.2.2⟩
      · first | omega | (simp only []; omega) | (show _ < _; omega) | (simp; omega)
      · exact (ball_cons ⟨rfl, rfl⟩ (ball_cons ⟨rfl, rfl⟩ (ball_cons ⟨rfl, rfl⟩ (ball_cons ⟨rfl, rfl⟩ (ball_cons ⟨(congrArg (fun l_ => T.os 1 0 0 (List.map (eInt true) l_).length) he6), rfl⟩ (ball_cons ⟨rfl, rfl⟩ (ball_nil)))))))
      · exact (ball_cons ⟨(congrArg (fun l_ => some (Obj.rows 1 (List.map (eInt true) l_))) he6), (Nat.le_of_ble_eq_true rfl), rfl⟩ (ball_nil))
      · show List.Nodup ([0] : List Nat)
        decide
  have fhc0 : ¬ (i < a.length) := of_decide_eq_false hc0
  refine VRun.exit ?_
  refine vthn.e ?_
  refine vthn.e ?_
  refine vinB.e ?_
  refine tn ?_
  refine sr ?_
  refine mO (T.os 1 0 0 ((out.map (eInt true)).length)) rfl ?_
  refine lO (B.lenO (m := out.length) (tv (T.os 1 0 0 ((out.map (eInt true)).length)) rfl) Try.underlying64 (List.length_map ..)) ?_
  refine aO (tN out.length) rfl ?_
  refine nt ?_
  refine rt ?_
  refine vi (n' := ((out.length : Nat) : Int)) rfl ?_
  have e := hI'.2.2
  rw [List.take_of_length_le (by omega)] at e
  rw [e, srt_len]
theorem W_impl_CountKind_1 (n : Nat) (x : D.Report)  : Pure (acall Try.prog (n + 1)) 44 [(T.agg (eReport false x))] (tB true) := by
  refine Pure.intro (rs := [ResultVar.tmp 2]) Try.func44 rfl rfl rfl (E0 := [(0, (T.agg (eReport false x)))]) rfl ?_
  have hlim : lim = 1099511627776 := rfl
  have hmx : mx = 1048576 := rfl
  have hmax : maxLen = 9223372036854775807 := rfl
  refine sr ?_
  refine kO (B.box (ts := (eReport false x)) (tv (T.agg (eReport false x)) rfl) nofun rfl) ?_
  refine fO (OF.assign (VEv.bool false)) ?_
  refine nt ?_
  refine sr ?_
  refine fO (OF.assign (VEv.bool true)) ?_
  refine nt ?_
  refine rt ?_
  exact vb rfl rfl
theorem W_impl_testers_impl_CountKind_1 (n : Nat) (a : List D.Report) (s : Int) (k : Int) (hz : zL zReport a ≤ mx) : Pure (acall Try.prog (n + 2)) 43 [(rd 4 eReport a), (tI s), (tI k), (T.fn 44 [])] (tN ((cnt a s k).length)) := by
  refine Pure.intro (rs := [ResultVar.tmp 8]) Try.func43 rfl rfl rfl (E0 := [(0, (rd 4 eReport a)), (1, (tI s)), (2, (tI k)), (3, (T.fn 44 []))]) rfl ?_
  have hlim : lim = 1099511627776 := rfl
  have hmx : mx = 1048576 := rfl
  have hmax : maxLen = 9223372036854775807 := rfl
  have ha := zL_len (z := zReport) a
  refine sr ?_
  refine fO (OF.assign (VEv.int .i64 0)) ?_
  refine nt ?_
  refine sr ?_
  refine kO B.makeMap ?_
  refine aO (T.om 0) rfl ?_
  refine nt ?_
  refine sq ?_
  refine sr ?_
  refine mO (rd 4 eReport a) rfl ?_
  refine lO (B.lenR (m := a.length) (tv (rd 4 eReport a) rfl) Try.underlying47 (List.length_map ..)) ?_
  refine fO (OF.move (VEv.int .i64 0)) ?_
  refine nt ?_
  refine VRun.block ?_
  have he1 : ([] : List (Int × Int)) = [] := by first | rfl | (refine (if_pos ?_).symm; constructor <;> assumption) | (refine (if_neg ?_).symm; rintro ⟨_, _⟩; contradiction) | (simp; done) | omega
  refine VRun.loop (A := Nat × (List (Int × Int))) (fun s_ => [(1, (tI s)), (2, (tI k)), (3, (T.fn 44 [])), (8, (tN 0)), (9, (T.om 0)), (13, (rd 4 eReport a)), (14, (tN a.length)), (15, (tN s_.1))]) (fun s_ => mkO [(0, (Obj.map (eM s_.2)))]) 1 (fun s_ => s_.1 ≤ a.length ∧ s_.2.map (·.1) = cnt (a.take s_.1) s k) (fun s_ => a.length - s_.1) ((0, []) : Nat × (List (Int × Int))) ?_ (Wk.mk (fun k => k) ?_ ?_ ?_) ?_
  · exact ⟨Nat.zero_le _, rfl⟩
  · exact (ball_cons ⟨rfl, rfl⟩ (ball_cons ⟨rfl, rfl⟩ (ball_cons ⟨rfl, rfl⟩ (ball_cons ⟨rfl, rfl⟩ (ball_cons ⟨rfl, rfl⟩ (ball_cons ⟨rfl, rfl⟩ (ball_cons ⟨rfl, rfl⟩ (ball_cons ⟨rfl, rfl⟩ (ball_nil)))))))))
  · exact (ball_cons ⟨(congrArg (fun l_ => some (Obj.map (eM l_))) he1), (Nat.le_of_ble_eq_true rfl), rfl⟩ (ball_nil))
  · show List.Nodup ([0] : List Nat)
    decide
  rintro ⟨i, m⟩ hI
  have hI' : i ≤ a.length ∧ m.map (·.1) = cnt (a.take i) s k := hI
  clear hI
  show VRun _ _ _ [(1, (tI s)), (2, (tI k)), (3, (T.fn 44 [])), (8, (tN 0)), (9, (T.om 0)), (13, (rd 4 eReport a)), (14, (tN a.length)), (15, (tN i))] (mkO [(0, (Obj.map (eM m)))]) 1 _
  have hI1 := hI'.1
  refine sr ?_
  refine fO (B.lss (c := (decide (i < a.length))) (tv (tN i) rfl) (tv (tN a.length) rfl) (by first | (exact decN (by omega)))) ?_
  refine nt ?_
  refine sq ?_
  refine VRun.cond (tv (tB (decide (i < a.length))) rfl) (fun hc0 => ?_) (fun hc0 => ?_)
  · have fhc0 : i < a.length := of_decide_eq_true hc0
    refine sk ?_
    refine tn ?_
    refine sq ?_
    refine VRun.block ?_
    refine sr ?_
    obtain ⟨x1, hx1⟩ : ∃ x, a[i]? = some x := ⟨_, List.getElem?_eq_getElem (by first | omega)⟩
    refine fO (OF.indexAddrR (row := (eReport false x1)) (i := i) (tv (rd 4 eReport a) rfl) (tv (tN i) rfl) rfl (map_at _ hx1) Try.underlying47 sz65 if65) ?_
    refine lO (OL.loadRn (us := (eReport false x1)) (tv (T.rp (eReport false x1)) rfl) st65 sz65 (Nat.le_of_ble_eq_true rfl) rfl) ?_
    refine kO (B.alloc (t := (T.agg [(tN 0), (tN 0), (tN 0), (tS ByteArray.empty)])) (ts := [(tN 0), (tN 0), (tN 0), (tS ByteArray.empty)]) zo65 zc65 nofun (fun _ => .agg _ _ rfl (RLof (RL.cons (.int _ _) (RL.cons (.int _ _) (RL.cons (.int _ _) (RL.cons (.str _) (RL.nil _))))))) rfl) ?_
    refine cO (B.storeO (us := (eReport false x1)) (ws := (eReport false x1)) (tv (T.op 1 0) rfl) (tv (T.agg (eReport false x1)) rfl) nofun rfl rfl (Nat.le_of_ble_eq_true rfl) if65 sz65 (ball_cons rfl (ball_cons rfl (ball_cons rfl (ball_cons rfl (ball_nil))))) rfl) ?_
    refine nt ?_
    refine sr ?_
    refine fO (OF.fieldAddrO (tv (T.op 1 0) rfl) fa65_1) ?_
    refine lO (OL.loadO1 (t := (tI x1.Slot)) (tv (T.op 1 1) rfl) rfl rfl st3) ?_
    refine mO (tI s) rfl ?_
    refine fO (B.eql (c := (decide (x1.Slot = s))) (tv (tI x1.Slot) rfl) (tv (tI s) rfl) rfl) ?_
    refine mO (tB (decide (x1.Slot = s))) rfl ?_
    refine bool_way (decide (x1.Slot = s)) (fun hg23_2 => ?_) (fun hg23_2 => ?_)
    · have fhg23_2 : x1.Slot = s := of_decide_eq_true hg23_2
      refine gF hg23_2 rfl rfl (OF.fieldAddrO (tv (T.op 1 0) rfl) fa65_2) ?_
      refine gL hg23_2 rfl rfl (OL.loadO1 (t := (tI x1.Kind)) (tv (T.op 1 2) rfl) rfl rfl st3) ?_
      refine gF hg23_2 rfl rfl (OF.move (tv (tI k) rfl)) ?_
      refine gF hg23_2 rfl rfl (B.eql (c := (decide (x1.Kind = k))) (tv (tI x1.Kind) rfl) (tv (tI k) rfl) rfl) ?_
      refine fO (OF.pickT (VEv.tmpB (b := (decide (x1.Slot = s))) rfl hg23_2) (tv (tB (decide (x1.Kind = k))) rfl)) ?_
      refine mO (tB (decide (x1.Kind = k))) rfl ?_
      refine bool_way (decide (x1.Kind = k)) (fun hg29_3 => ?_) (fun hg29_3 => ?_)
      · have fhg29_3 : x1.Kind = k := of_decide_eq_true hg29_3
        refine gF hg29_3 rfl rfl (OF.move (tv (T.fn 44 []) rfl)) ?_
        refine gL hg29_3 rfl rfl (OL.loadOn (us := (eReport false x1)) (tv (T.op 1 0) rfl) rfl st65 sz65 (Nat.le_of_ble_eq_true rfl) rfl) ?_
        refine VRunO.chain (VWant.on (b := (decide (x1.Kind = k))) rfl rfl hg29_3) (OC.callv (us := [(T.agg (eReport false x1))]) (ucaps := []) (r := (tB true)) (r' := (tB true)) (objs := []) rfl rfl (vc (tv (T.agg (eReport false x1)) rfl) VEvs.nil) (LendL.cons (lg okeReport) (LendL.nil)) (LendL.nil) (W_impl_CountKind_1 (n + 0) x1 ) rfl) ?_
        refine fO (OF.pickT (VEv.tmpB (b := (decide (x1.Kind = k))) rfl hg29_3) (tv (tB true) rfl)) ?_
        refine nt ?_
        refine VRun.cond (tv (tB true) rfl) (fun hk4 => ?_) (fun hk4 => ?_)
        · skip
          refine VRun.region ?_
          refine mO (T.om 0) rfl ?_
          refine fO (OF.fieldAddrO (tv (T.op 1 0) rfl) fa65_0) ?_
          refine lO (OL.loadO1 (t := (tI x1.Tester)) (tv (T.op 1 0) rfl) rfl rfl st3) ?_
          refine cO (B.mapSet (l := m) (l' := (mput m x1.Tester 1)) (tv (T.om 0) rfl) (tv (tI x1.Tester) rfl) (VEv.int .i64 1) rfl Try.underlying72 Try.underlying3 rfl) ?_
          refine VRunO.nil ?_
          refine vinB.n ?_
          refine tn ?_
          refine VRun.region ?_
          refine fO (B.add (n := (((i + 1) : Nat) : Int)) (tv (tN i) rfl) (VEv.int .i64 1) (by first | rfl | (rw [wrap64 (by omega)]; omega) | (rw [wrap64 (by omega)]; done))) ?_
          refine mO (tN (i + 1)) rfl ?_
          refine VRunO.nil ?_
          refine tn ?_
          have he5 : (mput m x1.Tester 1) = (if x1.Slot = s ∧ x1.Kind = k then mput m x1.Tester 1 else m) := by first | rfl | (refine (if_pos ?_).symm; constructor <;> assumption) | (refine (if_neg ?_).symm; rintro ⟨_, _⟩; contradiction) | (simp; done) | omega
          refine ⟨((i + 1, if x1.Slot = s ∧ x1.Kind = k then mput m x1.Tester 1 else m) : Nat × (List (Int × Int))), ?_, ?_, Wk.mk (fun k => k) ?_ ?_ ?_⟩
          · exact ⟨by omega, cnt_next hx1 hI'.2⟩
          · first | omega | (simp only []; omega) | (show _ < _; omega) | (simp; omega)
          · exact (ball_cons ⟨rfl, rfl⟩ (ball_cons ⟨rfl, rfl⟩ (ball_cons ⟨rfl, rfl⟩ (ball_cons ⟨rfl, rfl⟩ (ball_cons ⟨rfl, rfl⟩ (ball_cons ⟨rfl, rfl⟩ (ball_cons ⟨rfl, rfl⟩ (ball_cons ⟨rfl, rfl⟩ (ball_nil)))))))))
          · exact (ball_cons ⟨(congrArg (fun l_ => some (Obj.map (eM l_))) he5), (Nat.le_of_ble_eq_true rfl), rfl⟩ (ball_nil))
          · show List.Nodup ([0] : List Nat)
            decide
        · exact absurd (rfl.symm.trans hk4) (by decide)
      have fhg29_3 : ¬ (x1.Kind = k) := of_decide_eq_false hg29_3
      refine oO rfl rfl hg29_3 ?_
      refine oO rfl rfl hg29_3 ?_
      refine oO rfl rfl hg29_3 ?_
      refine fO (OF.pickF (VEv.tmpB (b := (decide (x1.Kind = k))) rfl hg29_3) (VEv.bool false)) ?_
      refine nt ?_
      refine VRun.cond (tv (tB false) rfl) (fun hk6 => ?_) (fun hk6 => ?_)
      · exact absurd (rfl.symm.trans hk6) (by decide)
      · skip
        refine sk ?_
        refine vinB.n ?_
        refine tn ?_
        refine VRun.region ?_
        refine fO (B.add (n := (((i + 1) : Nat) : Int)) (tv (tN i) rfl) (VEv.int .i64 1) (by first | rfl | (rw [wrap64 (by omega)]; omega) | (rw [wrap64 (by omega)]; done))) ?_
        refine mO (tN (i + 1)) rfl ?_
        refine VRunO.nil ?_
        refine tn ?_
        have he7 : m = (if x1.Slot = s ∧ x1.Kind = k then mput m x1.Tester 1 else m) := by first | rfl | (refine (if_pos ?_).symm; constructor <;> assumption) | (refine (if_neg ?_).symm; rintro ⟨_, _⟩; contradiction) | (simp; done) | omega
        refine ⟨((i + 1, if x1.Slot = s ∧ x1.Kind = k then mput m x1.Tester 1 else m) : Nat × (List (Int × Int))), ?_, ?_, Wk.mk (fun k => k) ?_ ?_ ?_⟩
        · exact ⟨by omega, cnt_next hx1 hI'.2⟩
        · first | omega | (simp only []; omega) | (show _ < _; omega) | (simp; omega)
        · exact (ball_cons ⟨rfl, rfl⟩ (ball_cons ⟨rfl, rfl⟩ (ball_cons ⟨rfl, rfl⟩ (ball_cons ⟨rfl, rfl⟩ (ball_cons ⟨rfl, rfl⟩ (ball_cons ⟨rfl, rfl⟩ (ball_cons ⟨rfl, rfl⟩ (ball_cons ⟨rfl, rfl⟩ (ball_nil)))))))))
        · exact (ball_cons ⟨(congrArg (fun l_ => some (Obj.map (eM l_))) he7), (Nat.le_of_ble_eq_true rfl), rfl⟩ (ball_nil))
        · show List.Nodup ([0] : List Nat)
          decide
    have fhg23_2 : ¬ (x1.Slot = s) := of_decide_eq_false hg23_2
    refine oO rfl rfl hg23_2 ?_
    refine oO rfl rfl hg23_2 ?_
    refine oO rfl rfl hg23_2 ?_
    refine oO rfl rfl hg23_2 ?_
    refine fO (OF.pickF (VEv.tmpB (b := (decide (x1.Slot = s))) rfl hg23_2) (VEv.bool false)) ?_
    refine mO (tB false) rfl ?_
    refine VRunO.off (VWant.not (b := false) rfl rfl rfl) ?_
    refine VRunO.off (VWant.not (b := false) rfl rfl rfl) ?_
    refine VRunO.off (VWant.not (b := false) rfl rfl rfl) ?_
    refine fO (OF.pickF (tv (tB false) rfl) (VEv.bool false)) ?_
    refine nt ?_
    refine VRun.cond (tv (tB false) rfl) (fun hk8 => ?_) (fun hk8 => ?_)
    · exact absurd (rfl.symm.trans hk8) (by decide)
    · skip
      refine sk ?_
      refine vinB.n ?_
      refine tn ?_
      refine VRun.region ?_
      refine fO (B.add (n := (((i + 1) : Nat) : Int)) (tv (tN i) rfl) (VEv.int .i64 1) (by first | rfl | (rw [wrap64 (by omega)]; omega) | (rw [wrap64 (by omega)]; done))) ?_
      refine mO (tN (i + 1)) rfl ?_
      refine VRunO.nil ?_
      refine tn ?_
      have he9 : m = (if x1.Slot = s ∧ x1.Kind = k then mput m x1.Tester 1 else m) := by first | rfl | (refine (if_pos ?_).symm; constructor <;> assumption) | (refine (if_neg ?_).symm; rintro ⟨_, _⟩; contradiction) | (simp; done) | omega
      refine ⟨((i + 1, if x1.Slot = s ∧ x1.Kind = k then mput m x1.Tester 1 else m) : Nat × (List (Int × Int))), ?_, ?_, Wk.mk (fun k => k) ?_ ?_ ?_⟩
      · exact ⟨by omega, cnt_next hx1 hI'.2⟩
      · first | omega | (simp only []; omega) | (show _ < _; omega) | (simp; omega)
      · exact (ball_cons ⟨rfl, rfl⟩ (ball_cons ⟨rfl, rfl⟩ (ball_cons ⟨rfl, rfl⟩ (ball_cons ⟨rfl, rfl⟩ (ball_cons ⟨rfl, rfl⟩ (ball_cons ⟨rfl, rfl⟩ (ball_cons ⟨rfl, rfl⟩ (ball_cons ⟨rfl, rfl⟩ (ball_nil)))))))))
      · exact (ball_cons ⟨(congrArg (fun l_ => some (Obj.map (eM l_))) he9), (Nat.le_of_ble_eq_true rfl), rfl⟩ (ball_nil))
      · show List.Nodup ([0] : List Nat)
        decide
  have fhc0 : ¬ (i < a.length) := of_decide_eq_false hc0
  refine VRun.exit ?_
  refine vthn.e ?_
  refine vthn.e ?_
  refine vinB.e ?_
  refine tn ?_
  refine sr ?_
  refine mO (T.om 0) rfl ?_
  refine lO (B.lenM (m := m.length) (tv (T.om 0) rfl) rfl Try.underlying72 rfl) ?_
  refine aO (tN m.length) rfl ?_
  refine nt ?_
  refine rt ?_
  refine vi (n' := ((m.length : Nat) : Int)) rfl ?_
  have e := congrArg List.length hI'.2
  rw [List.take_of_length_le (by omega), List.length_map] at e
  rw [e]
theorem W_impl_CountKind (n : Nat) (a : List D.Report) (s : Int) (k : Int) (hz : zL zReport a ≤ mx) : Pure (acall Try.prog (n + 3)) 28 [(rd 4 eReport a), (tI s), (tI k)] (tN ((cnt a s k).length)) := by
  refine Pure.intro (rs := [ResultVar.tmp 6]) Try.func28 rfl rfl rfl (E0 := [(0, (rd 4 eReport a)), (1, (tI s)), (2, (tI k))]) rfl ?_
  have hlim : lim = 1099511627776 := rfl
  have hmx : mx = 1048576 := rfl
  have hmax : maxLen = 9223372036854775807 := rfl
  refine sr ?_
  refine fO (OF.assign (VEv.int .i64 0)) ?_
  refine nt ?_
  refine sr ?_
  refine mO (rd 4 eReport a) rfl ?_
  refine mO (tI s) rfl ?_
  refine mO (tI k) rfl ?_
  refine cO (cS (us := [(rd 4 eReport a), (tI s), (tI k), (T.fn 44 [])]) (vc (tv (rd 4 eReport a) rfl) (vc (tv (tI s) rfl) (vc (tv (tI k) rfl) (vc (VEv.func 44) VEvs.nil)))) (lp rfl (lp rfl (lp rfl (LendL.cons (Lend.fn (LendL.nil)) (LendL.nil))))) (W_impl_testers_impl_CountKind_1 (n + 0) a s k (by first | assumption | omega)) rfl rfl) ?_
  refine aO (tN ((cnt a s k).length)) rfl ?_
  refine nt ?_
  refine rt ?_
  exact vi rfl rfl
end Go.Proofs.Ytllkimgecapbgaa.AE
