/- Walks of the program's functions over trees. Conditions: as each theorem states. -/
import Derived.Test.YthdnjihmjdbdkaaKFnExactEqualIssuesFeq
namespace Go.Proofs.Ythdnjihmjdbdkaa.AE
open Go Go.RowKit
set_option linter.unusedVariables false
set_option linter.unusedSimpArgs false
set_option maxRecDepth 20000
set_option maxHeartbeats 2000000

theorem W_slices_Equal_int_int_ (n : Nat) (a : List Int) (b : List Int) (hla : a.length ≤ mx) (hlb : b.length ≤ mx) : Pure (acall Try.prog (n + 1)) 141 [(T.sl false 1 (a.map (eInt false))), (T.sl false 1 (b.map (eInt false)))] (T.bool (decide (a = b))) := by
  refine Pure.intro (rs := [ResultVar.tmp 4]) Try.func141 rfl rfl rfl (E0 := [(0, (T.sl false 1 (a.map (eInt false)))), (1, (T.sl false 1 (b.map (eInt false))))]) rfl ?_
  have hlim : lim = 1099511627776 := rfl
  have hmx : mx = 1048576 := rfl
  have hmax : maxLen = 9223372036854775807 := rfl
  refine VRun.seq ?_
  refine VRun.region ?_
  refine VRunO.free VWant.always (OF.assign (VEv.bool false)) ?_
  refine VRunO.nil ?_
  refine vthn.n ?_
  refine VRun.seq ?_
  refine VRun.seq ?_
  refine VRun.region ?_
  refine VRunO.free VWant.always (OF.move (VEv.tmp (t := (T.sl false 1 (a.map (eInt false)))) rfl)) ?_
  refine VRunO.look VWant.always (B.lenR (m := a.length) (VEv.tmp (t := (T.sl false 1 (a.map (eInt false)))) rfl) Try.underlying72 (List.length_map ..)) ?_
  refine VRunO.free VWant.always (OF.move (VEv.tmp (t := (T.sl false 1 (b.map (eInt false)))) rfl)) ?_
  refine VRunO.look VWant.always (B.lenR (m := b.length) (VEv.tmp (t := (T.sl false 1 (b.map (eInt false)))) rfl) Try.underlying72 (List.length_map ..)) ?_
  refine VRunO.free VWant.always (B.neq (c := (!(decide (a.length = b.length)))) (VEv.tmp (t := (T.int .i64 ((a.length : Nat) : Int))) rfl) (VEv.tmp (t := (T.int .i64 ((b.length : Nat) : Int))) rfl) (by first | (exact decNn (by omega)))) ?_
  refine VRunO.nil ?_
  refine vthn.n ?_
  refine VRun.cond (VEv.tmp (t := (T.bool (!(decide (a.length = b.length))))) rfl) (fun hc0 => ?_) (fun hc0 => ?_)
  · have fhc0 : ¬ (a.length = b.length) := ndT hc0
    refine VRun.seq ?_
    refine VRun.region ?_
    refine VRunO.free VWant.always (OF.assign (VEv.bool false)) ?_
    refine VRunO.nil ?_
    refine vthn.n ?_
    refine VRun.ret ?_
    refine vthn.r ?_
    refine vfin.eq (r' := (T.bool false)) ?_ (vfin.r (VRes.tmp (t := (T.bool false)) rfl VRes.nil) (Give.bool _))
    show (T.bool false) = (T.bool (decide (a = b)))
    refine congrArg T.bool ?_
    symm; rw [decide_eq_false_iff_not]; rintro rfl; exact fhc0 rfl
  · have fhc0 : a.length = b.length := ndF hc0
    refine VRun.skip ?_
    refine vthn.n ?_
    refine VRun.seq ?_
    refine VRun.seq ?_
    refine VRun.region ?_
    refine VRunO.free VWant.always (OF.move (VEv.tmp (t := (T.sl false 1 (a.map (eInt false)))) rfl)) ?_
    refine VRunO.look VWant.always (B.lenR (m := a.length) (VEv.tmp (t := (T.sl false 1 (a.map (eInt false)))) rfl) Try.underlying72 (List.length_map ..)) ?_
    refine VRunO.free VWant.always (OF.move (VEv.int .i64 0)) ?_
    refine VRunO.nil ?_
    refine vthn.n ?_
    refine VRun.block ?_
    refine VRun.loop (A := Nat) (fun s_ => [(0, (T.sl false 1 (a.map (eInt false)))), (1, (T.sl false 1 (b.map (eInt false)))), (12, (T.int .i64 ((a.length : Nat) : Int))), (13, (T.int .i64 ((s_ : Nat) : Int)))]) (fun s_ => mkO []) 0 (fun s_ => s_ ≤ a.length ∧ ∀ j, j < s_ → a[j]? = b[j]?) (fun s_ => a.length - s_) (0 : Nat) ?_ (Wk.mk (fun k => k) ?_ ?_ ?_) ?_
    · first | trivial | (simp; done) | omega | (constructor <;> simp)
    · exact (ball_cons ⟨rfl, rfl⟩ (ball_cons ⟨rfl, rfl⟩ (ball_cons ⟨rfl, rfl⟩ (ball_cons ⟨(congrArg (T.int .i64) (show 0 = ((0 : Nat) : Int) from (by first | rfl | omega | (simp; done) | (push_cast; omega)))), rfl⟩ (ball_nil)))))
    · exact (ball_nil)
    · show List.Nodup ([] : List Nat)
      decide
    · rintro i hI
      have hI' : i ≤ a.length ∧ ∀ j, j < i → a[j]? = b[j]? := hI
      clear hI
      show VRun _ _ _ [(0, (T.sl false 1 (a.map (eInt false)))), (1, (T.sl false 1 (b.map (eInt false)))), (12, (T.int .i64 ((a.length : Nat) : Int))), (13, (T.int .i64 ((i : Nat) : Int)))] (mkO []) 0 _
      refine VRun.seq ?_
      refine VRun.region ?_
      refine VRunO.free VWant.always (B.lss (c := (decide (i < a.length))) (VEv.tmp (t := (T.int .i64 ((i : Nat) : Int))) rfl) (VEv.tmp (t := (T.int .i64 ((a.length : Nat) : Int))) rfl) (by first | (exact decN (by omega)))) ?_
      refine VRunO.nil ?_
      refine vthn.n ?_
      refine VRun.seq ?_
      refine VRun.cond (VEv.tmp (t := (T.bool (decide (i < a.length)))) rfl) (fun hc1 => ?_) (fun hc1 => ?_)
      · have fhc1 : i < a.length := of_decide_eq_true hc1
        refine VRun.skip ?_
        refine vthn.n ?_
        refine VRun.seq ?_
        refine VRun.block ?_
        refine VRun.seq ?_
        refine VRun.region ?_
        refine VRunO.free VWant.always (OF.move (VEv.tmp (t := (T.int .i64 ((i : Nat) : Int))) rfl)) ?_
        refine VRunO.free VWant.always (OF.assign (VEv.tmp (t := (T.int .i64 ((i : Nat) : Int))) rfl)) ?_
        refine VRunO.nil ?_
        refine vthn.n ?_
        refine VRun.seq ?_
        refine VRun.draw (B := [[], [], [1, 0], [0, 1, 2], [], [], [5, 4], [4, 5, 6], [6, 5, 4, 7, 2, 1, 0, 3]]) (by kernel_rfl) (by kernel_rfl) ?_
        refine VRunD.free rfl VWant.always rfl (OF.move (VEv.tmp (t := (T.sl false 1 (a.map (eInt false)))) rfl)) ?_
        refine VRunD.free rfl VWant.always rfl (OF.move (VEv.tmp (t := (T.int .i64 ((i : Nat) : Int))) rfl)) ?_
        obtain ⟨x1, hx1⟩ : ∃ x, a[i]? = some x := ⟨_, List.getElem?_eq_getElem (by first | omega | (simp only [List.length_map]; omega) | (simp only [List.length_map, List.length_append, List.length_cons, List.length_nil, List.length_replicate, List.length_set, List.length_drop, List.length_take, lim] at *; omega))⟩
        refine VRunD.free rfl VWant.always rfl (OF.indexAddrR (row := (eInt false x1)) (i := i) (VEv.tmp (t := (T.sl false 1 (a.map (eInt false)))) rfl) (VEv.tmp (t := (T.int .i64 ((i : Nat) : Int))) rfl) rfl (map_at _ hx1) Try.underlying72 sz3 if3) ?_
        refine VRunD.look rfl VWant.always rfl (OL.loadR1 (t := (T.int .i64 x1)) (VEv.tmp (t := (T.rp [(T.int .i64 x1)])) rfl) rfl st3) ?_
        refine VRunD.free rfl VWant.always rfl (OF.move (VEv.tmp (t := (T.sl false 1 (b.map (eInt false)))) rfl)) ?_
        refine VRunD.free rfl VWant.always rfl (OF.move (VEv.tmp (t := (T.int .i64 ((i : Nat) : Int))) rfl)) ?_
        obtain ⟨x2, hx2⟩ : ∃ x, b[i]? = some x := ⟨_, List.getElem?_eq_getElem (by first | omega | (simp only [List.length_map]; omega) | (simp only [List.length_map, List.length_append, List.length_cons, List.length_nil, List.length_replicate, List.length_set, List.length_drop, List.length_take, lim] at *; omega))⟩
        refine VRunD.free rfl VWant.always rfl (OF.indexAddrR (row := (eInt false x2)) (i := i) (VEv.tmp (t := (T.sl false 1 (b.map (eInt false)))) rfl) (VEv.tmp (t := (T.int .i64 ((i : Nat) : Int))) rfl) rfl (map_at _ hx2) Try.underlying72 sz3 if3) ?_
        refine VRunD.look rfl VWant.always rfl (OL.loadR1 (t := (T.int .i64 x2)) (VEv.tmp (t := (T.rp [(T.int .i64 x2)])) rfl) rfl st3) ?_
        refine VRunD.free rfl VWant.always rfl (B.neq (c := (!(decide (x1 = x2)))) (VEv.tmp (t := (T.int .i64 x1)) rfl) (VEv.tmp (t := (T.int .i64 x2)) rfl) rfl) ?_
        refine VRunD.nil ?_
        refine vthn.n ?_
        refine VRun.cond (VEv.tmp (t := (T.bool (!(decide (x1 = x2))))) rfl) (fun hc2 => ?_) (fun hc2 => ?_)
        · have fhc2 : ¬ (x1 = x2) := ndT hc2
          refine VRun.seq ?_
          refine VRun.region ?_
          refine VRunO.free VWant.always (OF.assign (VEv.bool false)) ?_
          refine VRunO.nil ?_
          refine vthn.n ?_
          refine VRun.ret ?_
          refine vinB.r ?_
          refine vthn.r ?_
          refine vthn.r ?_
          refine vinB.r ?_
          refine vthn.r ?_
          refine vfin.eq (r' := (T.bool false)) ?_ (vfin.r (VRes.tmp (t := (T.bool false)) rfl VRes.nil) (Give.bool _))
          show (T.bool false) = (T.bool (decide (a = b)))
          refine congrArg T.bool ?_
          symm; rw [decide_eq_false_iff_not]; exact agree_not hx1 hx2 fhc2
        · have fhc2 : x1 = x2 := ndF hc2
          refine VRun.skip ?_
          refine vinB.n ?_
          refine vthn.n ?_
          refine VRun.region ?_
          refine VRunO.free VWant.always (B.add (n := (((i + 1) : Nat) : Int)) (VEv.tmp (t := (T.int .i64 ((i : Nat) : Int))) rfl) (VEv.int .i64 1) (by first | rfl | (rw [wrap64 (by omega)]; done) | (rw [wrap64 (by omega)]; omega) | (rw [wrap64 (by omega)]; push_cast; omega) | omega)) ?_
          refine VRunO.free VWant.always (OF.move (VEv.tmp (t := (T.int .i64 (((i + 1) : Nat) : Int))) rfl)) ?_
          refine VRunO.nil ?_
          refine vthn.n ?_
          refine ⟨(i + 1 : Nat), ?_, ?_, Wk.mk (fun k => k) ?_ ?_ ?_⟩
          · exact agree_next hI' hx1 hx2 fhc2
          · first | omega | (simp only []; omega) | (show _ < _; omega) | (simp; omega)
          · exact (ball_cons ⟨rfl, rfl⟩ (ball_cons ⟨rfl, rfl⟩ (ball_cons ⟨rfl, rfl⟩ (ball_cons ⟨rfl, rfl⟩ (ball_nil)))))
          · exact (ball_nil)
          · show List.Nodup ([] : List Nat)
            decide
      · have fhc1 : ¬ (i < a.length) := of_decide_eq_false hc1
        refine VRun.exit ?_
        refine vthn.e ?_
        refine vthn.e ?_
        refine vinB.e ?_
        refine vthn.n ?_
        refine VRun.seq ?_
        refine VRun.region ?_
        refine VRunO.free VWant.always (OF.assign (VEv.bool true)) ?_
        refine VRunO.nil ?_
        refine vthn.n ?_
        refine VRun.ret ?_
        refine vfin.eq (r' := (T.bool true)) ?_ (vfin.r (VRes.tmp (t := (T.bool true)) rfl VRes.nil) (Give.bool _))
        show (T.bool true) = (T.bool (decide (a = b)))
        refine congrArg T.bool ?_
        symm; rw [decide_eq_true_eq]; exact agree_all hI' fhc0 fhc1
theorem W_spec_EqualInts (n : Nat) (a : List Int) (b : List Int) (hla : a.length ≤ mx) (hlb : b.length ≤ mx) : Pure (acall Try.prog (n + 1)) 140 [(T.sl false 1 (a.map (eInt false))), (T.sl false 1 (b.map (eInt false)))] (T.bool (decide (a = b))) := by
  refine Pure.intro (rs := [ResultVar.tmp 4]) Try.func140 rfl rfl rfl (E0 := [(0, (T.sl false 1 (a.map (eInt false)))), (1, (T.sl false 1 (b.map (eInt false))))]) rfl ?_
  have hlim : lim = 1099511627776 := rfl
  have hmx : mx = 1048576 := rfl
  have hmax : maxLen = 9223372036854775807 := rfl
  refine VRun.seq ?_
  refine VRun.region ?_
  refine VRunO.free VWant.always (OF.assign (VEv.bool false)) ?_
  refine VRunO.nil ?_
  refine vthn.n ?_
  refine VRun.seq ?_
  refine VRun.seq ?_
  refine VRun.region ?_
  refine VRunO.free VWant.always (OF.move (VEv.tmp (t := (T.sl false 1 (a.map (eInt false)))) rfl)) ?_
  refine VRunO.look VWant.always (B.lenR (m := a.length) (VEv.tmp (t := (T.sl false 1 (a.map (eInt false)))) rfl) Try.underlying72 (List.length_map ..)) ?_
  refine VRunO.free VWant.always (OF.move (VEv.tmp (t := (T.sl false 1 (b.map (eInt false)))) rfl)) ?_
  refine VRunO.look VWant.always (B.lenR (m := b.length) (VEv.tmp (t := (T.sl false 1 (b.map (eInt false)))) rfl) Try.underlying72 (List.length_map ..)) ?_
  refine VRunO.free VWant.always (B.neq (c := (!(decide (a.length = b.length)))) (VEv.tmp (t := (T.int .i64 ((a.length : Nat) : Int))) rfl) (VEv.tmp (t := (T.int .i64 ((b.length : Nat) : Int))) rfl) (by first | (exact decNn (by omega)))) ?_
  refine VRunO.nil ?_
  refine vthn.n ?_
  refine VRun.cond (VEv.tmp (t := (T.bool (!(decide (a.length = b.length))))) rfl) (fun hc0 => ?_) (fun hc0 => ?_)
  · have fhc0 : ¬ (a.length = b.length) := ndT hc0
    refine VRun.seq ?_
    refine VRun.region ?_
    refine VRunO.free VWant.always (OF.assign (VEv.bool false)) ?_
    refine VRunO.nil ?_
    refine vthn.n ?_
    refine VRun.ret ?_
    refine vthn.r ?_
    refine vfin.eq (r' := (T.bool false)) ?_ (vfin.r (VRes.tmp (t := (T.bool false)) rfl VRes.nil) (Give.bool _))
    show (T.bool false) = (T.bool (decide (a = b)))
    refine congrArg T.bool ?_
    symm; rw [decide_eq_false_iff_not]; rintro rfl; exact fhc0 rfl
  · have fhc0 : a.length = b.length := ndF hc0
    refine VRun.skip ?_
    refine vthn.n ?_
    refine VRun.seq ?_
    refine VRun.seq ?_
    refine VRun.region ?_
    refine VRunO.free VWant.always (OF.assign (VEv.int .i64 0)) ?_
    refine VRunO.nil ?_
    refine vthn.n ?_
    refine VRun.block ?_
    refine VRun.loop (A := Nat) (fun s_ => [(0, (T.sl false 1 (a.map (eInt false)))), (1, (T.sl false 1 (b.map (eInt false)))), (5, (T.int .i64 ((s_ : Nat) : Int)))]) (fun s_ => mkO []) 0 (fun s_ => s_ ≤ a.length ∧ ∀ j, j < s_ → a[j]? = b[j]?) (fun s_ => a.length - s_) (0 : Nat) ?_ (Wk.mk (fun k => k) ?_ ?_ ?_) ?_
    · first | trivial | (simp; done) | omega | (constructor <;> simp)
    · exact (ball_cons ⟨rfl, rfl⟩ (ball_cons ⟨rfl, rfl⟩ (ball_cons ⟨(congrArg (T.int .i64) (show 0 = ((0 : Nat) : Int) from (by first | rfl | omega | (simp; done) | (push_cast; omega)))), rfl⟩ (ball_nil))))
    · exact (ball_nil)
    · show List.Nodup ([] : List Nat)
      decide
    · rintro i hI
      have hI' : i ≤ a.length ∧ ∀ j, j < i → a[j]? = b[j]? := hI
      clear hI
      show VRun _ _ _ [(0, (T.sl false 1 (a.map (eInt false)))), (1, (T.sl false 1 (b.map (eInt false)))), (5, (T.int .i64 ((i : Nat) : Int)))] (mkO []) 0 _
      refine VRun.seq ?_
      refine VRun.seq ?_
      refine VRun.region ?_
      refine VRunO.free VWant.always (OF.move (VEv.tmp (t := (T.int .i64 ((i : Nat) : Int))) rfl)) ?_
      refine VRunO.free VWant.always (OF.move (VEv.tmp (t := (T.sl false 1 (a.map (eInt false)))) rfl)) ?_
      refine VRunO.look VWant.always (B.lenR (m := a.length) (VEv.tmp (t := (T.sl false 1 (a.map (eInt false)))) rfl) Try.underlying72 (List.length_map ..)) ?_
      refine VRunO.free VWant.always (B.lss (c := (decide (i < a.length))) (VEv.tmp (t := (T.int .i64 ((i : Nat) : Int))) rfl) (VEv.tmp (t := (T.int .i64 ((a.length : Nat) : Int))) rfl) (by first | (exact decN (by omega)))) ?_
      refine VRunO.nil ?_
      refine vthn.n ?_
      refine VRun.cond (VEv.tmp (t := (T.bool (decide (i < a.length)))) rfl) (fun hc1 => ?_) (fun hc1 => ?_)
      · have fhc1 : i < a.length := of_decide_eq_true hc1
        refine VRun.skip ?_
        refine vthn.n ?_
        refine VRun.seq ?_
        refine VRun.block ?_
        refine VRun.seq ?_
        refine VRun.draw (B := [[], [], [1, 0], [0, 1, 2], [], [], [5, 4], [4, 5, 6], [6, 5, 4, 7, 2, 1, 0, 3]]) (by kernel_rfl) (by kernel_rfl) ?_
        refine VRunD.free rfl VWant.always rfl (OF.move (VEv.tmp (t := (T.sl false 1 (a.map (eInt false)))) rfl)) ?_
        refine VRunD.free rfl VWant.always rfl (OF.move (VEv.tmp (t := (T.int .i64 ((i : Nat) : Int))) rfl)) ?_
        obtain ⟨x1, hx1⟩ : ∃ x, a[i]? = some x := ⟨_, List.getElem?_eq_getElem (by first | omega | (simp only [List.length_map]; omega) | (simp only [List.length_map, List.length_append, List.length_cons, List.length_nil, List.length_replicate, List.length_set, List.length_drop, List.length_take, lim] at *; omega))⟩
        refine VRunD.free rfl VWant.always rfl (OF.indexAddrR (row := (eInt false x1)) (i := i) (VEv.tmp (t := (T.sl false 1 (a.map (eInt false)))) rfl) (VEv.tmp (t := (T.int .i64 ((i : Nat) : Int))) rfl) rfl (map_at _ hx1) Try.underlying72 sz3 if3) ?_
        refine VRunD.look rfl VWant.always rfl (OL.loadR1 (t := (T.int .i64 x1)) (VEv.tmp (t := (T.rp [(T.int .i64 x1)])) rfl) rfl st3) ?_
        refine VRunD.free rfl VWant.always rfl (OF.move (VEv.tmp (t := (T.sl false 1 (b.map (eInt false)))) rfl)) ?_
        refine VRunD.free rfl VWant.always rfl (OF.move (VEv.tmp (t := (T.int .i64 ((i : Nat) : Int))) rfl)) ?_
        obtain ⟨x2, hx2⟩ : ∃ x, b[i]? = some x := ⟨_, List.getElem?_eq_getElem (by first | omega | (simp only [List.length_map]; omega) | (simp only [List.length_map, List.length_append, List.length_cons, List.length_nil, List.length_replicate, List.length_set, List.length_drop, List.length_take, lim] at *; omega))⟩
        refine VRunD.free rfl VWant.always rfl (OF.indexAddrR (row := (eInt false x2)) (i := i) (VEv.tmp (t := (T.sl false 1 (b.map (eInt false)))) rfl) (VEv.tmp (t := (T.int .i64 ((i : Nat) : Int))) rfl) rfl (map_at _ hx2) Try.underlying72 sz3 if3) ?_
        refine VRunD.look rfl VWant.always rfl (OL.loadR1 (t := (T.int .i64 x2)) (VEv.tmp (t := (T.rp [(T.int .i64 x2)])) rfl) rfl st3) ?_
        refine VRunD.free rfl VWant.always rfl (B.neq (c := (!(decide (x1 = x2)))) (VEv.tmp (t := (T.int .i64 x1)) rfl) (VEv.tmp (t := (T.int .i64 x2)) rfl) rfl) ?_
        refine VRunD.nil ?_
        refine vthn.n ?_
        refine VRun.cond (VEv.tmp (t := (T.bool (!(decide (x1 = x2))))) rfl) (fun hc2 => ?_) (fun hc2 => ?_)
        · have fhc2 : ¬ (x1 = x2) := ndT hc2
          refine VRun.seq ?_
          refine VRun.region ?_
          refine VRunO.free VWant.always (OF.assign (VEv.bool false)) ?_
          refine VRunO.nil ?_
          refine vthn.n ?_
          refine VRun.ret ?_
          refine vinB.r ?_
          refine vthn.r ?_
          refine vthn.r ?_
          refine vinB.r ?_
          refine vthn.r ?_
          refine vfin.eq (r' := (T.bool false)) ?_ (vfin.r (VRes.tmp (t := (T.bool false)) rfl VRes.nil) (Give.bool _))
          show (T.bool false) = (T.bool (decide (a = b)))
          refine congrArg T.bool ?_
          symm; rw [decide_eq_false_iff_not]; exact agree_not hx1 hx2 fhc2
        · have fhc2 : x1 = x2 := ndF hc2
          refine VRun.skip ?_
          refine vinB.n ?_
          refine vthn.n ?_
          refine VRun.region ?_
          refine VRunO.free VWant.always (OF.move (VEv.tmp (t := (T.int .i64 ((i : Nat) : Int))) rfl)) ?_
          refine VRunO.free VWant.always (B.add (n := (((i + 1) : Nat) : Int)) (VEv.tmp (t := (T.int .i64 ((i : Nat) : Int))) rfl) (VEv.int .i64 1) (by first | rfl | (rw [wrap64 (by omega)]; done) | (rw [wrap64 (by omega)]; omega) | (rw [wrap64 (by omega)]; push_cast; omega) | omega)) ?_
          refine VRunO.free VWant.always (OF.assign (VEv.tmp (t := (T.int .i64 (((i + 1) : Nat) : Int))) rfl)) ?_
          refine VRunO.nil ?_
          refine vthn.n ?_
          refine ⟨(i + 1 : Nat), ?_, ?_, Wk.mk (fun k => k) ?_ ?_ ?_⟩
          · exact agree_next hI' hx1 hx2 fhc2
          · first | omega | (simp only []; omega) | (show _ < _; omega) | (simp; omega)
          · exact (ball_cons ⟨rfl, rfl⟩ (ball_cons ⟨rfl, rfl⟩ (ball_cons ⟨rfl, rfl⟩ (ball_nil))))
          · exact (ball_nil)
          · show List.Nodup ([] : List Nat)
            decide
      · have fhc1 : ¬ (i < a.length) := of_decide_eq_false hc1
        refine VRun.exit ?_
        refine vthn.e ?_
        refine vthn.e ?_
        refine vinB.e ?_
        refine vthn.n ?_
        refine VRun.seq ?_
        refine VRun.region ?_
        refine VRunO.free VWant.always (OF.assign (VEv.bool true)) ?_
        refine VRunO.nil ?_
        refine vthn.n ?_
        refine VRun.ret ?_
        refine vfin.eq (r' := (T.bool true)) ?_ (vfin.r (VRes.tmp (t := (T.bool true)) rfl VRes.nil) (Give.bool _))
        show (T.bool true) = (T.bool (decide (a = b)))
        refine congrArg T.bool ?_
        symm; rw [decide_eq_true_eq]; exact agree_all hI' fhc0 fhc1
theorem W_slices_Equal_impl_Step_impl_Step_ (n : Nat) (a : List D.Step) (b : List D.Step) (hla : a.length ≤ mx) (hlb : b.length ≤ mx) : Pure (acall Try.prog (n + 1)) 134 [(T.sl false 4 (a.map (eStep false))), (T.sl false 4 (b.map (eStep false)))] (T.bool (decide (a = b))) := by
  refine Pure.intro (rs := [ResultVar.tmp 4]) Try.func134 rfl rfl rfl (E0 := [(0, (T.sl false 4 (a.map (eStep false)))), (1, (T.sl false 4 (b.map (eStep false))))]) rfl ?_
  have hlim : lim = 1099511627776 := rfl
  have hmx : mx = 1048576 := rfl
  have hmax : maxLen = 9223372036854775807 := rfl
  refine VRun.seq ?_
  refine VRun.region ?_
  refine VRunO.free VWant.always (OF.assign (VEv.bool false)) ?_
  refine VRunO.nil ?_
  refine vthn.n ?_
  refine VRun.seq ?_
  refine VRun.seq ?_
  refine VRun.region ?_
  refine VRunO.free VWant.always (OF.move (VEv.tmp (t := (T.sl false 4 (a.map (eStep false)))) rfl)) ?_
  refine VRunO.look VWant.always (B.lenR (m := a.length) (VEv.tmp (t := (T.sl false 4 (a.map (eStep false)))) rfl) Try.underlying113 (List.length_map ..)) ?_
  refine VRunO.free VWant.always (OF.move (VEv.tmp (t := (T.sl false 4 (b.map (eStep false)))) rfl)) ?_
  refine VRunO.look VWant.always (B.lenR (m := b.length) (VEv.tmp (t := (T.sl false 4 (b.map (eStep false)))) rfl) Try.underlying113 (List.length_map ..)) ?_
  refine VRunO.free VWant.always (B.neq (c := (!(decide (a.length = b.length)))) (VEv.tmp (t := (T.int .i64 ((a.length : Nat) : Int))) rfl) (VEv.tmp (t := (T.int .i64 ((b.length : Nat) : Int))) rfl) (by first | (exact decNn (by omega)))) ?_
  refine VRunO.nil ?_
  refine vthn.n ?_
  refine VRun.cond (VEv.tmp (t := (T.bool (!(decide (a.length = b.length))))) rfl) (fun hc0 => ?_) (fun hc0 => ?_)
  · have fhc0 : ¬ (a.length = b.length) := ndT hc0
    refine VRun.seq ?_
    refine VRun.region ?_
    refine VRunO.free VWant.always (OF.assign (VEv.bool false)) ?_
    refine VRunO.nil ?_
    refine vthn.n ?_
    refine VRun.ret ?_
    refine vthn.r ?_
    refine vfin.eq (r' := (T.bool false)) ?_ (vfin.r (VRes.tmp (t := (T.bool false)) rfl VRes.nil) (Give.bool _))
    show (T.bool false) = (T.bool (decide (a = b)))
    refine congrArg T.bool ?_
    symm; rw [decide_eq_false_iff_not]; rintro rfl; exact fhc0 rfl
  · have fhc0 : a.length = b.length := ndF hc0
    refine VRun.skip ?_
    refine vthn.n ?_
    refine VRun.seq ?_
    refine VRun.seq ?_
    refine VRun.region ?_
    refine VRunO.free VWant.always (OF.move (VEv.tmp (t := (T.sl false 4 (a.map (eStep false)))) rfl)) ?_
    refine VRunO.look VWant.always (B.lenR (m := a.length) (VEv.tmp (t := (T.sl false 4 (a.map (eStep false)))) rfl) Try.underlying113 (List.length_map ..)) ?_
    refine VRunO.free VWant.always (OF.move (VEv.int .i64 0)) ?_
    refine VRunO.nil ?_
    refine vthn.n ?_
    refine VRun.block ?_
    refine VRun.loop (A := Nat) (fun s_ => [(0, (T.sl false 4 (a.map (eStep false)))), (1, (T.sl false 4 (b.map (eStep false)))), (12, (T.int .i64 ((a.length : Nat) : Int))), (13, (T.int .i64 ((s_ : Nat) : Int)))]) (fun s_ => mkO []) 0 (fun s_ => s_ ≤ a.length ∧ ∀ j, j < s_ → a[j]? = b[j]?) (fun s_ => a.length - s_) (0 : Nat) ?_ (Wk.mk (fun k => k) ?_ ?_ ?_) ?_
    · first | trivial | (simp; done) | omega | (constructor <;> simp)
    · exact (ball_cons ⟨rfl, rfl⟩ (ball_cons ⟨rfl, rfl⟩ (ball_cons ⟨rfl, rfl⟩ (ball_cons ⟨(congrArg (T.int .i64) (show 0 = ((0 : Nat) : Int) from (by first | rfl | omega | (simp; done) | (push_cast; omega)))), rfl⟩ (ball_nil)))))
    · exact (ball_nil)
    · show List.Nodup ([] : List Nat)
      decide
    · rintro i hI
      have hI' : i ≤ a.length ∧ ∀ j, j < i → a[j]? = b[j]? := hI
      clear hI
      show VRun _ _ _ [(0, (T.sl false 4 (a.map (eStep false)))), (1, (T.sl false 4 (b.map (eStep false)))), (12, (T.int .i64 ((a.length : Nat) : Int))), (13, (T.int .i64 ((i : Nat) : Int)))] (mkO []) 0 _
      refine VRun.seq ?_
      refine VRun.region ?_
      refine VRunO.free VWant.always (B.lss (c := (decide (i < a.length))) (VEv.tmp (t := (T.int .i64 ((i : Nat) : Int))) rfl) (VEv.tmp (t := (T.int .i64 ((a.length : Nat) : Int))) rfl) (by first | (exact decN (by omega)))) ?_
      refine VRunO.nil ?_
      refine vthn.n ?_
      refine VRun.seq ?_
      refine VRun.cond (VEv.tmp (t := (T.bool (decide (i < a.length)))) rfl) (fun hc1 => ?_) (fun hc1 => ?_)
      · have fhc1 : i < a.length := of_decide_eq_true hc1
        refine VRun.skip ?_
        refine vthn.n ?_
        refine VRun.seq ?_
        refine VRun.block ?_
        refine VRun.seq ?_
        refine VRun.region ?_
        refine VRunO.free VWant.always (OF.move (VEv.tmp (t := (T.int .i64 ((i : Nat) : Int))) rfl)) ?_
        refine VRunO.free VWant.always (OF.assign (VEv.tmp (t := (T.int .i64 ((i : Nat) : Int))) rfl)) ?_
        refine VRunO.nil ?_
        refine vthn.n ?_
        refine VRun.seq ?_
        refine VRun.draw (B := [[], [], [1, 0], [0, 1, 2], [], [], [5, 4], [4, 5, 6], [6, 5, 4, 7, 2, 1, 0, 3]]) (by kernel_rfl) (by kernel_rfl) ?_
        refine VRunD.free rfl VWant.always rfl (OF.move (VEv.tmp (t := (T.sl false 4 (a.map (eStep false)))) rfl)) ?_
        refine VRunD.free rfl VWant.always rfl (OF.move (VEv.tmp (t := (T.int .i64 ((i : Nat) : Int))) rfl)) ?_
        obtain ⟨x1, hx1⟩ : ∃ x, a[i]? = some x := ⟨_, List.getElem?_eq_getElem (by first | omega | (simp only [List.length_map]; omega) | (simp only [List.length_map, List.length_append, List.length_cons, List.length_nil, List.length_replicate, List.length_set, List.length_drop, List.length_take, lim] at *; omega))⟩
        refine VRunD.free rfl VWant.always rfl (OF.indexAddrR (row := (eStep false x1)) (i := i) (VEv.tmp (t := (T.sl false 4 (a.map (eStep false)))) rfl) (VEv.tmp (t := (T.int .i64 ((i : Nat) : Int))) rfl) rfl (map_at _ hx1) Try.underlying113 sz166 if166) ?_
        refine VRunD.look rfl VWant.always rfl (OL.loadRn (us := (eStep false x1)) (VEv.tmp (t := (T.rp [(T.int .i64 x1.Kind), (T.str x1.Word), (T.int .i64 x1.A), (T.int .i64 x1.B)])) rfl) st166 sz166 (Nat.le_of_ble_eq_true rfl) rfl) ?_
        refine VRunD.free rfl VWant.always rfl (OF.move (VEv.tmp (t := (T.sl false 4 (b.map (eStep false)))) rfl)) ?_
        refine VRunD.free rfl VWant.always rfl (OF.move (VEv.tmp (t := (T.int .i64 ((i : Nat) : Int))) rfl)) ?_
        obtain ⟨x2, hx2⟩ : ∃ x, b[i]? = some x := ⟨_, List.getElem?_eq_getElem (by first | omega | (simp only [List.length_map]; omega) | (simp only [List.length_map, List.length_append, List.length_cons, List.length_nil, List.length_replicate, List.length_set, List.length_drop, List.length_take, lim] at *; omega))⟩
        refine VRunD.free rfl VWant.always rfl (OF.indexAddrR (row := (eStep false x2)) (i := i) (VEv.tmp (t := (T.sl false 4 (b.map (eStep false)))) rfl) (VEv.tmp (t := (T.int .i64 ((i : Nat) : Int))) rfl) rfl (map_at _ hx2) Try.underlying113 sz166 if166) ?_
        refine VRunD.look rfl VWant.always rfl (OL.loadRn (us := (eStep false x2)) (VEv.tmp (t := (T.rp [(T.int .i64 x2.Kind), (T.str x2.Word), (T.int .i64 x2.A), (T.int .i64 x2.B)])) rfl) st166 sz166 (Nat.le_of_ble_eq_true rfl) rfl) ?_
        refine VRunD.free rfl VWant.always rfl (B.neq166 (a := x1) (b := x2) (m := false) (m' := false) (VEv.tmp (t := (T.agg (eStep false x1))) rfl) (VEv.tmp (t := (T.agg (eStep false x2))) rfl)) ?_
        refine VRunD.nil ?_
        refine vthn.n ?_
        refine VRun.cond (VEv.tmp (t := (T.bool (!(decide (x1 = x2))))) rfl) (fun hc2 => ?_) (fun hc2 => ?_)
        · have fhc2 : ¬ (x1 = x2) := ndT hc2
          refine VRun.seq ?_
          refine VRun.region ?_
          refine VRunO.free VWant.always (OF.assign (VEv.bool false)) ?_
          refine VRunO.nil ?_
          refine vthn.n ?_
          refine VRun.ret ?_
          refine vinB.r ?_
          refine vthn.r ?_
          refine vthn.r ?_
          refine vinB.r ?_
          refine vthn.r ?_
          refine vfin.eq (r' := (T.bool false)) ?_ (vfin.r (VRes.tmp (t := (T.bool false)) rfl VRes.nil) (Give.bool _))
          show (T.bool false) = (T.bool (decide (a = b)))
          refine congrArg T.bool ?_
          symm; rw [decide_eq_false_iff_not]; exact agree_not hx1 hx2 fhc2
        · have fhc2 : x1 = x2 := ndF hc2
          refine VRun.skip ?_
          refine vinB.n ?_
          refine vthn.n ?_
          refine VRun.region ?_
          refine VRunO.free VWant.always (B.add (n := (((i + 1) : Nat) : Int)) (VEv.tmp (t := (T.int .i64 ((i : Nat) : Int))) rfl) (VEv.int .i64 1) (by first | rfl | (rw [wrap64 (by omega)]; done) | (rw [wrap64 (by omega)]; omega) | (rw [wrap64 (by omega)]; push_cast; omega) | omega)) ?_
          refine VRunO.free VWant.always (OF.move (VEv.tmp (t := (T.int .i64 (((i + 1) : Nat) : Int))) rfl)) ?_
          refine VRunO.nil ?_
          refine vthn.n ?_
          refine ⟨(i + 1 : Nat), ?_, ?_, Wk.mk (fun k => k) ?_ ?_ ?_⟩
          · exact agree_next hI' hx1 hx2 fhc2
          · first | omega | (simp only []; omega) | (show _ < _; omega) | (simp; omega)
          · exact (ball_cons ⟨rfl, rfl⟩ (ball_cons ⟨rfl, rfl⟩ (ball_cons ⟨rfl, rfl⟩ (ball_cons ⟨rfl, rfl⟩ (ball_nil)))))
          · exact (ball_nil)
          · show List.Nodup ([] : List Nat)
            decide
      · have fhc1 : ¬ (i < a.length) := of_decide_eq_false hc1
        refine VRun.exit ?_
        refine vthn.e ?_
        refine vthn.e ?_
        refine vinB.e ?_
        refine vthn.n ?_
        refine VRun.seq ?_
        refine VRun.region ?_
        refine VRunO.free VWant.always (OF.assign (VEv.bool true)) ?_
        refine VRunO.nil ?_
        refine vthn.n ?_
        refine VRun.ret ?_
        refine vfin.eq (r' := (T.bool true)) ?_ (vfin.r (VRes.tmp (t := (T.bool true)) rfl VRes.nil) (Give.bool _))
        show (T.bool true) = (T.bool (decide (a = b)))
        refine congrArg T.bool ?_
        symm; rw [decide_eq_true_eq]; exact agree_all hI' fhc0 fhc1
theorem W_impl_sameClue (n : Nat) (a : D.Clue) (b : D.Clue) (hza : zClue a ≤ mx) (hzb : zClue b ≤ mx) : Pure (acall Try.prog (n + 2)) 101 [(T.agg (eClue false a)), (T.agg (eClue false b))] (T.bool (decide (a = b))) := by
  refine Pure.intro (rs := [ResultVar.tmp 4]) Try.func101 rfl rfl rfl (E0 := [(0, (T.agg (eClue false a))), (1, (T.agg (eClue false b)))]) rfl ?_
  have hlim : lim = 1099511627776 := rfl
  have hmx : mx = 1048576 := rfl
  have hmax : maxLen = 9223372036854775807 := rfl
  simp only [zClue] at hza hzb
  have hla := zL_len (z := zStep) a.Play
  have hlb := zL_len (z := zStep) b.Play
  refine VRun.seq ?_
  refine VRun.region ?_
  refine VRunO.make VWant.always (B.box (ts := [(T.int .i64 a.Sense), (T.sl false 4 (a.Play.map (eStep false)))]) (VEv.tmp (t := (T.agg (eClue false a))) rfl) nofun rfl) ?_
  refine VRunO.make VWant.always (B.box (ts := [(T.int .i64 b.Sense), (T.sl false 4 (b.Play.map (eStep false)))]) (VEv.tmp (t := (T.agg (eClue false b))) rfl) nofun rfl) ?_
  refine VRunO.free VWant.always (OF.assign (VEv.bool false)) ?_
  refine VRunO.nil ?_
  refine vthn.n ?_
  refine VRun.seq ?_
  refine VRun.region ?_
  refine VRunO.free VWant.always (OF.fieldAddrO (VEv.tmp (t := (T.op 0 0)) rfl) fa115_0) ?_
  refine VRunO.look VWant.always (OL.loadO1 (t := (T.int .i64 a.Sense)) (VEv.tmp (t := (T.op 0 0)) rfl) rfl rfl st3) ?_
  refine VRunO.free VWant.always (OF.fieldAddrO (VEv.tmp (t := (T.op 1 0)) rfl) fa115_0) ?_
  refine VRunO.look VWant.always (OL.loadO1 (t := (T.int .i64 b.Sense)) (VEv.tmp (t := (T.op 1 0)) rfl) rfl rfl st3) ?_
  refine VRunO.free VWant.always (B.eql (c := (decide (a.Sense = b.Sense))) (VEv.tmp (t := (T.int .i64 a.Sense)) rfl) (VEv.tmp (t := (T.int .i64 b.Sense)) rfl) rfl) ?_
  refine VRunO.free VWant.always (OF.move (VEv.tmp (t := (T.bool (decide (a.Sense = b.Sense)))) rfl)) ?_
  refine bool_way (decide (a.Sense = b.Sense)) (fun hg10_1 => ?_) (fun hg10_1 => ?_)
  · have fhg10_1 : a.Sense = b.Sense := of_decide_eq_true hg10_1
    refine VRunO.free (VWant.on (b := (decide (a.Sense = b.Sense))) rfl rfl hg10_1) (OF.fieldAddrO (VEv.tmp (t := (T.op 0 0)) rfl) fa115_1) ?_
    refine VRunO.look (VWant.on (b := (decide (a.Sense = b.Sense))) rfl rfl hg10_1) (OL.loadO1 (t := (T.sl false 4 (a.Play.map (eStep false)))) (VEv.tmp (t := (T.op 0 1)) rfl) rfl rfl st113) ?_
    refine VRunO.free (VWant.on (b := (decide (a.Sense = b.Sense))) rfl rfl hg10_1) (OF.fieldAddrO (VEv.tmp (t := (T.op 1 0)) rfl) fa115_1) ?_
    refine VRunO.look (VWant.on (b := (decide (a.Sense = b.Sense))) rfl rfl hg10_1) (OL.loadO1 (t := (T.sl false 4 (b.Play.map (eStep false)))) (VEv.tmp (t := (T.op 1 1)) rfl) rfl rfl st113) ?_
    refine VRunO.chain (VWant.on (b := (decide (a.Sense = b.Sense))) rfl rfl hg10_1) (OC.callF (us := [(T.sl false 4 (a.Play.map (eStep false))), (T.sl false 4 (b.Play.map (eStep false)))]) (r := (T.bool (decide (a.Play = b.Play)))) (r' := (T.bool (decide (a.Play = b.Play)))) (objs := []) rfl (VEvs.cons (VEv.tmp (t := (T.sl false 4 (a.Play.map (eStep false)))) rfl) (VEvs.cons (VEv.tmp (t := (T.sl false 4 (b.Play.map (eStep false)))) rfl) VEvs.nil)) (LendL.cons (Lend.pl rfl) (LendL.cons (Lend.pl rfl) (LendL.nil))) (W_slices_Equal_impl_Step_impl_Step_ (n + 0) a.Play b.Play (by first | assumption | omega | (simp only [List.length_map]; omega) | (simp only [List.length_map, List.length_append, List.length_cons, List.length_nil, List.length_replicate, List.length_set, List.length_drop, List.length_take, lim] at *; omega)) (by first | assumption | omega | (simp only [List.length_map]; omega) | (simp only [List.length_map, List.length_append, List.length_cons, List.length_nil, List.length_replicate, List.length_set, List.length_drop, List.length_take, lim] at *; omega))) rfl) ?_
    refine VRunO.free VWant.always (OF.pickT (VEv.tmpB (b := (decide (a.Sense = b.Sense))) rfl hg10_1) (VEv.tmp (t := (T.bool (decide (a.Play = b.Play)))) rfl)) ?_
    refine VRunO.free VWant.always (OF.assign (VEv.tmp (t := (T.bool (decide (a.Play = b.Play)))) rfl)) ?_
    refine VRunO.nil ?_
    refine vthn.n ?_
    refine VRun.ret ?_
    refine vfin.eq (r' := (T.bool (decide (a.Play = b.Play)))) ?_ (vfin.r (VRes.tmp (t := (T.bool (decide (a.Play = b.Play)))) rfl VRes.nil) (Give.bool _))
    show (T.bool (decide (a.Play = b.Play))) = (T.bool (decide (a = b)))
    refine congrArg T.bool ?_
    obtain ⟨a1, a2⟩ := a
    obtain ⟨b1, b2⟩ := b
    simp_all
  · have fhg10_1 : ¬ (a.Sense = b.Sense) := of_decide_eq_false hg10_1
    refine VRunO.off (VWant.not (b := (decide (a.Sense = b.Sense))) rfl rfl hg10_1) ?_
    refine VRunO.off (VWant.not (b := (decide (a.Sense = b.Sense))) rfl rfl hg10_1) ?_
    refine VRunO.off (VWant.not (b := (decide (a.Sense = b.Sense))) rfl rfl hg10_1) ?_
    refine VRunO.off (VWant.not (b := (decide (a.Sense = b.Sense))) rfl rfl hg10_1) ?_
    refine VRunO.off (VWant.not (b := (decide (a.Sense = b.Sense))) rfl rfl hg10_1) ?_
    refine VRunO.free VWant.always (OF.pickF (VEv.tmpB (b := (decide (a.Sense = b.Sense))) rfl hg10_1) (VEv.bool false)) ?_
    refine VRunO.free VWant.always (OF.assign (VEv.tmp (t := (T.bool false)) rfl)) ?_
    refine VRunO.nil ?_
    refine vthn.n ?_
    refine VRun.ret ?_
    refine vfin.eq (r' := (T.bool false)) ?_ (vfin.r (VRes.tmp (t := (T.bool false)) rfl VRes.nil) (Give.bool _))
    show (T.bool false) = (T.bool (decide (a = b)))
    refine congrArg T.bool ?_
    obtain ⟨a1, a2⟩ := a
    obtain ⟨b1, b2⟩ := b
    simp_all
theorem W_spec_l21SameClue (n : Nat) (a : D.Clue) (b : D.Clue) (hza : zClue a ≤ mx) (hzb : zClue b ≤ mx) : Pure (acall Try.prog (n + 1)) 97 [(T.agg (eClue false a)), (T.agg (eClue false b))] (T.bool (decide (a = b))) := by
  refine Pure.intro (rs := [ResultVar.tmp 4]) Try.func97 rfl rfl rfl (E0 := [(0, (T.agg (eClue false a))), (1, (T.agg (eClue false b)))]) rfl ?_
  have hlim : lim = 1099511627776 := rfl
  have hmx : mx = 1048576 := rfl
  have hmax : maxLen = 9223372036854775807 := rfl
  simp only [zClue] at hza hzb
  have hla := zL_len (z := zStep) a.Play
  have hlb := zL_len (z := zStep) b.Play
  refine VRun.seq ?_
  refine VRun.region ?_
  refine VRunO.make VWant.always (B.box (ts := [(T.int .i64 a.Sense), (T.sl false 4 (a.Play.map (eStep false)))]) (VEv.tmp (t := (T.agg (eClue false a))) rfl) nofun rfl) ?_
  refine VRunO.make VWant.always (B.box (ts := [(T.int .i64 b.Sense), (T.sl false 4 (b.Play.map (eStep false)))]) (VEv.tmp (t := (T.agg (eClue false b))) rfl) nofun rfl) ?_
  refine VRunO.free VWant.always (OF.assign (VEv.bool false)) ?_
  refine VRunO.nil ?_
  refine vthn.n ?_
  refine VRun.seq ?_
  refine VRun.seq ?_
  refine VRun.region ?_
  refine VRunO.free VWant.always (OF.fieldAddrO (VEv.tmp (t := (T.op 0 0)) rfl) fa115_0) ?_
  refine VRunO.look VWant.always (OL.loadO1 (t := (T.int .i64 a.Sense)) (VEv.tmp (t := (T.op 0 0)) rfl) rfl rfl st3) ?_
  refine VRunO.free VWant.always (OF.fieldAddrO (VEv.tmp (t := (T.op 1 0)) rfl) fa115_0) ?_
  refine VRunO.look VWant.always (OL.loadO1 (t := (T.int .i64 b.Sense)) (VEv.tmp (t := (T.op 1 0)) rfl) rfl rfl st3) ?_
  refine VRunO.free VWant.always (B.neq (c := (!(decide (a.Sense = b.Sense)))) (VEv.tmp (t := (T.int .i64 a.Sense)) rfl) (VEv.tmp (t := (T.int .i64 b.Sense)) rfl) rfl) ?_
  refine VRunO.free VWant.always (OF.move (VEv.tmp (t := (T.bool (!(decide (a.Sense = b.Sense))))) rfl)) ?_
  refine bool_way (!(decide (a.Sense = b.Sense))) (fun hg11_1 => ?_) (fun hg11_1 => ?_)
  · have fhg11_1 : ¬ (a.Sense = b.Sense) := ndT hg11_1
    refine VRunO.off (VWant.not (b := (!(decide (a.Sense = b.Sense)))) rfl rfl hg11_1) ?_
    refine VRunO.off (VWant.not (b := (!(decide (a.Sense = b.Sense)))) rfl rfl hg11_1) ?_
    refine VRunO.off (VWant.not (b := (!(decide (a.Sense = b.Sense)))) rfl rfl hg11_1) ?_
    refine VRunO.off (VWant.not (b := (!(decide (a.Sense = b.Sense)))) rfl rfl hg11_1) ?_
    refine VRunO.off (VWant.not (b := (!(decide (a.Sense = b.Sense)))) rfl rfl hg11_1) ?_
    refine VRunO.off (VWant.not (b := (!(decide (a.Sense = b.Sense)))) rfl rfl hg11_1) ?_
    refine VRunO.off (VWant.not (b := (!(decide (a.Sense = b.Sense)))) rfl rfl hg11_1) ?_
    refine VRunO.free VWant.always (OF.pickT (VEv.tmpB (b := (!(decide (a.Sense = b.Sense)))) rfl hg11_1) (VEv.bool true)) ?_
    refine VRunO.nil ?_
    refine vthn.n ?_
    refine VRun.cond (VEv.tmp (t := (T.bool true)) rfl) (fun hk2 => ?_) (fun hk2 => ?_)
    · skip
      refine VRun.seq ?_
      refine VRun.region ?_
      refine VRunO.free VWant.always (OF.assign (VEv.bool false)) ?_
      refine VRunO.nil ?_
      refine vthn.n ?_
      refine VRun.ret ?_
      refine vthn.r ?_
      refine vfin.eq (r' := (T.bool false)) ?_ (vfin.r (VRes.tmp (t := (T.bool false)) rfl VRes.nil) (Give.bool _))
      show (T.bool false) = (T.bool (decide (a = b)))
      refine congrArg T.bool ?_
      first | (symm; rw [decide_eq_true_eq]; have h := agree_all hI' (by omega) fhc1; obtain ⟨a1, a2⟩ := a; obtain ⟨b1, b2⟩ := b; simp_all; done) | (symm; rw [decide_eq_false_iff_not]; rintro rfl; first | (exact fhc0 rfl) | (exact agree_not hx1 hx2 fhc2 rfl) | (simp_all; done))
    · exact absurd (rfl.symm.trans hk2) (by decide)
  · have fhg11_1 : a.Sense = b.Sense := ndF hg11_1
    refine VRunO.free (VWant.on (b := (!(decide (a.Sense = b.Sense)))) rfl rfl hg11_1) (OF.fieldAddrO (VEv.tmp (t := (T.op 0 0)) rfl) fa115_1) ?_
    refine VRunO.look (VWant.on (b := (!(decide (a.Sense = b.Sense)))) rfl rfl hg11_1) (OL.loadO1 (t := (T.sl false 4 (a.Play.map (eStep false)))) (VEv.tmp (t := (T.op 0 1)) rfl) rfl rfl st113) ?_
    refine VRunO.look (VWant.on (b := (!(decide (a.Sense = b.Sense)))) rfl rfl hg11_1) (B.lenR (m := a.Play.length) (VEv.tmp (t := (T.sl false 4 (a.Play.map (eStep false)))) rfl) Try.underlying113 (List.length_map ..)) ?_
    refine VRunO.free (VWant.on (b := (!(decide (a.Sense = b.Sense)))) rfl rfl hg11_1) (OF.fieldAddrO (VEv.tmp (t := (T.op 1 0)) rfl) fa115_1) ?_
    refine VRunO.look (VWant.on (b := (!(decide (a.Sense = b.Sense)))) rfl rfl hg11_1) (OL.loadO1 (t := (T.sl false 4 (b.Play.map (eStep false)))) (VEv.tmp (t := (T.op 1 1)) rfl) rfl rfl st113) ?_
    refine VRunO.look (VWant.on (b := (!(decide (a.Sense = b.Sense)))) rfl rfl hg11_1) (B.lenR (m := b.Play.length) (VEv.tmp (t := (T.sl false 4 (b.Play.map (eStep false)))) rfl) Try.underlying113 (List.length_map ..)) ?_
    refine VRunO.free (VWant.on (b := (!(decide (a.Sense = b.Sense)))) rfl rfl hg11_1) (B.neq (c := (!(decide (a.Play.length = b.Play.length)))) (VEv.tmp (t := (T.int .i64 ((a.Play.length : Nat) : Int))) rfl) (VEv.tmp (t := (T.int .i64 ((b.Play.length : Nat) : Int))) rfl) (by first | (exact decNn (by omega)))) ?_
    refine VRunO.free VWant.always (OF.pickF (VEv.tmpB (b := (!(decide (a.Sense = b.Sense)))) rfl hg11_1) (VEv.tmp (t := (T.bool (!(decide (a.Play.length = b.Play.length))))) rfl)) ?_
    refine VRunO.nil ?_
    refine vthn.n ?_
    refine VRun.cond (VEv.tmp (t := (T.bool (!(decide (a.Play.length = b.Play.length))))) rfl) (fun hc0 => ?_) (fun hc0 => ?_)
    · have fhc0 : ¬ (a.Play.length = b.Play.length) := ndT hc0
      refine VRun.seq ?_
      refine VRun.region ?_
      refine VRunO.free VWant.always (OF.assign (VEv.bool false)) ?_
      refine VRunO.nil ?_
      refine vthn.n ?_
      refine VRun.ret ?_
      refine vthn.r ?_
      refine vfin.eq (r' := (T.bool false)) ?_ (vfin.r (VRes.tmp (t := (T.bool false)) rfl VRes.nil) (Give.bool _))
      show (T.bool false) = (T.bool (decide (a = b)))
      refine congrArg T.bool ?_
      first | (symm; rw [decide_eq_true_eq]; have h := agree_all hI' (by omega) fhc1; obtain ⟨a1, a2⟩ := a; obtain ⟨b1, b2⟩ := b; simp_all; done) | (symm; rw [decide_eq_false_iff_not]; rintro rfl; first | (exact fhc0 rfl) | (exact agree_not hx1 hx2 fhc2 rfl) | (simp_all; done))
    · have fhc0 : a.Play.length = b.Play.length := ndF hc0
      refine VRun.skip ?_
      refine vthn.n ?_
      refine VRun.seq ?_
      refine VRun.seq ?_
      refine VRun.region ?_
      refine VRunO.free VWant.always (OF.assign (VEv.int .i64 0)) ?_
      refine VRunO.nil ?_
      refine vthn.n ?_
      refine VRun.block ?_
      refine VRun.loop (A := Nat) (fun s_ => [(2, (T.op 0 0)), (3, (T.op 1 0)), (5, (T.int .i64 ((s_ : Nat) : Int)))]) (fun s_ => mkO [(0, (Obj.cells [(T.int .i64 a.Sense), (T.sl false 4 (a.Play.map (eStep false)))])), (1, (Obj.cells [(T.int .i64 b.Sense), (T.sl false 4 (b.Play.map (eStep false)))]))]) 2 (fun s_ => s_ ≤ a.Play.length ∧ ∀ j, j < s_ → a.Play[j]? = b.Play[j]?) (fun s_ => a.Play.length - s_) (0 : Nat) ?_ (Wk.mk (fun k => k) ?_ ?_ ?_) ?_
      · first | trivial | (simp; done) | omega | (constructor <;> simp)
      · exact (ball_cons ⟨rfl, rfl⟩ (ball_cons ⟨rfl, rfl⟩ (ball_cons ⟨(congrArg (T.int .i64) (show 0 = ((0 : Nat) : Int) from (by first | rfl | omega | (simp; done) | (push_cast; omega)))), rfl⟩ (ball_nil))))
      · exact (ball_cons ⟨rfl, (Nat.le_of_ble_eq_true rfl), rfl⟩ (ball_cons ⟨rfl, (Nat.le_of_ble_eq_true rfl), rfl⟩ (ball_nil)))
      · show List.Nodup ([0, 1] : List Nat)
        decide
      · rintro i hI
        have hI' : i ≤ a.Play.length ∧ ∀ j, j < i → a.Play[j]? = b.Play[j]? := hI
        clear hI
        show VRun _ _ _ [(2, (T.op 0 0)), (3, (T.op 1 0)), (5, (T.int .i64 ((i : Nat) : Int)))] (mkO [(0, (Obj.cells [(T.int .i64 a.Sense), (T.sl false 4 (a.Play.map (eStep false)))])), (1, (Obj.cells [(T.int .i64 b.Sense), (T.sl false 4 (b.Play.map (eStep false)))]))]) 2 _
        refine VRun.seq ?_
        refine VRun.seq ?_
        refine VRun.region ?_
        refine VRunO.free VWant.always (OF.move (VEv.tmp (t := (T.int .i64 ((i : Nat) : Int))) rfl)) ?_
        refine VRunO.free VWant.always (OF.fieldAddrO (VEv.tmp (t := (T.op 0 0)) rfl) fa115_1) ?_
        refine VRunO.look VWant.always (OL.loadO1 (t := (T.sl false 4 (a.Play.map (eStep false)))) (VEv.tmp (t := (T.op 0 1)) rfl) rfl rfl st113) ?_
        refine VRunO.look VWant.always (B.lenR (m := a.Play.length) (VEv.tmp (t := (T.sl false 4 (a.Play.map (eStep false)))) rfl) Try.underlying113 (List.length_map ..)) ?_
        refine VRunO.free VWant.always (B.lss (c := (decide (i < a.Play.length))) (VEv.tmp (t := (T.int .i64 ((i : Nat) : Int))) rfl) (VEv.tmp (t := (T.int .i64 ((a.Play.length : Nat) : Int))) rfl) (by first | (exact decN (by omega)))) ?_
        refine VRunO.nil ?_
        refine vthn.n ?_
        refine VRun.cond (VEv.tmp (t := (T.bool (decide (i < a.Play.length)))) rfl) (fun hc1 => ?_) (fun hc1 => ?_)
        · have fhc1 : i < a.Play.length := of_decide_eq_true hc1
          refine VRun.skip ?_
          refine vthn.n ?_
          refine VRun.seq ?_
          refine VRun.block ?_
          refine VRun.seq ?_
          refine VRun.draw (B := [[], [0], [], [2, 0, 1], [1, 0, 2, 3], [], [5], [], [7, 5, 6], [6, 5, 7, 8], [8, 7, 5, 6, 9, 3, 2, 0, 1, 4]]) (by kernel_rfl) (by kernel_rfl) ?_
          refine VRunD.free rfl VWant.always rfl (OF.fieldAddrO (VEv.tmp (t := (T.op 0 0)) rfl) fa115_1) ?_
          refine VRunD.look rfl VWant.always rfl (OL.loadO1 (t := (T.sl false 4 (a.Play.map (eStep false)))) (VEv.tmp (t := (T.op 0 1)) rfl) rfl rfl st113) ?_
          refine VRunD.free rfl VWant.always rfl (OF.move (VEv.tmp (t := (T.int .i64 ((i : Nat) : Int))) rfl)) ?_
          obtain ⟨x1, hx1⟩ : ∃ x, a.Play[i]? = some x := ⟨_, List.getElem?_eq_getElem (by first | omega | (simp only [List.length_map]; omega) | (simp only [List.length_map, List.length_append, List.length_cons, List.length_nil, List.length_replicate, List.length_set, List.length_drop, List.length_take, lim] at *; omega))⟩
          refine VRunD.free rfl VWant.always rfl (OF.indexAddrR (row := (eStep false x1)) (i := i) (VEv.tmp (t := (T.sl false 4 (a.Play.map (eStep false)))) rfl) (VEv.tmp (t := (T.int .i64 ((i : Nat) : Int))) rfl) rfl (map_at _ hx1) Try.underlying113 sz166 if166) ?_
          refine VRunD.look rfl VWant.always rfl (OL.loadRn (us := (eStep false x1)) (VEv.tmp (t := (T.rp [(T.int .i64 x1.Kind), (T.str x1.Word), (T.int .i64 x1.A), (T.int .i64 x1.B)])) rfl) st166 sz166 (Nat.le_of_ble_eq_true rfl) rfl) ?_
          refine VRunD.free rfl VWant.always rfl (OF.fieldAddrO (VEv.tmp (t := (T.op 1 0)) rfl) fa115_1) ?_
          refine VRunD.look rfl VWant.always rfl (OL.loadO1 (t := (T.sl false 4 (b.Play.map (eStep false)))) (VEv.tmp (t := (T.op 1 1)) rfl) rfl rfl st113) ?_
          refine VRunD.free rfl VWant.always rfl (OF.move (VEv.tmp (t := (T.int .i64 ((i : Nat) : Int))) rfl)) ?_
          obtain ⟨x2, hx2⟩ : ∃ x, b.Play[i]? = some x := ⟨_, List.getElem?_eq_getElem (by first | omega | (simp only [List.length_map]; omega) | (simp only [List.length_map, List.length_append, List.length_cons, List.length_nil, List.length_replicate, List.length_set, List.length_drop, List.length_take, lim] at *; omega))⟩
          refine VRunD.free rfl VWant.always rfl (OF.indexAddrR (row := (eStep false x2)) (i := i) (VEv.tmp (t := (T.sl false 4 (b.Play.map (eStep false)))) rfl) (VEv.tmp (t := (T.int .i64 ((i : Nat) : Int))) rfl) rfl (map_at _ hx2) Try.underlying113 sz166 if166) ?_
          refine VRunD.look rfl VWant.always rfl (OL.loadRn (us := (eStep false x2)) (VEv.tmp (t := (T.rp [(T.int .i64 x2.Kind), (T.str x2.Word), (T.int .i64 x2.A), (T.int .i64 x2.B)])) rfl) st166 sz166 (Nat.le_of_ble_eq_true rfl) rfl) ?_
          refine VRunD.free rfl VWant.always rfl (B.neq166 (a := x1) (b := x2) (m := false) (m' := false) (VEv.tmp (t := (T.agg (eStep false x1))) rfl) (VEv.tmp (t := (T.agg (eStep false x2))) rfl)) ?_
          refine VRunD.nil ?_
          refine vthn.n ?_
          refine VRun.cond (VEv.tmp (t := (T.bool (!(decide (x1 = x2))))) rfl) (fun hc2 => ?_) (fun hc2 => ?_)
          · have fhc2 : ¬ (x1 = x2) := ndT hc2
            refine VRun.seq ?_
            refine VRun.region ?_
            refine VRunO.free VWant.always (OF.assign (VEv.bool false)) ?_
            refine VRunO.nil ?_
            refine vthn.n ?_
            refine VRun.ret ?_
            refine vinB.r ?_
            refine vthn.r ?_
            refine vthn.r ?_
            refine vinB.r ?_
            refine vthn.r ?_
            refine vfin.eq (r' := (T.bool false)) ?_ (vfin.r (VRes.tmp (t := (T.bool false)) rfl VRes.nil) (Give.bool _))
            show (T.bool false) = (T.bool (decide (a = b)))
            refine congrArg T.bool ?_
            first | (symm; rw [decide_eq_true_eq]; have h := agree_all hI' (by omega) fhc1; obtain ⟨a1, a2⟩ := a; obtain ⟨b1, b2⟩ := b; simp_all; done) | (symm; rw [decide_eq_false_iff_not]; rintro rfl; first | (exact fhc0 rfl) | (exact agree_not hx1 hx2 fhc2 rfl) | (simp_all; done))
          · have fhc2 : x1 = x2 := ndF hc2
            refine VRun.skip ?_
            refine vinB.n ?_
            refine vthn.n ?_
            refine VRun.region ?_
            refine VRunO.free VWant.always (OF.move (VEv.tmp (t := (T.int .i64 ((i : Nat) : Int))) rfl)) ?_
            refine VRunO.free VWant.always (B.add (n := (((i + 1) : Nat) : Int)) (VEv.tmp (t := (T.int .i64 ((i : Nat) : Int))) rfl) (VEv.int .i64 1) (by first | rfl | (rw [wrap64 (by omega)]; done) | (rw [wrap64 (by omega)]; omega) | (rw [wrap64 (by omega)]; push_cast; omega) | omega)) ?_
            refine VRunO.free VWant.always (OF.assign (VEv.tmp (t := (T.int .i64 (((i + 1) : Nat) : Int))) rfl)) ?_
            refine VRunO.nil ?_
            refine vthn.n ?_
            refine ⟨(i + 1 : Nat), ?_, ?_, Wk.mk (fun k => k) ?_ ?_ ?_⟩
            · exact agree_next hI' hx1 hx2 fhc2
            · first | omega | (simp only []; omega) | (show _ < _; omega) | (simp; omega)
            · exact (ball_cons ⟨rfl, rfl⟩ (ball_cons ⟨rfl, rfl⟩ (ball_cons ⟨rfl, rfl⟩ (ball_nil))))
            · exact (ball_cons ⟨rfl, (Nat.le_of_ble_eq_true rfl), rfl⟩ (ball_cons ⟨rfl, (Nat.le_of_ble_eq_true rfl), rfl⟩ (ball_nil)))
            · show List.Nodup ([0, 1] : List Nat)
              decide
        · have fhc1 : ¬ (i < a.Play.length) := of_decide_eq_false hc1
          refine VRun.exit ?_
          refine vthn.e ?_
          refine vthn.e ?_
          refine vinB.e ?_
          refine vthn.n ?_
          refine VRun.seq ?_
          refine VRun.region ?_
          refine VRunO.free VWant.always (OF.assign (VEv.bool true)) ?_
          refine VRunO.nil ?_
          refine vthn.n ?_
          refine VRun.ret ?_
          refine vfin.eq (r' := (T.bool true)) ?_ (vfin.r (VRes.tmp (t := (T.bool true)) rfl VRes.nil) (Give.bool _))
          show (T.bool true) = (T.bool (decide (a = b)))
          refine congrArg T.bool ?_
          first | (symm; rw [decide_eq_true_eq]; have h := agree_all hI' (by omega) fhc1; obtain ⟨a1, a2⟩ := a; obtain ⟨b1, b2⟩ := b; simp_all; done) | (symm; rw [decide_eq_false_iff_not]; rintro rfl; first | (exact fhc0 rfl) | (exact agree_not hx1 hx2 fhc2 rfl) | (simp_all; done))
theorem W_slices_EqualFunc_impl_Clue_impl_Clue_impl_Clue_impl_Clue_impl_sameClue (n : Nat) (a : List D.Clue) (b : List D.Clue) (hza : zL zClue a ≤ mx) (hzb : zL zClue b ≤ mx) : Pure (acall Try.prog (n + 3)) 100 [(T.sl false 2 (a.map (eClue false))), (T.sl false 2 (b.map (eClue false))), (T.fn 101 [])] (T.bool (decide (a = b))) := by
  refine Pure.intro (rs := [ResultVar.tmp 6]) Try.func100 rfl rfl rfl (E0 := [(0, (T.sl false 2 (a.map (eClue false)))), (1, (T.sl false 2 (b.map (eClue false)))), (2, (T.fn 101 []))]) rfl ?_
  have hlim : lim = 1099511627776 := rfl
  have hmx : mx = 1048576 := rfl
  have hmax : maxLen = 9223372036854775807 := rfl
  have hla := zL_len (z := zClue) a
  have hlb := zL_len (z := zClue) b
  refine VRun.seq ?_
  refine VRun.region ?_
  refine VRunO.free VWant.always (OF.assign (VEv.bool false)) ?_
  refine VRunO.nil ?_
  refine vthn.n ?_
  refine VRun.seq ?_
  refine VRun.seq ?_
  refine VRun.region ?_
  refine VRunO.free VWant.always (OF.move (VEv.tmp (t := (T.sl false 2 (a.map (eClue false)))) rfl)) ?_
  refine VRunO.look VWant.always (B.lenR (m := a.length) (VEv.tmp (t := (T.sl false 2 (a.map (eClue false)))) rfl) Try.underlying60 (List.length_map ..)) ?_
  refine VRunO.free VWant.always (OF.move (VEv.tmp (t := (T.sl false 2 (b.map (eClue false)))) rfl)) ?_
  refine VRunO.look VWant.always (B.lenR (m := b.length) (VEv.tmp (t := (T.sl false 2 (b.map (eClue false)))) rfl) Try.underlying60 (List.length_map ..)) ?_
  refine VRunO.free VWant.always (B.neq (c := (!(decide (a.length = b.length)))) (VEv.tmp (t := (T.int .i64 ((a.length : Nat) : Int))) rfl) (VEv.tmp (t := (T.int .i64 ((b.length : Nat) : Int))) rfl) (by first | exact Nat.le_trans (zL_at hx1) hza | exact Nat.le_trans (zL_at hx2) hzb | (exact decNn (by omega)))) ?_
  refine VRunO.nil ?_
  refine vthn.n ?_
  refine VRun.cond (VEv.tmp (t := (T.bool (!(decide (a.length = b.length))))) rfl) (fun hc0 => ?_) (fun hc0 => ?_)
  · have fhc0 : ¬ (a.length = b.length) := ndT hc0
    refine VRun.seq ?_
    refine VRun.region ?_
    refine VRunO.free VWant.always (OF.assign (VEv.bool false)) ?_
    refine VRunO.nil ?_
    refine vthn.n ?_
    refine VRun.ret ?_
    refine vthn.r ?_
    refine vfin.eq (r' := (T.bool false)) ?_ (vfin.r (VRes.tmp (t := (T.bool false)) rfl VRes.nil) (Give.bool _))
    show (T.bool false) = (T.bool (decide (a = b)))
    refine congrArg T.bool ?_
    symm; rw [decide_eq_false_iff_not]; rintro rfl; exact fhc0 rfl
  · have fhc0 : a.length = b.length := ndF hc0
    refine VRun.skip ?_
    refine vthn.n ?_
    refine VRun.seq ?_
    refine VRun.seq ?_
    refine VRun.region ?_
    refine VRunO.free VWant.always (OF.move (VEv.tmp (t := (T.sl false 2 (a.map (eClue false)))) rfl)) ?_
    refine VRunO.look VWant.always (B.lenR (m := a.length) (VEv.tmp (t := (T.sl false 2 (a.map (eClue false)))) rfl) Try.underlying60 (List.length_map ..)) ?_
    refine VRunO.free VWant.always (OF.move (VEv.int .i64 0)) ?_
    refine VRunO.nil ?_
    refine vthn.n ?_
    refine VRun.block ?_
    refine VRun.loop (A := Nat) (fun s_ => [(1, (T.sl false 2 (b.map (eClue false)))), (2, (T.fn 101 [])), (15, (T.sl false 2 (a.map (eClue false)))), (16, (T.int .i64 ((a.length : Nat) : Int))), (17, (T.int .i64 ((s_ : Nat) : Int)))]) (fun s_ => mkO []) 0 (fun s_ => s_ ≤ a.length ∧ ∀ j, j < s_ → a[j]? = b[j]?) (fun s_ => a.length - s_) (0 : Nat) ?_ (Wk.mk (fun k => k) ?_ ?_ ?_) ?_
    · first | trivial | (simp; done) | omega | (constructor <;> simp)
    · exact (ball_cons ⟨rfl, rfl⟩ (ball_cons ⟨rfl, rfl⟩ (ball_cons ⟨rfl, rfl⟩ (ball_cons ⟨rfl, rfl⟩ (ball_cons ⟨(congrArg (T.int .i64) (show 0 = ((0 : Nat) : Int) from (by first | rfl | omega | (simp; done) | (push_cast; omega)))), rfl⟩ (ball_nil))))))
    · exact (ball_nil)
    · show List.Nodup ([] : List Nat)
      decide
    · rintro i hI
      have hI' : i ≤ a.length ∧ ∀ j, j < i → a[j]? = b[j]? := hI
      clear hI
      show VRun _ _ _ [(1, (T.sl false 2 (b.map (eClue false)))), (2, (T.fn 101 [])), (15, (T.sl false 2 (a.map (eClue false)))), (16, (T.int .i64 ((a.length : Nat) : Int))), (17, (T.int .i64 ((i : Nat) : Int)))] (mkO []) 0 _
      refine VRun.seq ?_
      refine VRun.region ?_
      refine VRunO.free VWant.always (B.lss (c := (decide (i < a.length))) (VEv.tmp (t := (T.int .i64 ((i : Nat) : Int))) rfl) (VEv.tmp (t := (T.int .i64 ((a.length : Nat) : Int))) rfl) (by first | exact Nat.le_trans (zL_at hx1) hza | exact Nat.le_trans (zL_at hx2) hzb | (exact decN (by omega)))) ?_
      refine VRunO.nil ?_
      refine vthn.n ?_
      refine VRun.seq ?_
      refine VRun.cond (VEv.tmp (t := (T.bool (decide (i < a.length)))) rfl) (fun hc1 => ?_) (fun hc1 => ?_)
      · have fhc1 : i < a.length := of_decide_eq_true hc1
        refine VRun.skip ?_
        refine vthn.n ?_
        refine VRun.seq ?_
        refine VRun.block ?_
        refine VRun.seq ?_
        refine VRun.region ?_
        refine VRunO.free VWant.always (OF.move (VEv.tmp (t := (T.int .i64 ((i : Nat) : Int))) rfl)) ?_
        obtain ⟨x1, hx1⟩ : ∃ x, a[i]? = some x := ⟨_, List.getElem?_eq_getElem (by first | exact Nat.le_trans (zL_at hx1) hza | exact Nat.le_trans (zL_at hx2) hzb | omega | (simp only [List.length_map]; omega) | (simp only [List.length_map, List.length_append, List.length_cons, List.length_nil, List.length_replicate, List.length_set, List.length_drop, List.length_take, lim] at *; omega))⟩
        refine VRunO.free VWant.always (OF.indexAddrR (row := (eClue false x1)) (i := i) (VEv.tmp (t := (T.sl false 2 (a.map (eClue false)))) rfl) (VEv.tmp (t := (T.int .i64 ((i : Nat) : Int))) rfl) rfl (map_at _ hx1) Try.underlying60 sz115 if115) ?_
        refine VRunO.look VWant.always (OL.loadRn (us := (eClue false x1)) (VEv.tmp (t := (T.rp [(T.int .i64 x1.Sense), (T.sl false 4 (x1.Play.map (eStep false)))])) rfl) st115 sz115 (Nat.le_of_ble_eq_true rfl) rfl) ?_
        refine VRunO.make VWant.always (B.alloc (t := (T.agg [(T.int .i64 0), T.nils])) (ts := [(T.int .i64 0), T.nils]) zo115 zc115 nofun (fun _ => .agg _ _ rfl (RLof (RL.cons (.int _ _) (RL.cons (.nils) (RL.nil _))))) rfl) ?_
        refine VRunO.free VWant.always (OF.assign (VEv.tmp (t := (T.int .i64 ((i : Nat) : Int))) rfl)) ?_
        refine VRunO.chain VWant.always (B.storeO (us := [(T.int .i64 x1.Sense), (T.sl false 4 (x1.Play.map (eStep false)))]) (ws := [(T.int .i64 x1.Sense), (T.sl false 4 (x1.Play.map (eStep false)))]) (VEv.tmp (t := (T.op 0 0)) rfl) (VEv.tmp (t := (T.agg (eClue false x1))) rfl) nofun rfl rfl (Nat.le_of_ble_eq_true rfl) if115 sz115 (ball_cons rfl (ball_cons rfl (ball_nil))) rfl) ?_
        refine VRunO.nil ?_
        refine vthn.n ?_
        refine VRun.seq ?_
        refine VRun.region ?_
        refine VRunO.free VWant.always (OF.move (VEv.tmp (t := (T.sl false 2 (b.map (eClue false)))) rfl)) ?_
        refine VRunO.free VWant.always (OF.move (VEv.tmp (t := (T.int .i64 ((i : Nat) : Int))) rfl)) ?_
        obtain ⟨x2, hx2⟩ : ∃ x, b[i]? = some x := ⟨_, List.getElem?_eq_getElem (by first | exact Nat.le_trans (zL_at hx1) hza | exact Nat.le_trans (zL_at hx2) hzb | omega | (simp only [List.length_map]; omega) | (simp only [List.length_map, List.length_append, List.length_cons, List.length_nil, List.length_replicate, List.length_set, List.length_drop, List.length_take, lim] at *; omega))⟩
        refine VRunO.free VWant.always (OF.indexAddrR (row := (eClue false x2)) (i := i) (VEv.tmp (t := (T.sl false 2 (b.map (eClue false)))) rfl) (VEv.tmp (t := (T.int .i64 ((i : Nat) : Int))) rfl) rfl (map_at _ hx2) Try.underlying60 sz115 if115) ?_
        refine VRunO.look VWant.always (OL.loadRn (us := (eClue false x2)) (VEv.tmp (t := (T.rp [(T.int .i64 x2.Sense), (T.sl false 4 (x2.Play.map (eStep false)))])) rfl) st115 sz115 (Nat.le_of_ble_eq_true rfl) rfl) ?_
        refine VRunO.make VWant.always (B.alloc (t := (T.agg [(T.int .i64 0), T.nils])) (ts := [(T.int .i64 0), T.nils]) zo115 zc115 nofun (fun _ => .agg _ _ rfl (RLof (RL.cons (.int _ _) (RL.cons (.nils) (RL.nil _))))) rfl) ?_
        refine VRunO.chain VWant.always (B.storeO (us := [(T.int .i64 x2.Sense), (T.sl false 4 (x2.Play.map (eStep false)))]) (ws := [(T.int .i64 x2.Sense), (T.sl false 4 (x2.Play.map (eStep false)))]) (VEv.tmp (t := (T.op 1 0)) rfl) (VEv.tmp (t := (T.agg (eClue false x2))) rfl) nofun rfl rfl (Nat.le_of_ble_eq_true rfl) if115 sz115 (ball_cons rfl (ball_cons rfl (ball_nil))) rfl) ?_
        refine VRunO.nil ?_
        refine vthn.n ?_
        refine VRun.seq ?_
        refine VRun.region ?_
        refine VRunO.free VWant.always (OF.move (VEv.tmp (t := (T.fn 101 [])) rfl)) ?_
        refine VRunO.look VWant.always (OL.loadOn (us := (eClue false x1)) (VEv.tmp (t := (T.op 0 0)) rfl) rfl st115 sz115 (Nat.le_of_ble_eq_true rfl) rfl) ?_
        refine VRunO.look VWant.always (OL.loadOn (us := (eClue false x2)) (VEv.tmp (t := (T.op 1 0)) rfl) rfl st115 sz115 (Nat.le_of_ble_eq_true rfl) rfl) ?_
        refine VRunO.chain VWant.always (OC.callv (us := [(T.agg (eClue false x1)), (T.agg (eClue false x2))]) (ucaps := []) (r := (T.bool (decide (x1 = x2)))) (r' := (T.bool (decide (x1 = x2)))) (objs := []) rfl rfl (VEvs.cons (VEv.tmp (t := (T.agg (eClue false x1))) rfl) (VEvs.cons (VEv.tmp (t := (T.agg (eClue false x2))) rfl) VEvs.nil)) (LendL.cons (Lend.agg (LendL.cons (Lend.pl rfl) (LendL.cons (Lend.pl rfl) (LendL.nil)))) (LendL.cons (Lend.agg (LendL.cons (Lend.pl rfl) (LendL.cons (Lend.pl rfl) (LendL.nil)))) (LendL.nil))) (LendL.nil) (W_impl_sameClue (n + 0) x1 x2 (by first | exact Nat.le_trans (zL_at hx1) hza | exact Nat.le_trans (zL_at hx2) hzb | assumption | omega | (simp only [List.length_map]; omega) | (simp only [List.length_map, List.length_append, List.length_cons, List.length_nil, List.length_replicate, List.length_set, List.length_drop, List.length_take, lim] at *; omega)) (by first | exact Nat.le_trans (zL_at hx1) hza | exact Nat.le_trans (zL_at hx2) hzb | assumption | omega | (simp only [List.length_map]; omega) | (simp only [List.length_map, List.length_append, List.length_cons, List.length_nil, List.length_replicate, List.length_set, List.length_drop, List.length_take, lim] at *; omega))) rfl) ?_
        refine VRunO.free VWant.always (B.not (c := (!(decide (x1 = x2)))) (VEv.tmp (t := (T.bool (decide (x1 = x2)))) rfl) rfl) ?_
        refine VRunO.nil ?_
        refine vthn.n ?_
        refine VRun.cond (VEv.tmp (t := (T.bool (!(decide (x1 = x2))))) rfl) (fun hc2 => ?_) (fun hc2 => ?_)
        · have fhc2 : ¬ (x1 = x2) := ndT hc2
          refine VRun.seq ?_
          refine VRun.region ?_
          refine VRunO.free VWant.always (OF.assign (VEv.bool false)) ?_
          refine VRunO.nil ?_
          refine vthn.n ?_
          refine VRun.ret ?_
          refine vinB.r ?_
          refine vthn.r ?_
          refine vthn.r ?_
          refine vinB.r ?_
          refine vthn.r ?_
          refine vfin.eq (r' := (T.bool false)) ?_ (vfin.r (VRes.tmp (t := (T.bool false)) rfl VRes.nil) (Give.bool _))
          show (T.bool false) = (T.bool (decide (a = b)))
          refine congrArg T.bool ?_
          symm; rw [decide_eq_false_iff_not]; exact agree_not hx1 hx2 fhc2
        · have fhc2 : x1 = x2 := ndF hc2
          refine VRun.skip ?_
          refine vinB.n ?_
          refine vthn.n ?_
          refine VRun.region ?_
          refine VRunO.free VWant.always (B.add (n := (((i + 1) : Nat) : Int)) (VEv.tmp (t := (T.int .i64 ((i : Nat) : Int))) rfl) (VEv.int .i64 1) (by first | exact Nat.le_trans (zL_at hx1) hza | exact Nat.le_trans (zL_at hx2) hzb | rfl | (rw [wrap64 (by omega)]; done) | (rw [wrap64 (by omega)]; omega) | (rw [wrap64 (by omega)]; push_cast; omega) | omega)) ?_
          refine VRunO.free VWant.always (OF.move (VEv.tmp (t := (T.int .i64 (((i + 1) : Nat) : Int))) rfl)) ?_
          refine VRunO.nil ?_
          refine vthn.n ?_
          refine ⟨(i + 1 : Nat), ?_, ?_, Wk.mk (fun k => k) ?_ ?_ ?_⟩
          · exact agree_next hI' hx1 hx2 fhc2
          · first | omega | (simp only []; omega) | (show _ < _; omega) | (simp; omega)
          · exact (ball_cons ⟨rfl, rfl⟩ (ball_cons ⟨rfl, rfl⟩ (ball_cons ⟨rfl, rfl⟩ (ball_cons ⟨rfl, rfl⟩ (ball_cons ⟨rfl, rfl⟩ (ball_nil))))))
          · exact (ball_nil)
          · show List.Nodup ([] : List Nat)
            decide
      · have fhc1 : ¬ (i < a.length) := of_decide_eq_false hc1
        refine VRun.exit ?_
        refine vthn.e ?_
        refine vthn.e ?_
        refine vinB.e ?_
        refine vthn.n ?_
        refine VRun.seq ?_
        refine VRun.region ?_
        refine VRunO.free VWant.always (OF.assign (VEv.bool true)) ?_
        refine VRunO.nil ?_
        refine vthn.n ?_
        refine VRun.ret ?_
        refine vfin.eq (r' := (T.bool true)) ?_ (vfin.r (VRes.tmp (t := (T.bool true)) rfl VRes.nil) (Give.bool _))
        show (T.bool true) = (T.bool (decide (a = b)))
        refine congrArg T.bool ?_
        symm; rw [decide_eq_true_eq]; exact agree_all hI' fhc0 fhc1
theorem W_impl_EqualPuzzles (n : Nat) (a : D.Puzzle) (b : D.Puzzle) (hza : zPuzzle a ≤ mx) (hzb : zPuzzle b ≤ mx) : Pure (acall Try.prog (n + 4)) 110 [(T.agg (ePuzzle false a)), (T.agg (ePuzzle false b))] (T.bool (decide (a = b))) := by
  refine Pure.intro (rs := [ResultVar.tmp 4]) Try.func110 rfl rfl rfl (E0 := [(0, (T.agg (ePuzzle false a))), (1, (T.agg (ePuzzle false b)))]) rfl ?_
  have hlim : lim = 1099511627776 := rfl
  have hmx : mx = 1048576 := rfl
  have hmax : maxLen = 9223372036854775807 := rfl
  simp only [zPuzzle] at hza hzb
  have hla := zL_len (z := zI) a.Seals
  have hlb := zL_len (z := zI) b.Seals
  refine VRun.seq ?_
  refine VRun.region ?_
  refine VRunO.make VWant.always (B.box (ts := [(T.int .i64 a.Grid.Rows), (T.int .i64 a.Grid.Cols), (T.str a.Grid.Cells), (T.sl false 2 (a.Clues.map (eClue false))), (T.sl false 1 (a.Seals.map (eInt false))), (T.int .i64 a.Salt)]) (VEv.tmp (t := (T.agg (ePuzzle false a))) rfl) nofun rfl) ?_
  refine VRunO.make VWant.always (B.box (ts := [(T.int .i64 b.Grid.Rows), (T.int .i64 b.Grid.Cols), (T.str b.Grid.Cells), (T.sl false 2 (b.Clues.map (eClue false))), (T.sl false 1 (b.Seals.map (eInt false))), (T.int .i64 b.Salt)]) (VEv.tmp (t := (T.agg (ePuzzle false b))) rfl) nofun rfl) ?_
  refine VRunO.free VWant.always (OF.assign (VEv.bool false)) ?_
  refine VRunO.nil ?_
  refine vthn.n ?_
  refine VRun.seq ?_
  refine VRun.region ?_
  refine VRunO.free VWant.always (OF.fieldAddrO (VEv.tmp (t := (T.op 0 0)) rfl) fa80_0) ?_
  refine VRunO.look VWant.always (OL.loadOn (us := (eGrid false a.Grid)) (VEv.tmp (t := (T.op 0 0)) rfl) rfl st59 sz59 (Nat.le_of_ble_eq_true rfl) rfl) ?_
  refine VRunO.free VWant.always (OF.fieldAddrO (VEv.tmp (t := (T.op 1 0)) rfl) fa80_0) ?_
  refine VRunO.look VWant.always (OL.loadOn (us := (eGrid false b.Grid)) (VEv.tmp (t := (T.op 1 0)) rfl) rfl st59 sz59 (Nat.le_of_ble_eq_true rfl) rfl) ?_
  refine VRunO.free VWant.always (B.eql59 (a := a.Grid) (b := b.Grid) (m := false) (m' := false) (VEv.tmp (t := (T.agg (eGrid false a.Grid))) rfl) (VEv.tmp (t := (T.agg (eGrid false b.Grid))) rfl)) ?_
  refine VRunO.free VWant.always (OF.move (VEv.tmp (t := (T.bool (decide (a.Grid = b.Grid)))) rfl)) ?_
  refine bool_way (decide (a.Grid = b.Grid)) (fun hg10_1 => ?_) (fun hg10_1 => ?_)
  · have fhg10_1 : a.Grid = b.Grid := of_decide_eq_true hg10_1
    refine VRunO.free (VWant.on (b := (decide (a.Grid = b.Grid))) rfl rfl hg10_1) (OF.fieldAddrO (VEv.tmp (t := (T.op 0 0)) rfl) fa80_1) ?_
    refine VRunO.look (VWant.on (b := (decide (a.Grid = b.Grid))) rfl rfl hg10_1) (OL.loadO1 (t := (T.sl false 2 (a.Clues.map (eClue false)))) (VEv.tmp (t := (T.op 0 3)) rfl) rfl rfl st60) ?_
    refine VRunO.free (VWant.on (b := (decide (a.Grid = b.Grid))) rfl rfl hg10_1) (OF.fieldAddrO (VEv.tmp (t := (T.op 1 0)) rfl) fa80_1) ?_
    refine VRunO.look (VWant.on (b := (decide (a.Grid = b.Grid))) rfl rfl hg10_1) (OL.loadO1 (t := (T.sl false 2 (b.Clues.map (eClue false)))) (VEv.tmp (t := (T.op 1 3)) rfl) rfl rfl st60) ?_
    refine VRunO.chain (VWant.on (b := (decide (a.Grid = b.Grid))) rfl rfl hg10_1) (OC.callF (us := [(T.sl false 2 (a.Clues.map (eClue false))), (T.sl false 2 (b.Clues.map (eClue false))), (T.fn 101 [])]) (r := (T.bool (decide (a.Clues = b.Clues)))) (r' := (T.bool (decide (a.Clues = b.Clues)))) (objs := []) rfl (VEvs.cons (VEv.tmp (t := (T.sl false 2 (a.Clues.map (eClue false)))) rfl) (VEvs.cons (VEv.tmp (t := (T.sl false 2 (b.Clues.map (eClue false)))) rfl) (VEvs.cons (VEv.func 101) VEvs.nil))) (LendL.cons (Lend.pl rfl) (LendL.cons (Lend.pl rfl) (LendL.cons (Lend.fn (LendL.nil)) (LendL.nil)))) (W_slices_EqualFunc_impl_Clue_impl_Clue_impl_Clue_impl_Clue_impl_sameClue (n + 0) a.Clues b.Clues (by first | assumption | omega | (simp only [List.length_map]; omega) | (simp only [List.length_map, List.length_append, List.length_cons, List.length_nil, List.length_replicate, List.length_set, List.length_drop, List.length_take, lim] at *; omega)) (by first | assumption | omega | (simp only [List.length_map]; omega) | (simp only [List.length_map, List.length_append, List.length_cons, List.length_nil, List.length_replicate, List.length_set, List.length_drop, List.length_take, lim] at *; omega))) rfl) ?_
    refine VRunO.free VWant.always (OF.pickT (VEv.tmpB (b := (decide (a.Grid = b.Grid))) rfl hg10_1) (VEv.tmp (t := (T.bool (decide (a.Clues = b.Clues)))) rfl)) ?_
    refine VRunO.free VWant.always (OF.move (VEv.tmp (t := (T.bool (decide (a.Clues = b.Clues)))) rfl)) ?_
    refine bool_way (decide (a.Clues = b.Clues)) (fun hg17_2 => ?_) (fun hg17_2 => ?_)
    · have fhg17_2 : a.Clues = b.Clues := of_decide_eq_true hg17_2
      refine VRunO.free (VWant.on (b := (decide (a.Clues = b.Clues))) rfl rfl hg17_2) (OF.fieldAddrO (VEv.tmp (t := (T.op 0 0)) rfl) fa80_2) ?_
      refine VRunO.look (VWant.on (b := (decide (a.Clues = b.Clues))) rfl rfl hg17_2) (OL.loadO1 (t := (T.sl false 1 (a.Seals.map (eInt false)))) (VEv.tmp (t := (T.op 0 4)) rfl) rfl rfl st72) ?_
      refine VRunO.free (VWant.on (b := (decide (a.Clues = b.Clues))) rfl rfl hg17_2) (OF.fieldAddrO (VEv.tmp (t := (T.op 1 0)) rfl) fa80_2) ?_
      refine VRunO.look (VWant.on (b := (decide (a.Clues = b.Clues))) rfl rfl hg17_2) (OL.loadO1 (t := (T.sl false 1 (b.Seals.map (eInt false)))) (VEv.tmp (t := (T.op 1 4)) rfl) rfl rfl st72) ?_
      refine VRunO.chain (VWant.on (b := (decide (a.Clues = b.Clues))) rfl rfl hg17_2) (OC.callF (us := [(T.sl false 1 (a.Seals.map (eInt false))), (T.sl false 1 (b.Seals.map (eInt false)))]) (r := (T.bool (decide (a.Seals = b.Seals)))) (r' := (T.bool (decide (a.Seals = b.Seals)))) (objs := []) rfl (VEvs.cons (VEv.tmp (t := (T.sl false 1 (a.Seals.map (eInt false)))) rfl) (VEvs.cons (VEv.tmp (t := (T.sl false 1 (b.Seals.map (eInt false)))) rfl) VEvs.nil)) (LendL.cons (Lend.pl rfl) (LendL.cons (Lend.pl rfl) (LendL.nil))) (W_slices_Equal_int_int_ (n + 2) a.Seals b.Seals (by first | assumption | omega | (simp only [List.length_map]; omega) | (simp only [List.length_map, List.length_append, List.length_cons, List.length_nil, List.length_replicate, List.length_set, List.length_drop, List.length_take, lim] at *; omega)) (by first | assumption | omega | (simp only [List.length_map]; omega) | (simp only [List.length_map, List.length_append, List.length_cons, List.length_nil, List.length_replicate, List.length_set, List.length_drop, List.length_take, lim] at *; omega))) rfl) ?_
      refine VRunO.free VWant.always (OF.pickT (VEv.tmpB (b := (decide (a.Clues = b.Clues))) rfl hg17_2) (VEv.tmp (t := (T.bool (decide (a.Seals = b.Seals)))) rfl)) ?_
      refine VRunO.free VWant.always (OF.move (VEv.tmp (t := (T.bool (decide (a.Seals = b.Seals)))) rfl)) ?_
      refine bool_way (decide (a.Seals = b.Seals)) (fun hg24_3 => ?_) (fun hg24_3 => ?_)
      · have fhg24_3 : a.Seals = b.Seals := of_decide_eq_true hg24_3
        refine VRunO.free (VWant.on (b := (decide (a.Seals = b.Seals))) rfl rfl hg24_3) (OF.fieldAddrO (VEv.tmp (t := (T.op 0 0)) rfl) fa80_3) ?_
        refine VRunO.look (VWant.on (b := (decide (a.Seals = b.Seals))) rfl rfl hg24_3) (OL.loadO1 (t := (T.int .i64 a.Salt)) (VEv.tmp (t := (T.op 0 5)) rfl) rfl rfl st3) ?_
        refine VRunO.free (VWant.on (b := (decide (a.Seals = b.Seals))) rfl rfl hg24_3) (OF.fieldAddrO (VEv.tmp (t := (T.op 1 0)) rfl) fa80_3) ?_
        refine VRunO.look (VWant.on (b := (decide (a.Seals = b.Seals))) rfl rfl hg24_3) (OL.loadO1 (t := (T.int .i64 b.Salt)) (VEv.tmp (t := (T.op 1 5)) rfl) rfl rfl st3) ?_
        refine VRunO.free (VWant.on (b := (decide (a.Seals = b.Seals))) rfl rfl hg24_3) (B.eql (c := (decide (a.Salt = b.Salt))) (VEv.tmp (t := (T.int .i64 a.Salt)) rfl) (VEv.tmp (t := (T.int .i64 b.Salt)) rfl) rfl) ?_
        refine VRunO.free VWant.always (OF.pickT (VEv.tmpB (b := (decide (a.Seals = b.Seals))) rfl hg24_3) (VEv.tmp (t := (T.bool (decide (a.Salt = b.Salt)))) rfl)) ?_
        refine VRunO.free VWant.always (OF.assign (VEv.tmp (t := (T.bool (decide (a.Salt = b.Salt)))) rfl)) ?_
        refine VRunO.nil ?_
        refine vthn.n ?_
        refine VRun.ret ?_
        refine vfin.eq (r' := (T.bool (decide (a.Salt = b.Salt)))) ?_ (vfin.r (VRes.tmp (t := (T.bool (decide (a.Salt = b.Salt)))) rfl VRes.nil) (Give.bool _))
        show (T.bool (decide (a.Salt = b.Salt))) = (T.bool (decide (a = b)))
        refine congrArg T.bool ?_
        obtain ⟨a1, a2, a3, a4⟩ := a
        obtain ⟨b1, b2, b3, b4⟩ := b
        simp_all
      · have fhg24_3 : ¬ (a.Seals = b.Seals) := of_decide_eq_false hg24_3
        refine VRunO.off (VWant.not (b := (decide (a.Seals = b.Seals))) rfl rfl hg24_3) ?_
        refine VRunO.off (VWant.not (b := (decide (a.Seals = b.Seals))) rfl rfl hg24_3) ?_
        refine VRunO.off (VWant.not (b := (decide (a.Seals = b.Seals))) rfl rfl hg24_3) ?_
        refine VRunO.off (VWant.not (b := (decide (a.Seals = b.Seals))) rfl rfl hg24_3) ?_
        refine VRunO.off (VWant.not (b := (decide (a.Seals = b.Seals))) rfl rfl hg24_3) ?_
        refine VRunO.free VWant.always (OF.pickF (VEv.tmpB (b := (decide (a.Seals = b.Seals))) rfl hg24_3) (VEv.bool false)) ?_
        refine VRunO.free VWant.always (OF.assign (VEv.tmp (t := (T.bool false)) rfl)) ?_
        refine VRunO.nil ?_
        refine vthn.n ?_
        refine VRun.ret ?_
        refine vfin.eq (r' := (T.bool false)) ?_ (vfin.r (VRes.tmp (t := (T.bool false)) rfl VRes.nil) (Give.bool _))
        show (T.bool false) = (T.bool (decide (a = b)))
        refine congrArg T.bool ?_
        obtain ⟨a1, a2, a3, a4⟩ := a
        obtain ⟨b1, b2, b3, b4⟩ := b
        simp_all
    · have fhg17_2 : ¬ (a.Clues = b.Clues) := of_decide_eq_false hg17_2
      refine VRunO.off (VWant.not (b := (decide (a.Clues = b.Clues))) rfl rfl hg17_2) ?_
      refine VRunO.off (VWant.not (b := (decide (a.Clues = b.Clues))) rfl rfl hg17_2) ?_
      refine VRunO.off (VWant.not (b := (decide (a.Clues = b.Clues))) rfl rfl hg17_2) ?_
      refine VRunO.off (VWant.not (b := (decide (a.Clues = b.Clues))) rfl rfl hg17_2) ?_
      refine VRunO.off (VWant.not (b := (decide (a.Clues = b.Clues))) rfl rfl hg17_2) ?_
      refine VRunO.free VWant.always (OF.pickF (VEv.tmpB (b := (decide (a.Clues = b.Clues))) rfl hg17_2) (VEv.bool false)) ?_
      refine VRunO.free VWant.always (OF.move (VEv.tmp (t := (T.bool false)) rfl)) ?_
      refine VRunO.off (VWant.not (b := false) rfl rfl rfl) ?_
      refine VRunO.off (VWant.not (b := false) rfl rfl rfl) ?_
      refine VRunO.off (VWant.not (b := false) rfl rfl rfl) ?_
      refine VRunO.off (VWant.not (b := false) rfl rfl rfl) ?_
      refine VRunO.off (VWant.not (b := false) rfl rfl rfl) ?_
      refine VRunO.free VWant.always (OF.pickF (VEv.tmp (t := (T.bool false)) rfl) (VEv.bool false)) ?_
      refine VRunO.free VWant.always (OF.assign (VEv.tmp (t := (T.bool false)) rfl)) ?_
      refine VRunO.nil ?_
      refine vthn.n ?_
      refine VRun.ret ?_
      refine vfin.eq (r' := (T.bool false)) ?_ (vfin.r (VRes.tmp (t := (T.bool false)) rfl VRes.nil) (Give.bool _))
      show (T.bool false) = (T.bool (decide (a = b)))
      refine congrArg T.bool ?_
      obtain ⟨a1, a2, a3, a4⟩ := a
      obtain ⟨b1, b2, b3, b4⟩ := b
      simp_all
  · have fhg10_1 : ¬ (a.Grid = b.Grid) := of_decide_eq_false hg10_1
    refine VRunO.off (VWant.not (b := (decide (a.Grid = b.Grid))) rfl rfl hg10_1) ?_
    refine VRunO.off (VWant.not (b := (decide (a.Grid = b.Grid))) rfl rfl hg10_1) ?_
    refine VRunO.off (VWant.not (b := (decide (a.Grid = b.Grid))) rfl rfl hg10_1) ?_
    refine VRunO.off (VWant.not (b := (decide (a.Grid = b.Grid))) rfl rfl hg10_1) ?_
    refine VRunO.off (VWant.not (b := (decide (a.Grid = b.Grid))) rfl rfl hg10_1) ?_
    refine VRunO.free VWant.always (OF.pickF (VEv.tmpB (b := (decide (a.Grid = b.Grid))) rfl hg10_1) (VEv.bool false)) ?_
    refine VRunO.free VWant.always (OF.move (VEv.tmp (t := (T.bool false)) rfl)) ?_
    refine VRunO.off (VWant.not (b := false) rfl rfl rfl) ?_
    refine VRunO.off (VWant.not (b := false) rfl rfl rfl) ?_
    refine VRunO.off (VWant.not (b := false) rfl rfl rfl) ?_
    refine VRunO.off (VWant.not (b := false) rfl rfl rfl) ?_
    refine VRunO.off (VWant.not (b := false) rfl rfl rfl) ?_
    refine VRunO.free VWant.always (OF.pickF (VEv.tmp (t := (T.bool false)) rfl) (VEv.bool false)) ?_
    refine VRunO.free VWant.always (OF.move (VEv.tmp (t := (T.bool false)) rfl)) ?_
    refine VRunO.off (VWant.not (b := false) rfl rfl rfl) ?_
    refine VRunO.off (VWant.not (b := false) rfl rfl rfl) ?_
    refine VRunO.off (VWant.not (b := false) rfl rfl rfl) ?_
    refine VRunO.off (VWant.not (b := false) rfl rfl rfl) ?_
    refine VRunO.off (VWant.not (b := false) rfl rfl rfl) ?_
    refine VRunO.free VWant.always (OF.pickF (VEv.tmp (t := (T.bool false)) rfl) (VEv.bool false)) ?_
    refine VRunO.free VWant.always (OF.assign (VEv.tmp (t := (T.bool false)) rfl)) ?_
    refine VRunO.nil ?_
    refine vthn.n ?_
    refine VRun.ret ?_
    refine vfin.eq (r' := (T.bool false)) ?_ (vfin.r (VRes.tmp (t := (T.bool false)) rfl VRes.nil) (Give.bool _))
    show (T.bool false) = (T.bool (decide (a = b)))
    refine congrArg T.bool ?_
    obtain ⟨a1, a2, a3, a4⟩ := a
    obtain ⟨b1, b2, b3, b4⟩ := b
    simp_all
theorem W_spec_EqualPuzzles (n : Nat) (a : D.Puzzle) (b : D.Puzzle) (hza : zPuzzle a ≤ mx) (hzb : zPuzzle b ≤ mx) : Pure (acall Try.prog (n + 2)) 109 [(T.agg (ePuzzle false a)), (T.agg (ePuzzle false b))] (T.bool (decide (a = b))) := by
  refine Pure.intro (rs := [ResultVar.tmp 4]) Try.func109 rfl rfl rfl (E0 := [(0, (T.agg (ePuzzle false a))), (1, (T.agg (ePuzzle false b)))]) rfl ?_
  have hlim : lim = 1099511627776 := rfl
  have hmx : mx = 1048576 := rfl
  have hmax : maxLen = 9223372036854775807 := rfl
  simp only [zPuzzle] at hza hzb
  have hla := zL_len (z := zClue) a.Clues
  have hlb := zL_len (z := zClue) b.Clues
  have hlc := zL_len (z := zI) a.Seals
  have hld := zL_len (z := zI) b.Seals
  refine VRun.seq ?_
  refine VRun.region ?_
  refine VRunO.make VWant.always (B.box (ts := [(T.int .i64 a.Grid.Rows), (T.int .i64 a.Grid.Cols), (T.str a.Grid.Cells), (T.sl false 2 (a.Clues.map (eClue false))), (T.sl false 1 (a.Seals.map (eInt false))), (T.int .i64 a.Salt)]) (VEv.tmp (t := (T.agg (ePuzzle false a))) rfl) nofun rfl) ?_
  refine VRunO.make VWant.always (B.box (ts := [(T.int .i64 b.Grid.Rows), (T.int .i64 b.Grid.Cols), (T.str b.Grid.Cells), (T.sl false 2 (b.Clues.map (eClue false))), (T.sl false 1 (b.Seals.map (eInt false))), (T.int .i64 b.Salt)]) (VEv.tmp (t := (T.agg (ePuzzle false b))) rfl) nofun rfl) ?_
  refine VRunO.free VWant.always (OF.assign (VEv.bool false)) ?_
  refine VRunO.nil ?_
  refine vthn.n ?_
  refine VRun.seq ?_
  refine VRun.seq ?_
  refine VRun.region ?_
  refine VRunO.free VWant.always (OF.fieldAddrO (VEv.tmp (t := (T.op 0 0)) rfl) fa80_0) ?_
  refine VRunO.look VWant.always (OL.loadOn (us := (eGrid false a.Grid)) (VEv.tmp (t := (T.op 0 0)) rfl) rfl st59 sz59 (Nat.le_of_ble_eq_true rfl) rfl) ?_
  refine VRunO.free VWant.always (OF.fieldAddrO (VEv.tmp (t := (T.op 1 0)) rfl) fa80_0) ?_
  refine VRunO.look VWant.always (OL.loadOn (us := (eGrid false b.Grid)) (VEv.tmp (t := (T.op 1 0)) rfl) rfl st59 sz59 (Nat.le_of_ble_eq_true rfl) rfl) ?_
  refine VRunO.free VWant.always (B.neq59 (a := a.Grid) (b := b.Grid) (m := false) (m' := false) (VEv.tmp (t := (T.agg (eGrid false a.Grid))) rfl) (VEv.tmp (t := (T.agg (eGrid false b.Grid))) rfl)) ?_
  refine VRunO.free VWant.always (OF.move (VEv.tmp (t := (T.bool (!(decide (a.Grid = b.Grid))))) rfl)) ?_
  refine bool_way (!(decide (a.Grid = b.Grid))) (fun hg11_1 => ?_) (fun hg11_1 => ?_)
  · have fhg11_1 : ¬ (a.Grid = b.Grid) := ndT hg11_1
    refine VRunO.off (VWant.not (b := (!(decide (a.Grid = b.Grid)))) rfl rfl hg11_1) ?_
    refine VRunO.off (VWant.not (b := (!(decide (a.Grid = b.Grid)))) rfl rfl hg11_1) ?_
    refine VRunO.off (VWant.not (b := (!(decide (a.Grid = b.Grid)))) rfl rfl hg11_1) ?_
    refine VRunO.off (VWant.not (b := (!(decide (a.Grid = b.Grid)))) rfl rfl hg11_1) ?_
    refine VRunO.off (VWant.not (b := (!(decide (a.Grid = b.Grid)))) rfl rfl hg11_1) ?_
    refine VRunO.free VWant.always (OF.pickT (VEv.tmpB (b := (!(decide (a.Grid = b.Grid)))) rfl hg11_1) (VEv.bool true)) ?_
    refine VRunO.free VWant.always (OF.move (VEv.tmp (t := (T.bool true)) rfl)) ?_
    refine VRunO.off (VWant.not (b := true) rfl rfl rfl) ?_
    refine VRunO.off (VWant.not (b := true) rfl rfl rfl) ?_
    refine VRunO.off (VWant.not (b := true) rfl rfl rfl) ?_
    refine VRunO.off (VWant.not (b := true) rfl rfl rfl) ?_
    refine VRunO.off (VWant.not (b := true) rfl rfl rfl) ?_
    refine VRunO.off (VWant.not (b := true) rfl rfl rfl) ?_
    refine VRunO.off (VWant.not (b := true) rfl rfl rfl) ?_
    refine VRunO.free VWant.always (OF.pickT (VEv.tmp (t := (T.bool true)) rfl) (VEv.bool true)) ?_
    refine VRunO.free VWant.always (OF.move (VEv.tmp (t := (T.bool true)) rfl)) ?_
    refine VRunO.off (VWant.not (b := true) rfl rfl rfl) ?_
    refine VRunO.off (VWant.not (b := true) rfl rfl rfl) ?_
    refine VRunO.off (VWant.not (b := true) rfl rfl rfl) ?_
    refine VRunO.off (VWant.not (b := true) rfl rfl rfl) ?_
    refine VRunO.off (VWant.not (b := true) rfl rfl rfl) ?_
    refine VRunO.off (VWant.not (b := true) rfl rfl rfl) ?_
    refine VRunO.free VWant.always (OF.pickT (VEv.tmp (t := (T.bool true)) rfl) (VEv.bool true)) ?_
    refine VRunO.nil ?_
    refine vthn.n ?_
    refine VRun.cond (VEv.tmp (t := (T.bool true)) rfl) (fun hk2 => ?_) (fun hk2 => ?_)
    · skip
      refine VRun.seq ?_
      refine VRun.region ?_
      refine VRunO.free VWant.always (OF.assign (VEv.bool false)) ?_
      refine VRunO.nil ?_
      refine vthn.n ?_
      refine VRun.ret ?_
      refine vthn.r ?_
      refine vfin.eq (r' := (T.bool false)) ?_ (vfin.r (VRes.tmp (t := (T.bool false)) rfl VRes.nil) (Give.bool _))
      show (T.bool false) = (T.bool (decide (a = b)))
      refine congrArg T.bool ?_
      first | (symm; rw [decide_eq_true_eq]; have h := agree_all hI' (by omega) fhc1; obtain ⟨a1, a2, a3, a4⟩ := a; obtain ⟨b1, b2, b3, b4⟩ := b; simp_all; done) | (symm; rw [decide_eq_false_iff_not]; rintro rfl; first | (exact fhc0 rfl) | (exact agree_not hx1 hx2 fhc2 rfl) | (simp_all; done))
    · exact absurd (rfl.symm.trans hk2) (by decide)
  · have fhg11_1 : a.Grid = b.Grid := ndF hg11_1
    refine VRunO.free (VWant.on (b := (!(decide (a.Grid = b.Grid)))) rfl rfl hg11_1) (OF.fieldAddrO (VEv.tmp (t := (T.op 0 0)) rfl) fa80_3) ?_
    refine VRunO.look (VWant.on (b := (!(decide (a.Grid = b.Grid)))) rfl rfl hg11_1) (OL.loadO1 (t := (T.int .i64 a.Salt)) (VEv.tmp (t := (T.op 0 5)) rfl) rfl rfl st3) ?_
    refine VRunO.free (VWant.on (b := (!(decide (a.Grid = b.Grid)))) rfl rfl hg11_1) (OF.fieldAddrO (VEv.tmp (t := (T.op 1 0)) rfl) fa80_3) ?_
    refine VRunO.look (VWant.on (b := (!(decide (a.Grid = b.Grid)))) rfl rfl hg11_1) (OL.loadO1 (t := (T.int .i64 b.Salt)) (VEv.tmp (t := (T.op 1 5)) rfl) rfl rfl st3) ?_
    refine VRunO.free (VWant.on (b := (!(decide (a.Grid = b.Grid)))) rfl rfl hg11_1) (B.neq (c := (!(decide (a.Salt = b.Salt)))) (VEv.tmp (t := (T.int .i64 a.Salt)) rfl) (VEv.tmp (t := (T.int .i64 b.Salt)) rfl) rfl) ?_
    refine VRunO.free VWant.always (OF.pickF (VEv.tmpB (b := (!(decide (a.Grid = b.Grid)))) rfl hg11_1) (VEv.tmp (t := (T.bool (!(decide (a.Salt = b.Salt))))) rfl)) ?_
    refine VRunO.free VWant.always (OF.move (VEv.tmp (t := (T.bool (!(decide (a.Salt = b.Salt))))) rfl)) ?_
    refine bool_way (!(decide (a.Salt = b.Salt))) (fun hg18_3 => ?_) (fun hg18_3 => ?_)
    · have fhg18_3 : ¬ (a.Salt = b.Salt) := ndT hg18_3
      refine VRunO.off (VWant.not (b := (!(decide (a.Salt = b.Salt)))) rfl rfl hg18_3) ?_
      refine VRunO.off (VWant.not (b := (!(decide (a.Salt = b.Salt)))) rfl rfl hg18_3) ?_
      refine VRunO.off (VWant.not (b := (!(decide (a.Salt = b.Salt)))) rfl rfl hg18_3) ?_
      refine VRunO.off (VWant.not (b := (!(decide (a.Salt = b.Salt)))) rfl rfl hg18_3) ?_
      refine VRunO.off (VWant.not (b := (!(decide (a.Salt = b.Salt)))) rfl rfl hg18_3) ?_
      refine VRunO.off (VWant.not (b := (!(decide (a.Salt = b.Salt)))) rfl rfl hg18_3) ?_
      refine VRunO.off (VWant.not (b := (!(decide (a.Salt = b.Salt)))) rfl rfl hg18_3) ?_
      refine VRunO.free VWant.always (OF.pickT (VEv.tmpB (b := (!(decide (a.Salt = b.Salt)))) rfl hg18_3) (VEv.bool true)) ?_
      refine VRunO.free VWant.always (OF.move (VEv.tmp (t := (T.bool true)) rfl)) ?_
      refine VRunO.off (VWant.not (b := true) rfl rfl rfl) ?_
      refine VRunO.off (VWant.not (b := true) rfl rfl rfl) ?_
      refine VRunO.off (VWant.not (b := true) rfl rfl rfl) ?_
      refine VRunO.off (VWant.not (b := true) rfl rfl rfl) ?_
      refine VRunO.off (VWant.not (b := true) rfl rfl rfl) ?_
      refine VRunO.off (VWant.not (b := true) rfl rfl rfl) ?_
      refine VRunO.free VWant.always (OF.pickT (VEv.tmp (t := (T.bool true)) rfl) (VEv.bool true)) ?_
      refine VRunO.nil ?_
      refine vthn.n ?_
      refine VRun.cond (VEv.tmp (t := (T.bool true)) rfl) (fun hk4 => ?_) (fun hk4 => ?_)
      · skip
        refine VRun.seq ?_
        refine VRun.region ?_
        refine VRunO.free VWant.always (OF.assign (VEv.bool false)) ?_
        refine VRunO.nil ?_
        refine vthn.n ?_
        refine VRun.ret ?_
        refine vthn.r ?_
        refine vfin.eq (r' := (T.bool false)) ?_ (vfin.r (VRes.tmp (t := (T.bool false)) rfl VRes.nil) (Give.bool _))
        show (T.bool false) = (T.bool (decide (a = b)))
        refine congrArg T.bool ?_
        first | (symm; rw [decide_eq_true_eq]; have h := agree_all hI' (by omega) fhc1; obtain ⟨a1, a2, a3, a4⟩ := a; obtain ⟨b1, b2, b3, b4⟩ := b; simp_all; done) | (symm; rw [decide_eq_false_iff_not]; rintro rfl; first | (exact fhc0 rfl) | (exact agree_not hx1 hx2 fhc2 rfl) | (simp_all; done))
      · exact absurd (rfl.symm.trans hk4) (by decide)
    · have fhg18_3 : a.Salt = b.Salt := ndF hg18_3
      refine VRunO.free (VWant.on (b := (!(decide (a.Salt = b.Salt)))) rfl rfl hg18_3) (OF.fieldAddrO (VEv.tmp (t := (T.op 0 0)) rfl) fa80_1) ?_
      refine VRunO.look (VWant.on (b := (!(decide (a.Salt = b.Salt)))) rfl rfl hg18_3) (OL.loadO1 (t := (T.sl false 2 (a.Clues.map (eClue false)))) (VEv.tmp (t := (T.op 0 3)) rfl) rfl rfl st60) ?_
      refine VRunO.look (VWant.on (b := (!(decide (a.Salt = b.Salt)))) rfl rfl hg18_3) (B.lenR (m := a.Clues.length) (VEv.tmp (t := (T.sl false 2 (a.Clues.map (eClue false)))) rfl) Try.underlying60 (List.length_map ..)) ?_
      refine VRunO.free (VWant.on (b := (!(decide (a.Salt = b.Salt)))) rfl rfl hg18_3) (OF.fieldAddrO (VEv.tmp (t := (T.op 1 0)) rfl) fa80_1) ?_
      refine VRunO.look (VWant.on (b := (!(decide (a.Salt = b.Salt)))) rfl rfl hg18_3) (OL.loadO1 (t := (T.sl false 2 (b.Clues.map (eClue false)))) (VEv.tmp (t := (T.op 1 3)) rfl) rfl rfl st60) ?_
      refine VRunO.look (VWant.on (b := (!(decide (a.Salt = b.Salt)))) rfl rfl hg18_3) (B.lenR (m := b.Clues.length) (VEv.tmp (t := (T.sl false 2 (b.Clues.map (eClue false)))) rfl) Try.underlying60 (List.length_map ..)) ?_
      refine VRunO.free (VWant.on (b := (!(decide (a.Salt = b.Salt)))) rfl rfl hg18_3) (B.neq (c := (!(decide (a.Clues.length = b.Clues.length)))) (VEv.tmp (t := (T.int .i64 ((a.Clues.length : Nat) : Int))) rfl) (VEv.tmp (t := (T.int .i64 ((b.Clues.length : Nat) : Int))) rfl) (by first | exact Nat.le_trans (zL_at hx1) (by omega) | exact Nat.le_trans (zL_at hx2) (by omega) | (exact decNn (by omega)))) ?_
      refine VRunO.free VWant.always (OF.pickF (VEv.tmpB (b := (!(decide (a.Salt = b.Salt)))) rfl hg18_3) (VEv.tmp (t := (T.bool (!(decide (a.Clues.length = b.Clues.length))))) rfl)) ?_
      refine VRunO.free VWant.always (OF.move (VEv.tmp (t := (T.bool (!(decide (a.Clues.length = b.Clues.length))))) rfl)) ?_
      refine bool_way (!(decide (a.Clues.length = b.Clues.length))) (fun hg27_5 => ?_) (fun hg27_5 => ?_)
      · have fhg27_5 : ¬ (a.Clues.length = b.Clues.length) := ndT hg27_5
        refine VRunO.off (VWant.not (b := (!(decide (a.Clues.length = b.Clues.length)))) rfl rfl hg27_5) ?_
        refine VRunO.off (VWant.not (b := (!(decide (a.Clues.length = b.Clues.length)))) rfl rfl hg27_5) ?_
        refine VRunO.off (VWant.not (b := (!(decide (a.Clues.length = b.Clues.length)))) rfl rfl hg27_5) ?_
        refine VRunO.off (VWant.not (b := (!(decide (a.Clues.length = b.Clues.length)))) rfl rfl hg27_5) ?_
        refine VRunO.off (VWant.not (b := (!(decide (a.Clues.length = b.Clues.length)))) rfl rfl hg27_5) ?_
        refine VRunO.off (VWant.not (b := (!(decide (a.Clues.length = b.Clues.length)))) rfl rfl hg27_5) ?_
        refine VRunO.free VWant.always (OF.pickT (VEv.tmpB (b := (!(decide (a.Clues.length = b.Clues.length)))) rfl hg27_5) (VEv.bool true)) ?_
        refine VRunO.nil ?_
        refine vthn.n ?_
        refine VRun.cond (VEv.tmp (t := (T.bool true)) rfl) (fun hk6 => ?_) (fun hk6 => ?_)
        · skip
          refine VRun.seq ?_
          refine VRun.region ?_
          refine VRunO.free VWant.always (OF.assign (VEv.bool false)) ?_
          refine VRunO.nil ?_
          refine vthn.n ?_
          refine VRun.ret ?_
          refine vthn.r ?_
          refine vfin.eq (r' := (T.bool false)) ?_ (vfin.r (VRes.tmp (t := (T.bool false)) rfl VRes.nil) (Give.bool _))
          show (T.bool false) = (T.bool (decide (a = b)))
          refine congrArg T.bool ?_
          first | (symm; rw [decide_eq_true_eq]; have h := agree_all hI' (by omega) fhc1; obtain ⟨a1, a2, a3, a4⟩ := a; obtain ⟨b1, b2, b3, b4⟩ := b; simp_all; done) | (symm; rw [decide_eq_false_iff_not]; rintro rfl; first | (exact fhc0 rfl) | (exact agree_not hx1 hx2 fhc2 rfl) | (simp_all; done))
        · exact absurd (rfl.symm.trans hk6) (by decide)
      · have fhg27_5 : a.Clues.length = b.Clues.length := ndF hg27_5
        refine VRunO.free (VWant.on (b := (!(decide (a.Clues.length = b.Clues.length)))) rfl rfl hg27_5) (OF.fieldAddrO (VEv.tmp (t := (T.op 0 0)) rfl) fa80_2) ?_
        refine VRunO.look (VWant.on (b := (!(decide (a.Clues.length = b.Clues.length)))) rfl rfl hg27_5) (OL.loadO1 (t := (T.sl false 1 (a.Seals.map (eInt false)))) (VEv.tmp (t := (T.op 0 4)) rfl) rfl rfl st72) ?_
        refine VRunO.free (VWant.on (b := (!(decide (a.Clues.length = b.Clues.length)))) rfl rfl hg27_5) (OF.fieldAddrO (VEv.tmp (t := (T.op 1 0)) rfl) fa80_2) ?_
        refine VRunO.look (VWant.on (b := (!(decide (a.Clues.length = b.Clues.length)))) rfl rfl hg27_5) (OL.loadO1 (t := (T.sl false 1 (b.Seals.map (eInt false)))) (VEv.tmp (t := (T.op 1 4)) rfl) rfl rfl st72) ?_
        refine VRunO.chain (VWant.on (b := (!(decide (a.Clues.length = b.Clues.length)))) rfl rfl hg27_5) (OC.callF (us := [(T.sl false 1 (a.Seals.map (eInt false))), (T.sl false 1 (b.Seals.map (eInt false)))]) (r := (T.bool (decide (a.Seals = b.Seals)))) (r' := (T.bool (decide (a.Seals = b.Seals)))) (objs := []) rfl (VEvs.cons (VEv.tmp (t := (T.sl false 1 (a.Seals.map (eInt false)))) rfl) (VEvs.cons (VEv.tmp (t := (T.sl false 1 (b.Seals.map (eInt false)))) rfl) VEvs.nil)) (LendL.cons (Lend.pl rfl) (LendL.cons (Lend.pl rfl) (LendL.nil))) (W_spec_EqualInts (n + 0) a.Seals b.Seals (by first | exact Nat.le_trans (zL_at hx1) (by omega) | exact Nat.le_trans (zL_at hx2) (by omega) | assumption | omega | (simp only [List.length_map]; omega) | (simp only [List.length_map, List.length_append, List.length_cons, List.length_nil, List.length_replicate, List.length_set, List.length_drop, List.length_take, lim] at *; omega)) (by first | exact Nat.le_trans (zL_at hx1) (by omega) | exact Nat.le_trans (zL_at hx2) (by omega) | assumption | omega | (simp only [List.length_map]; omega) | (simp only [List.length_map, List.length_append, List.length_cons, List.length_nil, List.length_replicate, List.length_set, List.length_drop, List.length_take, lim] at *; omega))) rfl) ?_
        refine VRunO.free (VWant.on (b := (!(decide (a.Clues.length = b.Clues.length)))) rfl rfl hg27_5) (B.not (c := (!(decide (a.Seals = b.Seals)))) (VEv.tmp (t := (T.bool (decide (a.Seals = b.Seals)))) rfl) rfl) ?_
        refine VRunO.free VWant.always (OF.pickF (VEv.tmpB (b := (!(decide (a.Clues.length = b.Clues.length)))) rfl hg27_5) (VEv.tmp (t := (T.bool (!(decide (a.Seals = b.Seals))))) rfl)) ?_
        refine VRunO.nil ?_
        refine vthn.n ?_
        refine VRun.cond (VEv.tmp (t := (T.bool (!(decide (a.Seals = b.Seals))))) rfl) (fun hc0 => ?_) (fun hc0 => ?_)
        · have fhc0 : ¬ (a.Seals = b.Seals) := ndT hc0
          refine VRun.seq ?_
          refine VRun.region ?_
          refine VRunO.free VWant.always (OF.assign (VEv.bool false)) ?_
          refine VRunO.nil ?_
          refine vthn.n ?_
          refine VRun.ret ?_
          refine vthn.r ?_
          refine vfin.eq (r' := (T.bool false)) ?_ (vfin.r (VRes.tmp (t := (T.bool false)) rfl VRes.nil) (Give.bool _))
          show (T.bool false) = (T.bool (decide (a = b)))
          refine congrArg T.bool ?_
          first | (symm; rw [decide_eq_true_eq]; have h := agree_all hI' (by omega) fhc1; obtain ⟨a1, a2, a3, a4⟩ := a; obtain ⟨b1, b2, b3, b4⟩ := b; simp_all; done) | (symm; rw [decide_eq_false_iff_not]; rintro rfl; first | (exact fhc0 rfl) | (exact agree_not hx1 hx2 fhc2 rfl) | (simp_all; done))
        · have fhc0 : a.Seals = b.Seals := ndF hc0
          refine VRun.skip ?_
          refine vthn.n ?_
          refine VRun.seq ?_
          refine VRun.seq ?_
          refine VRun.region ?_
          refine VRunO.free VWant.always (OF.assign (VEv.int .i64 0)) ?_
          refine VRunO.nil ?_
          refine vthn.n ?_
          refine VRun.block ?_
          refine VRun.loop (A := Nat) (fun s_ => [(2, (T.op 0 0)), (3, (T.op 1 0)), (5, (T.int .i64 ((s_ : Nat) : Int)))]) (fun s_ => mkO [(0, (Obj.cells [(T.int .i64 a.Grid.Rows), (T.int .i64 a.Grid.Cols), (T.str a.Grid.Cells), (T.sl false 2 (a.Clues.map (eClue false))), (T.sl false 1 (a.Seals.map (eInt false))), (T.int .i64 a.Salt)])), (1, (Obj.cells [(T.int .i64 b.Grid.Rows), (T.int .i64 b.Grid.Cols), (T.str b.Grid.Cells), (T.sl false 2 (b.Clues.map (eClue false))), (T.sl false 1 (b.Seals.map (eInt false))), (T.int .i64 b.Salt)]))]) 2 (fun s_ => s_ ≤ a.Clues.length ∧ ∀ j, j < s_ → a.Clues[j]? = b.Clues[j]?) (fun s_ => a.Clues.length - s_) (0 : Nat) ?_ (Wk.mk (fun k => k) ?_ ?_ ?_) ?_
          · first | trivial | (simp; done) | omega | (constructor <;> simp)
          · exact (ball_cons ⟨rfl, rfl⟩ (ball_cons ⟨rfl, rfl⟩ (ball_cons ⟨(congrArg (T.int .i64) (show 0 = ((0 : Nat) : Int) from (by first | rfl | omega | (simp; done) | (push_cast; omega)))), rfl⟩ (ball_nil))))
          · exact (ball_cons ⟨rfl, (Nat.le_of_ble_eq_true rfl), rfl⟩ (ball_cons ⟨rfl, (Nat.le_of_ble_eq_true rfl), rfl⟩ (ball_nil)))
          · show List.Nodup ([0, 1] : List Nat)
            decide
          · rintro i hI
            have hI' : i ≤ a.Clues.length ∧ ∀ j, j < i → a.Clues[j]? = b.Clues[j]? := hI
            clear hI
            show VRun _ _ _ [(2, (T.op 0 0)), (3, (T.op 1 0)), (5, (T.int .i64 ((i : Nat) : Int)))] (mkO [(0, (Obj.cells [(T.int .i64 a.Grid.Rows), (T.int .i64 a.Grid.Cols), (T.str a.Grid.Cells), (T.sl false 2 (a.Clues.map (eClue false))), (T.sl false 1 (a.Seals.map (eInt false))), (T.int .i64 a.Salt)])), (1, (Obj.cells [(T.int .i64 b.Grid.Rows), (T.int .i64 b.Grid.Cols), (T.str b.Grid.Cells), (T.sl false 2 (b.Clues.map (eClue false))), (T.sl false 1 (b.Seals.map (eInt false))), (T.int .i64 b.Salt)]))]) 2 _
            refine VRun.seq ?_
            refine VRun.seq ?_
            refine VRun.region ?_
            refine VRunO.free VWant.always (OF.move (VEv.tmp (t := (T.int .i64 ((i : Nat) : Int))) rfl)) ?_
            refine VRunO.free VWant.always (OF.fieldAddrO (VEv.tmp (t := (T.op 0 0)) rfl) fa80_1) ?_
            refine VRunO.look VWant.always (OL.loadO1 (t := (T.sl false 2 (a.Clues.map (eClue false)))) (VEv.tmp (t := (T.op 0 3)) rfl) rfl rfl st60) ?_
            refine VRunO.look VWant.always (B.lenR (m := a.Clues.length) (VEv.tmp (t := (T.sl false 2 (a.Clues.map (eClue false)))) rfl) Try.underlying60 (List.length_map ..)) ?_
            refine VRunO.free VWant.always (B.lss (c := (decide (i < a.Clues.length))) (VEv.tmp (t := (T.int .i64 ((i : Nat) : Int))) rfl) (VEv.tmp (t := (T.int .i64 ((a.Clues.length : Nat) : Int))) rfl) (by first | exact Nat.le_trans (zL_at hx1) (by omega) | exact Nat.le_trans (zL_at hx2) (by omega) | (exact decN (by omega)))) ?_
            refine VRunO.nil ?_
            refine vthn.n ?_
            refine VRun.cond (VEv.tmp (t := (T.bool (decide (i < a.Clues.length)))) rfl) (fun hc1 => ?_) (fun hc1 => ?_)
            · have fhc1 : i < a.Clues.length := of_decide_eq_true hc1
              refine VRun.skip ?_
              refine vthn.n ?_
              refine VRun.seq ?_
              refine VRun.block ?_
              refine VRun.seq ?_
              refine VRun.draw (B := [[], [0], [], [2, 0, 1], [1, 0, 2, 3], [], [5], [], [7, 5, 6], [6, 5, 7, 8], [8, 7, 5, 6, 9, 3, 2, 0, 1, 4], [4, 1, 0, 2, 3, 9, 6, 5, 7, 8, 10]]) (by kernel_rfl) (by kernel_rfl) ?_
              refine VRunD.free rfl VWant.always rfl (OF.fieldAddrO (VEv.tmp (t := (T.op 0 0)) rfl) fa80_1) ?_
              refine VRunD.look rfl VWant.always rfl (OL.loadO1 (t := (T.sl false 2 (a.Clues.map (eClue false)))) (VEv.tmp (t := (T.op 0 3)) rfl) rfl rfl st60) ?_
              refine VRunD.free rfl VWant.always rfl (OF.move (VEv.tmp (t := (T.int .i64 ((i : Nat) : Int))) rfl)) ?_
              obtain ⟨x1, hx1⟩ : ∃ x, a.Clues[i]? = some x := ⟨_, List.getElem?_eq_getElem (by first | exact Nat.le_trans (zL_at hx1) (by omega) | exact Nat.le_trans (zL_at hx2) (by omega) | omega | (simp only [List.length_map]; omega) | (simp only [List.length_map, List.length_append, List.length_cons, List.length_nil, List.length_replicate, List.length_set, List.length_drop, List.length_take, lim] at *; omega))⟩
              refine VRunD.free rfl VWant.always rfl (OF.indexAddrR (row := (eClue false x1)) (i := i) (VEv.tmp (t := (T.sl false 2 (a.Clues.map (eClue false)))) rfl) (VEv.tmp (t := (T.int .i64 ((i : Nat) : Int))) rfl) rfl (map_at _ hx1) Try.underlying60 sz115 if115) ?_
              refine VRunD.look rfl VWant.always rfl (OL.loadRn (us := (eClue false x1)) (VEv.tmp (t := (T.rp [(T.int .i64 x1.Sense), (T.sl false 4 (x1.Play.map (eStep false)))])) rfl) st115 sz115 (Nat.le_of_ble_eq_true rfl) rfl) ?_
              refine VRunD.free rfl VWant.always rfl (OF.fieldAddrO (VEv.tmp (t := (T.op 1 0)) rfl) fa80_1) ?_
              refine VRunD.look rfl VWant.always rfl (OL.loadO1 (t := (T.sl false 2 (b.Clues.map (eClue false)))) (VEv.tmp (t := (T.op 1 3)) rfl) rfl rfl st60) ?_
              refine VRunD.free rfl VWant.always rfl (OF.move (VEv.tmp (t := (T.int .i64 ((i : Nat) : Int))) rfl)) ?_
              obtain ⟨x2, hx2⟩ : ∃ x, b.Clues[i]? = some x := ⟨_, List.getElem?_eq_getElem (by first | exact Nat.le_trans (zL_at hx1) (by omega) | exact Nat.le_trans (zL_at hx2) (by omega) | omega | (simp only [List.length_map]; omega) | (simp only [List.length_map, List.length_append, List.length_cons, List.length_nil, List.length_replicate, List.length_set, List.length_drop, List.length_take, lim] at *; omega))⟩
              refine VRunD.free rfl VWant.always rfl (OF.indexAddrR (row := (eClue false x2)) (i := i) (VEv.tmp (t := (T.sl false 2 (b.Clues.map (eClue false)))) rfl) (VEv.tmp (t := (T.int .i64 ((i : Nat) : Int))) rfl) rfl (map_at _ hx2) Try.underlying60 sz115 if115) ?_
              refine VRunD.look rfl VWant.always rfl (OL.loadRn (us := (eClue false x2)) (VEv.tmp (t := (T.rp [(T.int .i64 x2.Sense), (T.sl false 4 (x2.Play.map (eStep false)))])) rfl) st115 sz115 (Nat.le_of_ble_eq_true rfl) rfl) ?_
              refine VRunD.quiet (bi := [8, 7, 5, 6, 9, 3, 2, 0, 1, 4]) rfl VWant.always rfl rfl rfl (ball_nil) (OC.callF (us := [(T.agg (eClue false x1)), (T.agg (eClue false x2))]) (r := (T.bool (decide (x1 = x2)))) (r' := (T.bool (decide (x1 = x2)))) (objs := []) rfl (VEvs.cons (VEv.tmp (t := (T.agg (eClue false x1))) rfl) (VEvs.cons (VEv.tmp (t := (T.agg (eClue false x2))) rfl) VEvs.nil)) (LendL.cons (Lend.agg (LendL.cons (Lend.pl rfl) (LendL.cons (Lend.pl rfl) (LendL.nil)))) (LendL.cons (Lend.agg (LendL.cons (Lend.pl rfl) (LendL.cons (Lend.pl rfl) (LendL.nil)))) (LendL.nil))) (W_spec_l21SameClue (n + 0) x1 x2 (by first | exact Nat.le_trans (zL_at hx1) (by omega) | exact Nat.le_trans (zL_at hx2) (by omega) | assumption | omega | (simp only [List.length_map]; omega) | (simp only [List.length_map, List.length_append, List.length_cons, List.length_nil, List.length_replicate, List.length_set, List.length_drop, List.length_take, lim] at *; omega)) (by first | exact Nat.le_trans (zL_at hx1) (by omega) | exact Nat.le_trans (zL_at hx2) (by omega) | assumption | omega | (simp only [List.length_map]; omega) | (simp only [List.length_map, List.length_append, List.length_cons, List.length_nil, List.length_replicate, List.length_set, List.length_drop, List.length_take, lim] at *; omega))) rfl) ?_
              refine VRunD.free rfl VWant.always rfl (B.not (c := (!(decide (x1 = x2)))) (VEv.tmp (t := (T.bool (decide (x1 = x2)))) rfl) rfl) ?_
              refine VRunD.nil ?_
              refine vthn.n ?_
              refine VRun.cond (VEv.tmp (t := (T.bool (!(decide (x1 = x2))))) rfl) (fun hc2 => ?_) (fun hc2 => ?_)
              · have fhc2 : ¬ (x1 = x2) := ndT hc2
                refine VRun.seq ?_
                refine VRun.region ?_
                refine VRunO.free VWant.always (OF.assign (VEv.bool false)) ?_
                refine VRunO.nil ?_
                refine vthn.n ?_
                refine VRun.ret ?_
                refine vinB.r ?_
                refine vthn.r ?_
                refine vthn.r ?_
                refine vinB.r ?_
                refine vthn.r ?_
                refine vfin.eq (r' := (T.bool false)) ?_ (vfin.r (VRes.tmp (t := (T.bool false)) rfl VRes.nil) (Give.bool _))
                show (T.bool false) = (T.bool (decide (a = b)))
                refine congrArg T.bool ?_
                first | (symm; rw [decide_eq_true_eq]; have h := agree_all hI' (by omega) fhc1; obtain ⟨a1, a2, a3, a4⟩ := a; obtain ⟨b1, b2, b3, b4⟩ := b; simp_all; done) | (symm; rw [decide_eq_false_iff_not]; rintro rfl; first | (exact fhc0 rfl) | (exact agree_not hx1 hx2 fhc2 rfl) | (simp_all; done))
              · have fhc2 : x1 = x2 := ndF hc2
                refine VRun.skip ?_
                refine vinB.n ?_
                refine vthn.n ?_
                refine VRun.region ?_
                refine VRunO.free VWant.always (OF.move (VEv.tmp (t := (T.int .i64 ((i : Nat) : Int))) rfl)) ?_
                refine VRunO.free VWant.always (B.add (n := (((i + 1) : Nat) : Int)) (VEv.tmp (t := (T.int .i64 ((i : Nat) : Int))) rfl) (VEv.int .i64 1) (by first | exact Nat.le_trans (zL_at hx1) (by omega) | exact Nat.le_trans (zL_at hx2) (by omega) | rfl | (rw [wrap64 (by omega)]; done) | (rw [wrap64 (by omega)]; omega) | (rw [wrap64 (by omega)]; push_cast; omega) | omega)) ?_
                refine VRunO.free VWant.always (OF.assign (VEv.tmp (t := (T.int .i64 (((i + 1) : Nat) : Int))) rfl)) ?_
                refine VRunO.nil ?_
                refine vthn.n ?_
                refine ⟨(i + 1 : Nat), ?_, ?_, Wk.mk (fun k => k) ?_ ?_ ?_⟩
                · exact agree_next hI' hx1 hx2 fhc2
                · first | omega | (simp only []; omega) | (show _ < _; omega) | (simp; omega)
                · exact (ball_cons ⟨rfl, rfl⟩ (ball_cons ⟨rfl, rfl⟩ (ball_cons ⟨rfl, rfl⟩ (ball_nil))))
                · exact (ball_cons ⟨rfl, (Nat.le_of_ble_eq_true rfl), rfl⟩ (ball_cons ⟨rfl, (Nat.le_of_ble_eq_true rfl), rfl⟩ (ball_nil)))
                · show List.Nodup ([0, 1] : List Nat)
                  decide
            · have fhc1 : ¬ (i < a.Clues.length) := of_decide_eq_false hc1
              refine VRun.exit ?_
              refine vthn.e ?_
              refine vthn.e ?_
              refine vinB.e ?_
              refine vthn.n ?_
              refine VRun.seq ?_
              refine VRun.region ?_
              refine VRunO.free VWant.always (OF.assign (VEv.bool true)) ?_
              refine VRunO.nil ?_
              refine vthn.n ?_
              refine VRun.ret ?_
              refine vfin.eq (r' := (T.bool true)) ?_ (vfin.r (VRes.tmp (t := (T.bool true)) rfl VRes.nil) (Give.bool _))
              show (T.bool true) = (T.bool (decide (a = b)))
              refine congrArg T.bool ?_
              first | (symm; rw [decide_eq_true_eq]; have h := agree_all hI' (by omega) fhc1; obtain ⟨a1, a2, a3, a4⟩ := a; obtain ⟨b1, b2, b3, b4⟩ := b; simp_all; done) | (symm; rw [decide_eq_false_iff_not]; rintro rfl; first | (exact fhc0 rfl) | (exact agree_not hx1 hx2 fhc2 rfl) | (simp_all; done))
theorem W_impl_EqualIssues (n : Nat) (a : D.Issue) (b : D.Issue) (hza : zIssue a ≤ mx) (hzb : zIssue b ≤ mx) : Pure (acall Try.prog (n + 5)) 55 [(T.agg (eIssue false a)), (T.agg (eIssue false b))] (T.bool (decide (a = b))) := by
  refine Pure.intro (rs := [ResultVar.tmp 4]) Try.func55 rfl rfl rfl (E0 := [(0, (T.agg (eIssue false a))), (1, (T.agg (eIssue false b)))]) rfl ?_
  have hlim : lim = 1099511627776 := rfl
  have hmx : mx = 1048576 := rfl
  have hmax : maxLen = 9223372036854775807 := rfl
  simp only [zIssue] at hza hzb
  refine VRun.seq ?_
  refine VRun.region ?_
  refine VRunO.make VWant.always (B.box (ts := [(T.int .i64 a.Number), (T.int .i64 a.Puzzle.Grid.Rows), (T.int .i64 a.Puzzle.Grid.Cols), (T.str a.Puzzle.Grid.Cells), (T.sl false 2 (a.Puzzle.Clues.map (eClue false))), (T.sl false 1 (a.Puzzle.Seals.map (eInt false))), (T.int .i64 a.Puzzle.Salt), (T.str a.Fill), (T.int .i64 a.Open), (T.int .i64 a.Close)]) (VEv.tmp (t := (T.agg (eIssue false a))) rfl) nofun rfl) ?_
  refine VRunO.make VWant.always (B.box (ts := [(T.int .i64 b.Number), (T.int .i64 b.Puzzle.Grid.Rows), (T.int .i64 b.Puzzle.Grid.Cols), (T.str b.Puzzle.Grid.Cells), (T.sl false 2 (b.Puzzle.Clues.map (eClue false))), (T.sl false 1 (b.Puzzle.Seals.map (eInt false))), (T.int .i64 b.Puzzle.Salt), (T.str b.Fill), (T.int .i64 b.Open), (T.int .i64 b.Close)]) (VEv.tmp (t := (T.agg (eIssue false b))) rfl) nofun rfl) ?_
  refine VRunO.free VWant.always (OF.assign (VEv.bool false)) ?_
  refine VRunO.nil ?_
  refine vthn.n ?_
  refine VRun.seq ?_
  refine VRun.region ?_
  refine VRunO.free VWant.always (OF.fieldAddrO (VEv.tmp (t := (T.op 0 0)) rfl) fa82_0) ?_
  refine VRunO.look VWant.always (OL.loadO1 (t := (T.int .i64 a.Number)) (VEv.tmp (t := (T.op 0 0)) rfl) rfl rfl st3) ?_
  refine VRunO.free VWant.always (OF.fieldAddrO (VEv.tmp (t := (T.op 1 0)) rfl) fa82_0) ?_
  refine VRunO.look VWant.always (OL.loadO1 (t := (T.int .i64 b.Number)) (VEv.tmp (t := (T.op 1 0)) rfl) rfl rfl st3) ?_
  refine VRunO.free VWant.always (B.eql (c := (decide (a.Number = b.Number))) (VEv.tmp (t := (T.int .i64 a.Number)) rfl) (VEv.tmp (t := (T.int .i64 b.Number)) rfl) rfl) ?_
  refine VRunO.free VWant.always (OF.move (VEv.tmp (t := (T.bool (decide (a.Number = b.Number)))) rfl)) ?_
  refine bool_way (decide (a.Number = b.Number)) (fun hg10_1 => ?_) (fun hg10_1 => ?_)
  · have fhg10_1 : a.Number = b.Number := of_decide_eq_true hg10_1
    refine VRunO.free (VWant.on (b := (decide (a.Number = b.Number))) rfl rfl hg10_1) (OF.fieldAddrO (VEv.tmp (t := (T.op 0 0)) rfl) fa82_1) ?_
    refine VRunO.look (VWant.on (b := (decide (a.Number = b.Number))) rfl rfl hg10_1) (OL.loadOn (us := (ePuzzle false a.Puzzle)) (VEv.tmp (t := (T.op 0 1)) rfl) rfl st80 sz80 (Nat.le_of_ble_eq_true rfl) rfl) ?_
    refine VRunO.free (VWant.on (b := (decide (a.Number = b.Number))) rfl rfl hg10_1) (OF.fieldAddrO (VEv.tmp (t := (T.op 1 0)) rfl) fa82_1) ?_
    refine VRunO.look (VWant.on (b := (decide (a.Number = b.Number))) rfl rfl hg10_1) (OL.loadOn (us := (ePuzzle false b.Puzzle)) (VEv.tmp (t := (T.op 1 1)) rfl) rfl st80 sz80 (Nat.le_of_ble_eq_true rfl) rfl) ?_
    refine VRunO.chain (VWant.on (b := (decide (a.Number = b.Number))) rfl rfl hg10_1) (OC.callF (us := [(T.agg (ePuzzle false a.Puzzle)), (T.agg (ePuzzle false b.Puzzle))]) (r := (T.bool (decide (a.Puzzle = b.Puzzle)))) (r' := (T.bool (decide (a.Puzzle = b.Puzzle)))) (objs := []) rfl (VEvs.cons (VEv.tmp (t := (T.agg (ePuzzle false a.Puzzle))) rfl) (VEvs.cons (VEv.tmp (t := (T.agg (ePuzzle false b.Puzzle))) rfl) VEvs.nil)) (LendL.cons (Lend.agg (LendL.cons (Lend.pl rfl) (LendL.cons (Lend.pl rfl) (LendL.cons (Lend.pl rfl) (LendL.cons (Lend.pl rfl) (LendL.cons (Lend.pl rfl) (LendL.cons (Lend.pl rfl) (LendL.nil)))))))) (LendL.cons (Lend.agg (LendL.cons (Lend.pl rfl) (LendL.cons (Lend.pl rfl) (LendL.cons (Lend.pl rfl) (LendL.cons (Lend.pl rfl) (LendL.cons (Lend.pl rfl) (LendL.cons (Lend.pl rfl) (LendL.nil)))))))) (LendL.nil))) (W_impl_EqualPuzzles (n + 0) a.Puzzle b.Puzzle (by first | assumption | omega | (simp only [List.length_map]; omega) | (simp only [List.length_map, List.length_append, List.length_cons, List.length_nil, List.length_replicate, List.length_set, List.length_drop, List.length_take, lim] at *; omega)) (by first | assumption | omega | (simp only [List.length_map]; omega) | (simp only [List.length_map, List.length_append, List.length_cons, List.length_nil, List.length_replicate, List.length_set, List.length_drop, List.length_take, lim] at *; omega))) rfl) ?_
    refine VRunO.free VWant.always (OF.pickT (VEv.tmpB (b := (decide (a.Number = b.Number))) rfl hg10_1) (VEv.tmp (t := (T.bool (decide (a.Puzzle = b.Puzzle)))) rfl)) ?_
    refine VRunO.free VWant.always (OF.move (VEv.tmp (t := (T.bool (decide (a.Puzzle = b.Puzzle)))) rfl)) ?_
    refine bool_way (decide (a.Puzzle = b.Puzzle)) (fun hg17_2 => ?_) (fun hg17_2 => ?_)
    · have fhg17_2 : a.Puzzle = b.Puzzle := of_decide_eq_true hg17_2
      refine VRunO.free (VWant.on (b := (decide (a.Puzzle = b.Puzzle))) rfl rfl hg17_2) (OF.fieldAddrO (VEv.tmp (t := (T.op 0 0)) rfl) fa82_2) ?_
      refine VRunO.look (VWant.on (b := (decide (a.Puzzle = b.Puzzle))) rfl rfl hg17_2) (OL.loadO1 (t := (T.str a.Fill)) (VEv.tmp (t := (T.op 0 7)) rfl) rfl rfl st9) ?_
      refine VRunO.free (VWant.on (b := (decide (a.Puzzle = b.Puzzle))) rfl rfl hg17_2) (OF.fieldAddrO (VEv.tmp (t := (T.op 1 0)) rfl) fa82_2) ?_
      refine VRunO.look (VWant.on (b := (decide (a.Puzzle = b.Puzzle))) rfl rfl hg17_2) (OL.loadO1 (t := (T.str b.Fill)) (VEv.tmp (t := (T.op 1 7)) rfl) rfl rfl st9) ?_
      refine VRunO.free (VWant.on (b := (decide (a.Puzzle = b.Puzzle))) rfl rfl hg17_2) (B.seql (c := (decide (a.Fill = b.Fill))) (VEv.tmp (t := (T.str a.Fill)) rfl) (VEv.tmp (t := (T.str b.Fill)) rfl) rfl) ?_
      refine VRunO.free VWant.always (OF.pickT (VEv.tmpB (b := (decide (a.Puzzle = b.Puzzle))) rfl hg17_2) (VEv.tmp (t := (T.bool (decide (a.Fill = b.Fill)))) rfl)) ?_
      refine VRunO.free VWant.always (OF.move (VEv.tmp (t := (T.bool (decide (a.Fill = b.Fill)))) rfl)) ?_
      refine bool_way (decide (a.Fill = b.Fill)) (fun hg24_3 => ?_) (fun hg24_3 => ?_)
      · have fhg24_3 : a.Fill = b.Fill := of_decide_eq_true hg24_3
        refine VRunO.free (VWant.on (b := (decide (a.Fill = b.Fill))) rfl rfl hg24_3) (OF.fieldAddrO (VEv.tmp (t := (T.op 0 0)) rfl) fa82_3) ?_
        refine VRunO.look (VWant.on (b := (decide (a.Fill = b.Fill))) rfl rfl hg24_3) (OL.loadO1 (t := (T.int .i64 a.Open)) (VEv.tmp (t := (T.op 0 8)) rfl) rfl rfl st3) ?_
        refine VRunO.free (VWant.on (b := (decide (a.Fill = b.Fill))) rfl rfl hg24_3) (OF.fieldAddrO (VEv.tmp (t := (T.op 1 0)) rfl) fa82_3) ?_
        refine VRunO.look (VWant.on (b := (decide (a.Fill = b.Fill))) rfl rfl hg24_3) (OL.loadO1 (t := (T.int .i64 b.Open)) (VEv.tmp (t := (T.op 1 8)) rfl) rfl rfl st3) ?_
        refine VRunO.free (VWant.on (b := (decide (a.Fill = b.Fill))) rfl rfl hg24_3) (B.eql (c := (decide (a.Open = b.Open))) (VEv.tmp (t := (T.int .i64 a.Open)) rfl) (VEv.tmp (t := (T.int .i64 b.Open)) rfl) rfl) ?_
        refine VRunO.free VWant.always (OF.pickT (VEv.tmpB (b := (decide (a.Fill = b.Fill))) rfl hg24_3) (VEv.tmp (t := (T.bool (decide (a.Open = b.Open)))) rfl)) ?_
        refine VRunO.free VWant.always (OF.move (VEv.tmp (t := (T.bool (decide (a.Open = b.Open)))) rfl)) ?_
        refine bool_way (decide (a.Open = b.Open)) (fun hg31_4 => ?_) (fun hg31_4 => ?_)
        · have fhg31_4 : a.Open = b.Open := of_decide_eq_true hg31_4
          refine VRunO.free (VWant.on (b := (decide (a.Open = b.Open))) rfl rfl hg31_4) (OF.fieldAddrO (VEv.tmp (t := (T.op 0 0)) rfl) fa82_4) ?_
          refine VRunO.look (VWant.on (b := (decide (a.Open = b.Open))) rfl rfl hg31_4) (OL.loadO1 (t := (T.int .i64 a.Close)) (VEv.tmp (t := (T.op 0 9)) rfl) rfl rfl st3) ?_
          refine VRunO.free (VWant.on (b := (decide (a.Open = b.Open))) rfl rfl hg31_4) (OF.fieldAddrO (VEv.tmp (t := (T.op 1 0)) rfl) fa82_4) ?_
          refine VRunO.look (VWant.on (b := (decide (a.Open = b.Open))) rfl rfl hg31_4) (OL.loadO1 (t := (T.int .i64 b.Close)) (VEv.tmp (t := (T.op 1 9)) rfl) rfl rfl st3) ?_
          refine VRunO.free (VWant.on (b := (decide (a.Open = b.Open))) rfl rfl hg31_4) (B.eql (c := (decide (a.Close = b.Close))) (VEv.tmp (t := (T.int .i64 a.Close)) rfl) (VEv.tmp (t := (T.int .i64 b.Close)) rfl) rfl) ?_
          refine VRunO.free VWant.always (OF.pickT (VEv.tmpB (b := (decide (a.Open = b.Open))) rfl hg31_4) (VEv.tmp (t := (T.bool (decide (a.Close = b.Close)))) rfl)) ?_
          refine VRunO.free VWant.always (OF.assign (VEv.tmp (t := (T.bool (decide (a.Close = b.Close)))) rfl)) ?_
          refine VRunO.nil ?_
          refine vthn.n ?_
          refine VRun.ret ?_
          refine vfin.eq (r' := (T.bool (decide (a.Close = b.Close)))) ?_ (vfin.r (VRes.tmp (t := (T.bool (decide (a.Close = b.Close)))) rfl VRes.nil) (Give.bool _))
          show (T.bool (decide (a.Close = b.Close))) = (T.bool (decide (a = b)))
          refine congrArg T.bool ?_
          obtain ⟨a1, a2, a3, a4, a5⟩ := a
          obtain ⟨b1, b2, b3, b4, b5⟩ := b
          simp_all
        · have fhg31_4 : ¬ (a.Open = b.Open) := of_decide_eq_false hg31_4
          refine VRunO.off (VWant.not (b := (decide (a.Open = b.Open))) rfl rfl hg31_4) ?_
          refine VRunO.off (VWant.not (b := (decide (a.Open = b.Open))) rfl rfl hg31_4) ?_
          refine VRunO.off (VWant.not (b := (decide (a.Open = b.Open))) rfl rfl hg31_4) ?_
          refine VRunO.off (VWant.not (b := (decide (a.Open = b.Open))) rfl rfl hg31_4) ?_
          refine VRunO.off (VWant.not (b := (decide (a.Open = b.Open))) rfl rfl hg31_4) ?_
          refine VRunO.free VWant.always (OF.pickF (VEv.tmpB (b := (decide (a.Open = b.Open))) rfl hg31_4) (VEv.bool false)) ?_
          refine VRunO.free VWant.always (OF.assign (VEv.tmp (t := (T.bool false)) rfl)) ?_
          refine VRunO.nil ?_
          refine vthn.n ?_
          refine VRun.ret ?_
          refine vfin.eq (r' := (T.bool false)) ?_ (vfin.r (VRes.tmp (t := (T.bool false)) rfl VRes.nil) (Give.bool _))
          show (T.bool false) = (T.bool (decide (a = b)))
          refine congrArg T.bool ?_
          obtain ⟨a1, a2, a3, a4, a5⟩ := a
          obtain ⟨b1, b2, b3, b4, b5⟩ := b
          simp_all
      · have fhg24_3 : ¬ (a.Fill = b.Fill) := of_decide_eq_false hg24_3
        refine VRunO.off (VWant.not (b := (decide (a.Fill = b.Fill))) rfl rfl hg24_3) ?_
        refine VRunO.off (VWant.not (b := (decide (a.Fill = b.Fill))) rfl rfl hg24_3) ?_
        refine VRunO.off (VWant.not (b := (decide (a.Fill = b.Fill))) rfl rfl hg24_3) ?_
        refine VRunO.off (VWant.not (b := (decide (a.Fill = b.Fill))) rfl rfl hg24_3) ?_
        refine VRunO.off (VWant.not (b := (decide (a.Fill = b.Fill))) rfl rfl hg24_3) ?_
        refine VRunO.free VWant.always (OF.pickF (VEv.tmpB (b := (decide (a.Fill = b.Fill))) rfl hg24_3) (VEv.bool false)) ?_
        refine VRunO.free VWant.always (OF.move (VEv.tmp (t := (T.bool false)) rfl)) ?_
        refine VRunO.off (VWant.not (b := false) rfl rfl rfl) ?_
        refine VRunO.off (VWant.not (b := false) rfl rfl rfl) ?_
        refine VRunO.off (VWant.not (b := false) rfl rfl rfl) ?_
        refine VRunO.off (VWant.not (b := false) rfl rfl rfl) ?_
        refine VRunO.off (VWant.not (b := false) rfl rfl rfl) ?_
        refine VRunO.free VWant.always (OF.pickF (VEv.tmp (t := (T.bool false)) rfl) (VEv.bool false)) ?_
        refine VRunO.free VWant.always (OF.assign (VEv.tmp (t := (T.bool false)) rfl)) ?_
        refine VRunO.nil ?_
        refine vthn.n ?_
        refine VRun.ret ?_
        refine vfin.eq (r' := (T.bool false)) ?_ (vfin.r (VRes.tmp (t := (T.bool false)) rfl VRes.nil) (Give.bool _))
        show (T.bool false) = (T.bool (decide (a = b)))
        refine congrArg T.bool ?_
        obtain ⟨a1, a2, a3, a4, a5⟩ := a
        obtain ⟨b1, b2, b3, b4, b5⟩ := b
        simp_all
    · have fhg17_2 : ¬ (a.Puzzle = b.Puzzle) := of_decide_eq_false hg17_2
      refine VRunO.off (VWant.not (b := (decide (a.Puzzle = b.Puzzle))) rfl rfl hg17_2) ?_
      refine VRunO.off (VWant.not (b := (decide (a.Puzzle = b.Puzzle))) rfl rfl hg17_2) ?_
      refine VRunO.off (VWant.not (b := (decide (a.Puzzle = b.Puzzle))) rfl rfl hg17_2) ?_
      refine VRunO.off (VWant.not (b := (decide (a.Puzzle = b.Puzzle))) rfl rfl hg17_2) ?_
      refine VRunO.off (VWant.not (b := (decide (a.Puzzle = b.Puzzle))) rfl rfl hg17_2) ?_
      refine VRunO.free VWant.always (OF.pickF (VEv.tmpB (b := (decide (a.Puzzle = b.Puzzle))) rfl hg17_2) (VEv.bool false)) ?_
      refine VRunO.free VWant.always (OF.move (VEv.tmp (t := (T.bool false)) rfl)) ?_
      refine VRunO.off (VWant.not (b := false) rfl rfl rfl) ?_
      refine VRunO.off (VWant.not (b := false) rfl rfl rfl) ?_
      refine VRunO.off (VWant.not (b := false) rfl rfl rfl) ?_
      refine VRunO.off (VWant.not (b := false) rfl rfl rfl) ?_
      refine VRunO.off (VWant.not (b := false) rfl rfl rfl) ?_
      refine VRunO.free VWant.always (OF.pickF (VEv.tmp (t := (T.bool false)) rfl) (VEv.bool false)) ?_
      refine VRunO.free VWant.always (OF.move (VEv.tmp (t := (T.bool false)) rfl)) ?_
      refine VRunO.off (VWant.not (b := false) rfl rfl rfl) ?_
      refine VRunO.off (VWant.not (b := false) rfl rfl rfl) ?_
      refine VRunO.off (VWant.not (b := false) rfl rfl rfl) ?_
      refine VRunO.off (VWant.not (b := false) rfl rfl rfl) ?_
      refine VRunO.off (VWant.not (b := false) rfl rfl rfl) ?_
      refine VRunO.free VWant.always (OF.pickF (VEv.tmp (t := (T.bool false)) rfl) (VEv.bool false)) ?_
      refine VRunO.free VWant.always (OF.assign (VEv.tmp (t := (T.bool false)) rfl)) ?_
      refine VRunO.nil ?_
      refine vthn.n ?_
      refine VRun.ret ?_
      refine vfin.eq (r' := (T.bool false)) ?_ (vfin.r (VRes.tmp (t := (T.bool false)) rfl VRes.nil) (Give.bool _))
      show (T.bool false) = (T.bool (decide (a = b)))
      refine congrArg T.bool ?_
      obtain ⟨a1, a2, a3, a4, a5⟩ := a
      obtain ⟨b1, b2, b3, b4, b5⟩ := b
      simp_all
  · have fhg10_1 : ¬ (a.Number = b.Number) := of_decide_eq_false hg10_1
    refine VRunO.off (VWant.not (b := (decide (a.Number = b.Number))) rfl rfl hg10_1) ?_
    refine VRunO.off (VWant.not (b := (decide (a.Number = b.Number))) rfl rfl hg10_1) ?_
    refine VRunO.off (VWant.not (b := (decide (a.Number = b.Number))) rfl rfl hg10_1) ?_
    refine VRunO.off (VWant.not (b := (decide (a.Number = b.Number))) rfl rfl hg10_1) ?_
    refine VRunO.off (VWant.not (b := (decide (a.Number = b.Number))) rfl rfl hg10_1) ?_
    refine VRunO.free VWant.always (OF.pickF (VEv.tmpB (b := (decide (a.Number = b.Number))) rfl hg10_1) (VEv.bool false)) ?_
    refine VRunO.free VWant.always (OF.move (VEv.tmp (t := (T.bool false)) rfl)) ?_
    refine VRunO.off (VWant.not (b := false) rfl rfl rfl) ?_
    refine VRunO.off (VWant.not (b := false) rfl rfl rfl) ?_
    refine VRunO.off (VWant.not (b := false) rfl rfl rfl) ?_
    refine VRunO.off (VWant.not (b := false) rfl rfl rfl) ?_
    refine VRunO.off (VWant.not (b := false) rfl rfl rfl) ?_
    refine VRunO.free VWant.always (OF.pickF (VEv.tmp (t := (T.bool false)) rfl) (VEv.bool false)) ?_
    refine VRunO.free VWant.always (OF.move (VEv.tmp (t := (T.bool false)) rfl)) ?_
    refine VRunO.off (VWant.not (b := false) rfl rfl rfl) ?_
    refine VRunO.off (VWant.not (b := false) rfl rfl rfl) ?_
    refine VRunO.off (VWant.not (b := false) rfl rfl rfl) ?_
    refine VRunO.off (VWant.not (b := false) rfl rfl rfl) ?_
    refine VRunO.off (VWant.not (b := false) rfl rfl rfl) ?_
    refine VRunO.free VWant.always (OF.pickF (VEv.tmp (t := (T.bool false)) rfl) (VEv.bool false)) ?_
    refine VRunO.free VWant.always (OF.move (VEv.tmp (t := (T.bool false)) rfl)) ?_
    refine VRunO.off (VWant.not (b := false) rfl rfl rfl) ?_
    refine VRunO.off (VWant.not (b := false) rfl rfl rfl) ?_
    refine VRunO.off (VWant.not (b := false) rfl rfl rfl) ?_
    refine VRunO.off (VWant.not (b := false) rfl rfl rfl) ?_
    refine VRunO.off (VWant.not (b := false) rfl rfl rfl) ?_
    refine VRunO.free VWant.always (OF.pickF (VEv.tmp (t := (T.bool false)) rfl) (VEv.bool false)) ?_
    refine VRunO.free VWant.always (OF.assign (VEv.tmp (t := (T.bool false)) rfl)) ?_
    refine VRunO.nil ?_
    refine vthn.n ?_
    refine VRun.ret ?_
    refine vfin.eq (r' := (T.bool false)) ?_ (vfin.r (VRes.tmp (t := (T.bool false)) rfl VRes.nil) (Give.bool _))
    show (T.bool false) = (T.bool (decide (a = b)))
    refine congrArg T.bool ?_
    obtain ⟨a1, a2, a3, a4, a5⟩ := a
    obtain ⟨b1, b2, b3, b4, b5⟩ := b
    simp_all
theorem W_spec_EqualIssues (n : Nat) (a : D.Issue) (b : D.Issue) (hza : zIssue a ≤ mx) (hzb : zIssue b ≤ mx) : Pure (acall Try.prog (n + 3)) 54 [(T.agg (eIssue false a)), (T.agg (eIssue false b))] (T.bool (decide (a = b))) := by
  refine Pure.intro (rs := [ResultVar.tmp 4]) Try.func54 rfl rfl rfl (E0 := [(0, (T.agg (eIssue false a))), (1, (T.agg (eIssue false b)))]) rfl ?_
  have hlim : lim = 1099511627776 := rfl
  have hmx : mx = 1048576 := rfl
  have hmax : maxLen = 9223372036854775807 := rfl
  simp only [zIssue] at hza hzb
  refine VRun.seq ?_
  refine VRun.region ?_
  refine VRunO.make VWant.always (B.box (ts := [(T.int .i64 a.Number), (T.int .i64 a.Puzzle.Grid.Rows), (T.int .i64 a.Puzzle.Grid.Cols), (T.str a.Puzzle.Grid.Cells), (T.sl false 2 (a.Puzzle.Clues.map (eClue false))), (T.sl false 1 (a.Puzzle.Seals.map (eInt false))), (T.int .i64 a.Puzzle.Salt), (T.str a.Fill), (T.int .i64 a.Open), (T.int .i64 a.Close)]) (VEv.tmp (t := (T.agg (eIssue false a))) rfl) nofun rfl) ?_
  refine VRunO.make VWant.always (B.box (ts := [(T.int .i64 b.Number), (T.int .i64 b.Puzzle.Grid.Rows), (T.int .i64 b.Puzzle.Grid.Cols), (T.str b.Puzzle.Grid.Cells), (T.sl false 2 (b.Puzzle.Clues.map (eClue false))), (T.sl false 1 (b.Puzzle.Seals.map (eInt false))), (T.int .i64 b.Puzzle.Salt), (T.str b.Fill), (T.int .i64 b.Open), (T.int .i64 b.Close)]) (VEv.tmp (t := (T.agg (eIssue false b))) rfl) nofun rfl) ?_
  refine VRunO.free VWant.always (OF.assign (VEv.bool false)) ?_
  refine VRunO.nil ?_
  refine vthn.n ?_
  refine VRun.seq ?_
  refine VRun.region ?_
  refine VRunO.free VWant.always (OF.fieldAddrO (VEv.tmp (t := (T.op 0 0)) rfl) fa82_0) ?_
  refine VRunO.look VWant.always (OL.loadO1 (t := (T.int .i64 a.Number)) (VEv.tmp (t := (T.op 0 0)) rfl) rfl rfl st3) ?_
  refine VRunO.free VWant.always (OF.fieldAddrO (VEv.tmp (t := (T.op 1 0)) rfl) fa82_0) ?_
  refine VRunO.look VWant.always (OL.loadO1 (t := (T.int .i64 b.Number)) (VEv.tmp (t := (T.op 1 0)) rfl) rfl rfl st3) ?_
  refine VRunO.free VWant.always (B.eql (c := (decide (a.Number = b.Number))) (VEv.tmp (t := (T.int .i64 a.Number)) rfl) (VEv.tmp (t := (T.int .i64 b.Number)) rfl) rfl) ?_
  refine VRunO.free VWant.always (OF.move (VEv.tmp (t := (T.bool (decide (a.Number = b.Number)))) rfl)) ?_
  refine bool_way (decide (a.Number = b.Number)) (fun hg10_1 => ?_) (fun hg10_1 => ?_)
  · have fhg10_1 : a.Number = b.Number := of_decide_eq_true hg10_1
    refine VRunO.free (VWant.on (b := (decide (a.Number = b.Number))) rfl rfl hg10_1) (OF.fieldAddrO (VEv.tmp (t := (T.op 0 0)) rfl) fa82_2) ?_
    refine VRunO.look (VWant.on (b := (decide (a.Number = b.Number))) rfl rfl hg10_1) (OL.loadO1 (t := (T.str a.Fill)) (VEv.tmp (t := (T.op 0 7)) rfl) rfl rfl st9) ?_
    refine VRunO.free (VWant.on (b := (decide (a.Number = b.Number))) rfl rfl hg10_1) (OF.fieldAddrO (VEv.tmp (t := (T.op 1 0)) rfl) fa82_2) ?_
    refine VRunO.look (VWant.on (b := (decide (a.Number = b.Number))) rfl rfl hg10_1) (OL.loadO1 (t := (T.str b.Fill)) (VEv.tmp (t := (T.op 1 7)) rfl) rfl rfl st9) ?_
    refine VRunO.free (VWant.on (b := (decide (a.Number = b.Number))) rfl rfl hg10_1) (B.seql (c := (decide (a.Fill = b.Fill))) (VEv.tmp (t := (T.str a.Fill)) rfl) (VEv.tmp (t := (T.str b.Fill)) rfl) rfl) ?_
    refine VRunO.free VWant.always (OF.pickT (VEv.tmpB (b := (decide (a.Number = b.Number))) rfl hg10_1) (VEv.tmp (t := (T.bool (decide (a.Fill = b.Fill)))) rfl)) ?_
    refine VRunO.free VWant.always (OF.move (VEv.tmp (t := (T.bool (decide (a.Fill = b.Fill)))) rfl)) ?_
    refine bool_way (decide (a.Fill = b.Fill)) (fun hg17_2 => ?_) (fun hg17_2 => ?_)
    · have fhg17_2 : a.Fill = b.Fill := of_decide_eq_true hg17_2
      refine VRunO.free (VWant.on (b := (decide (a.Fill = b.Fill))) rfl rfl hg17_2) (OF.fieldAddrO (VEv.tmp (t := (T.op 0 0)) rfl) fa82_3) ?_
      refine VRunO.look (VWant.on (b := (decide (a.Fill = b.Fill))) rfl rfl hg17_2) (OL.loadO1 (t := (T.int .i64 a.Open)) (VEv.tmp (t := (T.op 0 8)) rfl) rfl rfl st3) ?_
      refine VRunO.free (VWant.on (b := (decide (a.Fill = b.Fill))) rfl rfl hg17_2) (OF.fieldAddrO (VEv.tmp (t := (T.op 1 0)) rfl) fa82_3) ?_
      refine VRunO.look (VWant.on (b := (decide (a.Fill = b.Fill))) rfl rfl hg17_2) (OL.loadO1 (t := (T.int .i64 b.Open)) (VEv.tmp (t := (T.op 1 8)) rfl) rfl rfl st3) ?_
      refine VRunO.free (VWant.on (b := (decide (a.Fill = b.Fill))) rfl rfl hg17_2) (B.eql (c := (decide (a.Open = b.Open))) (VEv.tmp (t := (T.int .i64 a.Open)) rfl) (VEv.tmp (t := (T.int .i64 b.Open)) rfl) rfl) ?_
      refine VRunO.free VWant.always (OF.pickT (VEv.tmpB (b := (decide (a.Fill = b.Fill))) rfl hg17_2) (VEv.tmp (t := (T.bool (decide (a.Open = b.Open)))) rfl)) ?_
      refine VRunO.free VWant.always (OF.move (VEv.tmp (t := (T.bool (decide (a.Open = b.Open)))) rfl)) ?_
      refine bool_way (decide (a.Open = b.Open)) (fun hg24_3 => ?_) (fun hg24_3 => ?_)
      · have fhg24_3 : a.Open = b.Open := of_decide_eq_true hg24_3
        refine VRunO.free (VWant.on (b := (decide (a.Open = b.Open))) rfl rfl hg24_3) (OF.fieldAddrO (VEv.tmp (t := (T.op 0 0)) rfl) fa82_4) ?_
        refine VRunO.look (VWant.on (b := (decide (a.Open = b.Open))) rfl rfl hg24_3) (OL.loadO1 (t := (T.int .i64 a.Close)) (VEv.tmp (t := (T.op 0 9)) rfl) rfl rfl st3) ?_
        refine VRunO.free (VWant.on (b := (decide (a.Open = b.Open))) rfl rfl hg24_3) (OF.fieldAddrO (VEv.tmp (t := (T.op 1 0)) rfl) fa82_4) ?_
        refine VRunO.look (VWant.on (b := (decide (a.Open = b.Open))) rfl rfl hg24_3) (OL.loadO1 (t := (T.int .i64 b.Close)) (VEv.tmp (t := (T.op 1 9)) rfl) rfl rfl st3) ?_
        refine VRunO.free (VWant.on (b := (decide (a.Open = b.Open))) rfl rfl hg24_3) (B.eql (c := (decide (a.Close = b.Close))) (VEv.tmp (t := (T.int .i64 a.Close)) rfl) (VEv.tmp (t := (T.int .i64 b.Close)) rfl) rfl) ?_
        refine VRunO.free VWant.always (OF.pickT (VEv.tmpB (b := (decide (a.Open = b.Open))) rfl hg24_3) (VEv.tmp (t := (T.bool (decide (a.Close = b.Close)))) rfl)) ?_
        refine VRunO.free VWant.always (OF.move (VEv.tmp (t := (T.bool (decide (a.Close = b.Close)))) rfl)) ?_
        refine bool_way (decide (a.Close = b.Close)) (fun hg31_4 => ?_) (fun hg31_4 => ?_)
        · have fhg31_4 : a.Close = b.Close := of_decide_eq_true hg31_4
          refine VRunO.free (VWant.on (b := (decide (a.Close = b.Close))) rfl rfl hg31_4) (OF.fieldAddrO (VEv.tmp (t := (T.op 0 0)) rfl) fa82_1) ?_
          refine VRunO.look (VWant.on (b := (decide (a.Close = b.Close))) rfl rfl hg31_4) (OL.loadOn (us := (ePuzzle false a.Puzzle)) (VEv.tmp (t := (T.op 0 1)) rfl) rfl st80 sz80 (Nat.le_of_ble_eq_true rfl) rfl) ?_
          refine VRunO.free (VWant.on (b := (decide (a.Close = b.Close))) rfl rfl hg31_4) (OF.fieldAddrO (VEv.tmp (t := (T.op 1 0)) rfl) fa82_1) ?_
          refine VRunO.look (VWant.on (b := (decide (a.Close = b.Close))) rfl rfl hg31_4) (OL.loadOn (us := (ePuzzle false b.Puzzle)) (VEv.tmp (t := (T.op 1 1)) rfl) rfl st80 sz80 (Nat.le_of_ble_eq_true rfl) rfl) ?_
          refine VRunO.chain (VWant.on (b := (decide (a.Close = b.Close))) rfl rfl hg31_4) (OC.callF (us := [(T.agg (ePuzzle false a.Puzzle)), (T.agg (ePuzzle false b.Puzzle))]) (r := (T.bool (decide (a.Puzzle = b.Puzzle)))) (r' := (T.bool (decide (a.Puzzle = b.Puzzle)))) (objs := []) rfl (VEvs.cons (VEv.tmp (t := (T.agg (ePuzzle false a.Puzzle))) rfl) (VEvs.cons (VEv.tmp (t := (T.agg (ePuzzle false b.Puzzle))) rfl) VEvs.nil)) (LendL.cons (Lend.agg (LendL.cons (Lend.pl rfl) (LendL.cons (Lend.pl rfl) (LendL.cons (Lend.pl rfl) (LendL.cons (Lend.pl rfl) (LendL.cons (Lend.pl rfl) (LendL.cons (Lend.pl rfl) (LendL.nil)))))))) (LendL.cons (Lend.agg (LendL.cons (Lend.pl rfl) (LendL.cons (Lend.pl rfl) (LendL.cons (Lend.pl rfl) (LendL.cons (Lend.pl rfl) (LendL.cons (Lend.pl rfl) (LendL.cons (Lend.pl rfl) (LendL.nil)))))))) (LendL.nil))) (W_spec_EqualPuzzles (n + 0) a.Puzzle b.Puzzle (by first | assumption | omega | (simp only [List.length_map]; omega) | (simp only [List.length_map, List.length_append, List.length_cons, List.length_nil, List.length_replicate, List.length_set, List.length_drop, List.length_take, lim] at *; omega)) (by first | assumption | omega | (simp only [List.length_map]; omega) | (simp only [List.length_map, List.length_append, List.length_cons, List.length_nil, List.length_replicate, List.length_set, List.length_drop, List.length_take, lim] at *; omega))) rfl) ?_
          refine VRunO.free VWant.always (OF.pickT (VEv.tmpB (b := (decide (a.Close = b.Close))) rfl hg31_4) (VEv.tmp (t := (T.bool (decide (a.Puzzle = b.Puzzle)))) rfl)) ?_
          refine VRunO.free VWant.always (OF.assign (VEv.tmp (t := (T.bool (decide (a.Puzzle = b.Puzzle)))) rfl)) ?_
          refine VRunO.nil ?_
          refine vthn.n ?_
          refine VRun.ret ?_
          refine vfin.eq (r' := (T.bool (decide (a.Puzzle = b.Puzzle)))) ?_ (vfin.r (VRes.tmp (t := (T.bool (decide (a.Puzzle = b.Puzzle)))) rfl VRes.nil) (Give.bool _))
          show (T.bool (decide (a.Puzzle = b.Puzzle))) = (T.bool (decide (a = b)))
          refine congrArg T.bool ?_
          obtain ⟨a1, a2, a3, a4, a5⟩ := a
          obtain ⟨b1, b2, b3, b4, b5⟩ := b
          simp_all
        · have fhg31_4 : ¬ (a.Close = b.Close) := of_decide_eq_false hg31_4
          refine VRunO.off (VWant.not (b := (decide (a.Close = b.Close))) rfl rfl hg31_4) ?_
          refine VRunO.off (VWant.not (b := (decide (a.Close = b.Close))) rfl rfl hg31_4) ?_
          refine VRunO.off (VWant.not (b := (decide (a.Close = b.Close))) rfl rfl hg31_4) ?_
          refine VRunO.off (VWant.not (b := (decide (a.Close = b.Close))) rfl rfl hg31_4) ?_
          refine VRunO.off (VWant.not (b := (decide (a.Close = b.Close))) rfl rfl hg31_4) ?_
          refine VRunO.free VWant.always (OF.pickF (VEv.tmpB (b := (decide (a.Close = b.Close))) rfl hg31_4) (VEv.bool false)) ?_
          refine VRunO.free VWant.always (OF.assign (VEv.tmp (t := (T.bool false)) rfl)) ?_
          refine VRunO.nil ?_
          refine vthn.n ?_
          refine VRun.ret ?_
          refine vfin.eq (r' := (T.bool false)) ?_ (vfin.r (VRes.tmp (t := (T.bool false)) rfl VRes.nil) (Give.bool _))
          show (T.bool false) = (T.bool (decide (a = b)))
          refine congrArg T.bool ?_
          obtain ⟨a1, a2, a3, a4, a5⟩ := a
          obtain ⟨b1, b2, b3, b4, b5⟩ := b
          simp_all
      · have fhg24_3 : ¬ (a.Open = b.Open) := of_decide_eq_false hg24_3
        refine VRunO.off (VWant.not (b := (decide (a.Open = b.Open))) rfl rfl hg24_3) ?_
        refine VRunO.off (VWant.not (b := (decide (a.Open = b.Open))) rfl rfl hg24_3) ?_
        refine VRunO.off (VWant.not (b := (decide (a.Open = b.Open))) rfl rfl hg24_3) ?_
        refine VRunO.off (VWant.not (b := (decide (a.Open = b.Open))) rfl rfl hg24_3) ?_
        refine VRunO.off (VWant.not (b := (decide (a.Open = b.Open))) rfl rfl hg24_3) ?_
        refine VRunO.free VWant.always (OF.pickF (VEv.tmpB (b := (decide (a.Open = b.Open))) rfl hg24_3) (VEv.bool false)) ?_
        refine VRunO.free VWant.always (OF.move (VEv.tmp (t := (T.bool false)) rfl)) ?_
        refine VRunO.off (VWant.not (b := false) rfl rfl rfl) ?_
        refine VRunO.off (VWant.not (b := false) rfl rfl rfl) ?_
        refine VRunO.off (VWant.not (b := false) rfl rfl rfl) ?_
        refine VRunO.off (VWant.not (b := false) rfl rfl rfl) ?_
        refine VRunO.off (VWant.not (b := false) rfl rfl rfl) ?_
        refine VRunO.free VWant.always (OF.pickF (VEv.tmp (t := (T.bool false)) rfl) (VEv.bool false)) ?_
        refine VRunO.free VWant.always (OF.assign (VEv.tmp (t := (T.bool false)) rfl)) ?_
        refine VRunO.nil ?_
        refine vthn.n ?_
        refine VRun.ret ?_
        refine vfin.eq (r' := (T.bool false)) ?_ (vfin.r (VRes.tmp (t := (T.bool false)) rfl VRes.nil) (Give.bool _))
        show (T.bool false) = (T.bool (decide (a = b)))
        refine congrArg T.bool ?_
        obtain ⟨a1, a2, a3, a4, a5⟩ := a
        obtain ⟨b1, b2, b3, b4, b5⟩ := b
        simp_all
    · have fhg17_2 : ¬ (a.Fill = b.Fill) := of_decide_eq_false hg17_2
      refine VRunO.off (VWant.not (b := (decide (a.Fill = b.Fill))) rfl rfl hg17_2) ?_
      refine VRunO.off (VWant.not (b := (decide (a.Fill = b.Fill))) rfl rfl hg17_2) ?_
      refine VRunO.off (VWant.not (b := (decide (a.Fill = b.Fill))) rfl rfl hg17_2) ?_
      refine VRunO.off (VWant.not (b := (decide (a.Fill = b.Fill))) rfl rfl hg17_2) ?_
      refine VRunO.off (VWant.not (b := (decide (a.Fill = b.Fill))) rfl rfl hg17_2) ?_
      refine VRunO.free VWant.always (OF.pickF (VEv.tmpB (b := (decide (a.Fill = b.Fill))) rfl hg17_2) (VEv.bool false)) ?_
      refine VRunO.free VWant.always (OF.move (VEv.tmp (t := (T.bool false)) rfl)) ?_
      refine VRunO.off (VWant.not (b := false) rfl rfl rfl) ?_
      refine VRunO.off (VWant.not (b := false) rfl rfl rfl) ?_
      refine VRunO.off (VWant.not (b := false) rfl rfl rfl) ?_
      refine VRunO.off (VWant.not (b := false) rfl rfl rfl) ?_
      refine VRunO.off (VWant.not (b := false) rfl rfl rfl) ?_
      refine VRunO.free VWant.always (OF.pickF (VEv.tmp (t := (T.bool false)) rfl) (VEv.bool false)) ?_
      refine VRunO.free VWant.always (OF.move (VEv.tmp (t := (T.bool false)) rfl)) ?_
      refine VRunO.off (VWant.not (b := false) rfl rfl rfl) ?_
      refine VRunO.off (VWant.not (b := false) rfl rfl rfl) ?_
      refine VRunO.off (VWant.not (b := false) rfl rfl rfl) ?_
      refine VRunO.off (VWant.not (b := false) rfl rfl rfl) ?_
      refine VRunO.off (VWant.not (b := false) rfl rfl rfl) ?_
      refine VRunO.free VWant.always (OF.pickF (VEv.tmp (t := (T.bool false)) rfl) (VEv.bool false)) ?_
      refine VRunO.free VWant.always (OF.assign (VEv.tmp (t := (T.bool false)) rfl)) ?_
      refine VRunO.nil ?_
      refine vthn.n ?_
      refine VRun.ret ?_
      refine vfin.eq (r' := (T.bool false)) ?_ (vfin.r (VRes.tmp (t := (T.bool false)) rfl VRes.nil) (Give.bool _))
      show (T.bool false) = (T.bool (decide (a = b)))
      refine congrArg T.bool ?_
      obtain ⟨a1, a2, a3, a4, a5⟩ := a
      obtain ⟨b1, b2, b3, b4, b5⟩ := b
      simp_all
  · have fhg10_1 : ¬ (a.Number = b.Number) := of_decide_eq_false hg10_1
    refine VRunO.off (VWant.not (b := (decide (a.Number = b.Number))) rfl rfl hg10_1) ?_
    refine VRunO.off (VWant.not (b := (decide (a.Number = b.Number))) rfl rfl hg10_1) ?_
    refine VRunO.off (VWant.not (b := (decide (a.Number = b.Number))) rfl rfl hg10_1) ?_
    refine VRunO.off (VWant.not (b := (decide (a.Number = b.Number))) rfl rfl hg10_1) ?_
    refine VRunO.off (VWant.not (b := (decide (a.Number = b.Number))) rfl rfl hg10_1) ?_
    refine VRunO.free VWant.always (OF.pickF (VEv.tmpB (b := (decide (a.Number = b.Number))) rfl hg10_1) (VEv.bool false)) ?_
    refine VRunO.free VWant.always (OF.move (VEv.tmp (t := (T.bool false)) rfl)) ?_
    refine VRunO.off (VWant.not (b := false) rfl rfl rfl) ?_
    refine VRunO.off (VWant.not (b := false) rfl rfl rfl) ?_
    refine VRunO.off (VWant.not (b := false) rfl rfl rfl) ?_
    refine VRunO.off (VWant.not (b := false) rfl rfl rfl) ?_
    refine VRunO.off (VWant.not (b := false) rfl rfl rfl) ?_
    refine VRunO.free VWant.always (OF.pickF (VEv.tmp (t := (T.bool false)) rfl) (VEv.bool false)) ?_
    refine VRunO.free VWant.always (OF.move (VEv.tmp (t := (T.bool false)) rfl)) ?_
    refine VRunO.off (VWant.not (b := false) rfl rfl rfl) ?_
    refine VRunO.off (VWant.not (b := false) rfl rfl rfl) ?_
    refine VRunO.off (VWant.not (b := false) rfl rfl rfl) ?_
    refine VRunO.off (VWant.not (b := false) rfl rfl rfl) ?_
    refine VRunO.off (VWant.not (b := false) rfl rfl rfl) ?_
    refine VRunO.free VWant.always (OF.pickF (VEv.tmp (t := (T.bool false)) rfl) (VEv.bool false)) ?_
    refine VRunO.free VWant.always (OF.move (VEv.tmp (t := (T.bool false)) rfl)) ?_
    refine VRunO.off (VWant.not (b := false) rfl rfl rfl) ?_
    refine VRunO.off (VWant.not (b := false) rfl rfl rfl) ?_
    refine VRunO.off (VWant.not (b := false) rfl rfl rfl) ?_
    refine VRunO.off (VWant.not (b := false) rfl rfl rfl) ?_
    refine VRunO.off (VWant.not (b := false) rfl rfl rfl) ?_
    refine VRunO.free VWant.always (OF.pickF (VEv.tmp (t := (T.bool false)) rfl) (VEv.bool false)) ?_
    refine VRunO.free VWant.always (OF.assign (VEv.tmp (t := (T.bool false)) rfl)) ?_
    refine VRunO.nil ?_
    refine vthn.n ?_
    refine VRun.ret ?_
    refine vfin.eq (r' := (T.bool false)) ?_ (vfin.r (VRes.tmp (t := (T.bool false)) rfl VRes.nil) (Give.bool _))
    show (T.bool false) = (T.bool (decide (a = b)))
    refine congrArg T.bool ?_
    obtain ⟨a1, a2, a3, a4, a5⟩ := a
    obtain ⟨b1, b2, b3, b4, b5⟩ := b
    simp_all
end Go.Proofs.Ythdnjihmjdbdkaa.AE
