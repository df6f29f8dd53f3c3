/- Walks of the program's functions over trees. Conditions: as each theorem states. -/
import Derived.Test.YthdnjihmjdbdkaaVlTy
namespace Go.Proofs.Ythdnjihmjdbdkaa.AE
open Go Go.RowKit
set_option linter.unusedVariables false
set_option linter.unusedSimpArgs false
set_option maxRecDepth 20000
set_option maxHeartbeats 2000000

theorem W_laws_szStep (n : Nat) (a : D.Step) (left : Int) (h0 : 0 ≤ left) (h1 : left ≤ (mx : Int)) (hg : GStep a) : Pure (acall Try.prog (n + 1)) 160 [(T.agg (eStep false a)), (T.int .i64 left)] (T.int .i64 (szR (zStep a) left)) := by
  refine Pure.intro (rs := [ResultVar.tmp 4]) Try.func160 rfl rfl rfl (E0 := [(0, (T.agg (eStep false a))), (1, (T.int .i64 left))]) rfl ?_
  have hlim : lim = 1099511627776 := rfl
  have hmx : mx = 1048576 := rfl
  have hmax : maxLen = 9223372036854775807 := rfl
  obtain ⟨hg0, hg1, hg2, hg3⟩ := hg
  refine VRun.seq ?_
  refine VRun.region ?_
  refine VRunO.make VWant.always (B.box (ts := [(T.int .i64 a.Kind), (T.str a.Word), (T.int .i64 a.A), (T.int .i64 a.B)]) (VEv.tmp (t := (T.agg (eStep false a))) rfl) nofun rfl) ?_
  refine VRunO.free VWant.always (OF.assign (VEv.int .i64 0)) ?_
  refine VRunO.nil ?_
  refine vthn.n ?_
  refine VRun.seq ?_
  refine VRun.region ?_
  refine VRunO.free VWant.always (OF.move (VEv.tmp (t := (T.int .i64 left)) rfl)) ?_
  refine VRunO.free VWant.always (OF.fieldAddrO (VEv.tmp (t := (T.op 0 0)) rfl) fa182_1) ?_
  refine VRunO.look VWant.always (OL.loadO1 (t := (T.str a.Word)) (VEv.tmp (t := (T.op 0 1)) rfl) rfl rfl st9) ?_
  refine VRunO.look VWant.always (B.lenS (VEv.tmp (t := (T.str a.Word)) rfl) Try.underlying9) ?_
  refine VRunO.free VWant.always (B.sub (n := (left - ((a.Word.size : Nat) : Int))) (VEv.tmp (t := (T.int .i64 left)) rfl) (VEv.tmp (t := (T.int .i64 ((a.Word.size : Nat) : Int))) rfl) (by first | rfl | (rw [wrap64 (by omega)]; done) | (rw [wrap64 (by omega)]; omega) | (rw [wrap64 (by omega)]; push_cast; omega) | omega)) ?_
  refine VRunO.free VWant.always (OF.assign (VEv.tmp (t := (T.int .i64 (left - ((a.Word.size : Nat) : Int)))) rfl)) ?_
  refine VRunO.nil ?_
  refine vthn.n ?_
  refine VRun.seq ?_
  refine VRun.seq ?_
  refine VRun.region ?_
  refine VRunO.free VWant.always (OF.move (VEv.tmp (t := (T.int .i64 (left - ((a.Word.size : Nat) : Int)))) rfl)) ?_
  refine VRunO.free VWant.always (B.lss (c := (decide ((left - ((a.Word.size : Nat) : Int)) < 0))) (VEv.tmp (t := (T.int .i64 (left - ((a.Word.size : Nat) : Int)))) rfl) (VEv.int .i64 0) rfl) ?_
  refine VRunO.nil ?_
  refine vthn.n ?_
  refine VRun.cond (VEv.tmp (t := (T.bool (decide ((left - ((a.Word.size : Nat) : Int)) < 0)))) rfl) (fun hc0 => ?_) (fun hc0 => ?_)
  · have fhc0 : (left - ((a.Word.size : Nat) : Int)) < 0 := of_decide_eq_true hc0
    refine VRun.seq ?_
    refine VRun.region ?_
    refine VRunO.free VWant.always (OF.assign (VEv.int .i64 (-1))) ?_
    refine VRunO.nil ?_
    refine vthn.n ?_
    refine VRun.ret ?_
    refine vthn.r ?_
    refine vfin.eq (r' := (T.int .i64 (-1))) ?_ (vfin.r (VRes.tmp (t := (T.int .i64 (-1))) rfl VRes.nil) (Give.int _ _))
    show (T.int .i64 (-1)) = (T.int .i64 (szR (zStep a) left))
    refine congrArg (T.int .i64) ?_
    exact szR_neg (by simp only [zStep]; omega)
  · have fhc0 : ¬ ((left - ((a.Word.size : Nat) : Int)) < 0) := of_decide_eq_false hc0
    refine VRun.skip ?_
    refine vthn.n ?_
    refine VRun.seq ?_
    refine VRun.region ?_
    refine VRunO.free VWant.always (OF.move (VEv.tmp (t := (T.int .i64 (left - ((a.Word.size : Nat) : Int)))) rfl)) ?_
    refine VRunO.free VWant.always (OF.assign (VEv.tmp (t := (T.int .i64 (left - ((a.Word.size : Nat) : Int)))) rfl)) ?_
    refine VRunO.nil ?_
    refine vthn.n ?_
    refine VRun.ret ?_
    refine vfin.eq (r' := (T.int .i64 (left - ((a.Word.size : Nat) : Int)))) ?_ (vfin.r (VRes.tmp (t := (T.int .i64 (left - ((a.Word.size : Nat) : Int)))) rfl VRes.nil) (Give.int _ _))
    show (T.int .i64 (left - ((a.Word.size : Nat) : Int))) = (T.int .i64 (szR (zStep a) left))
    refine congrArg (T.int .i64) ?_
    rw [← szR_nn (z := zStep a) (l := left) (by simp only [zStep]; omega)]
    all_goals first | rfl | (simp only [zStep]; done) | (simp only [zStep]; omega)
theorem W_laws_szStepS (n : Nat) (a : List D.Step) (left : Int) (h0 : 0 ≤ left) (h1 : left ≤ (mx : Int)) (hg : a.length ≤ maxLen ∧ ∀ x ∈ a, GStep x) : Pure (acall Try.prog (n + 2)) 148 [(T.sl false 4 (a.map (eStep false))), (T.int .i64 left)] (T.int .i64 (szR (zL zStep a) left)) := by
  refine Pure.intro (rs := [ResultVar.tmp 4]) Try.func148 rfl rfl rfl (E0 := [(0, (T.sl false 4 (a.map (eStep false)))), (1, (T.int .i64 left))]) rfl ?_
  have hlim : lim = 1099511627776 := rfl
  have hmx : mx = 1048576 := rfl
  have hmax : maxLen = 9223372036854775807 := rfl
  obtain ⟨hg1, hg2⟩ := hg
  refine VRun.seq ?_
  refine VRun.region ?_
  refine VRunO.free VWant.always (OF.assign (VEv.int .i64 0)) ?_
  refine VRunO.nil ?_
  refine vthn.n ?_
  refine VRun.seq ?_
  refine VRun.region ?_
  refine VRunO.free VWant.always (OF.move (VEv.tmp (t := (T.int .i64 left)) rfl)) ?_
  refine VRunO.free VWant.always (OF.move (VEv.tmp (t := (T.sl false 4 (a.map (eStep false)))) rfl)) ?_
  refine VRunO.look VWant.always (B.lenR (m := a.length) (VEv.tmp (t := (T.sl false 4 (a.map (eStep false)))) rfl) Try.underlying105 (List.length_map ..)) ?_
  refine VRunO.free VWant.always (B.sub (n := (left - ((a.length : Nat) : Int))) (VEv.tmp (t := (T.int .i64 left)) rfl) (VEv.tmp (t := (T.int .i64 ((a.length : Nat) : Int))) rfl) (by first | exact hg2 _ (List.mem_of_getElem? hx1) | rfl | (rw [wrap64 (by omega)]; done) | (rw [wrap64 (by omega)]; omega) | (rw [wrap64 (by omega)]; push_cast; omega) | omega)) ?_
  refine VRunO.free VWant.always (OF.assign (VEv.tmp (t := (T.int .i64 (left - ((a.length : Nat) : Int)))) rfl)) ?_
  refine VRunO.nil ?_
  refine vthn.n ?_
  refine VRun.seq ?_
  refine VRun.seq ?_
  refine VRun.region ?_
  refine VRunO.free VWant.always (OF.move (VEv.tmp (t := (T.int .i64 (left - ((a.length : Nat) : Int)))) rfl)) ?_
  refine VRunO.free VWant.always (B.lss (c := (decide ((left - ((a.length : Nat) : Int)) < 0))) (VEv.tmp (t := (T.int .i64 (left - ((a.length : Nat) : Int)))) rfl) (VEv.int .i64 0) rfl) ?_
  refine VRunO.nil ?_
  refine vthn.n ?_
  refine VRun.cond (VEv.tmp (t := (T.bool (decide ((left - ((a.length : Nat) : Int)) < 0)))) rfl) (fun hc0 => ?_) (fun hc0 => ?_)
  · have fhc0 : (left - ((a.length : Nat) : Int)) < 0 := of_decide_eq_true hc0
    refine VRun.seq ?_
    refine VRun.region ?_
    refine VRunO.free VWant.always (OF.assign (VEv.int .i64 (-1))) ?_
    refine VRunO.nil ?_
    refine vthn.n ?_
    refine VRun.ret ?_
    refine vthn.r ?_
    refine vfin.eq (r' := (T.int .i64 (-1))) ?_ (vfin.r (VRes.tmp (t := (T.int .i64 (-1))) rfl VRes.nil) (Give.int _ _))
    show (T.int .i64 (-1)) = (T.int .i64 (szR (zL zStep a) left))
    refine congrArg (T.int .i64) ?_
    exact SzI.early fhc0
  · have fhc0 : ¬ ((left - ((a.length : Nat) : Int)) < 0) := of_decide_eq_false hc0
    refine VRun.skip ?_
    refine vthn.n ?_
    refine VRun.seq ?_
    refine VRun.seq ?_
    refine VRun.region ?_
    refine VRunO.free VWant.always (OF.assign (VEv.int .i64 0)) ?_
    refine VRunO.nil ?_
    refine vthn.n ?_
    refine VRun.block ?_
    refine VRun.loop (A := Nat × Int) (fun s_ => [(0, (T.sl false 4 (a.map (eStep false)))), (1, (T.int .i64 s_.2)), (5, (T.int .i64 ((s_.1 : Nat) : Int)))]) (fun s_ => mkO []) 0 (fun s_ => SzI zStep a left s_.1 s_.2) (fun s_ => a.length - s_.1) ((0, left - (a.length : Int)) : Nat × Int) ?_ (Wk.mk (fun k => k) ?_ ?_ ?_) ?_
    · exact SzI.start h1 fhc0
    · exact (ball_cons ⟨rfl, rfl⟩ (ball_cons ⟨(congrArg (T.int .i64) (show (left - ((a.length : Nat) : Int)) = (left - (a.length : Int)) from (by first | rfl | omega | (simp; done) | (push_cast; omega)))), rfl⟩ (ball_cons ⟨(congrArg (T.int .i64) (show 0 = ((0 : Nat) : Int) from (by first | rfl | omega | (simp; done) | (push_cast; omega)))), rfl⟩ (ball_nil))))
    · exact (ball_nil)
    · show List.Nodup ([] : List Nat)
      decide
    · rintro ⟨i, r⟩ hI
      have hI' : SzI zStep a left i r := hI
      clear hI
      show VRun _ _ _ [(0, (T.sl false 4 (a.map (eStep false)))), (1, (T.int .i64 r)), (5, (T.int .i64 ((i : Nat) : Int)))] (mkO []) 0 _
      have hI2 := hI'.1
      have hI3 := hI'.2.1
      have hI4 := hI'.2.2.1
      refine VRun.seq ?_
      refine VRun.seq ?_
      refine VRun.region ?_
      refine VRunO.free VWant.always (OF.move (VEv.tmp (t := (T.int .i64 ((i : Nat) : Int))) rfl)) ?_
      refine VRunO.free VWant.always (OF.move (VEv.tmp (t := (T.sl false 4 (a.map (eStep false)))) rfl)) ?_
      refine VRunO.look VWant.always (B.lenR (m := a.length) (VEv.tmp (t := (T.sl false 4 (a.map (eStep false)))) rfl) Try.underlying105 (List.length_map ..)) ?_
      refine VRunO.free VWant.always (B.lss (c := (decide (i < a.length))) (VEv.tmp (t := (T.int .i64 ((i : Nat) : Int))) rfl) (VEv.tmp (t := (T.int .i64 ((a.length : Nat) : Int))) rfl) (by first | exact hg2 _ (List.mem_of_getElem? hx1) | (exact decN (by omega)))) ?_
      refine VRunO.nil ?_
      refine vthn.n ?_
      refine VRun.cond (VEv.tmp (t := (T.bool (decide (i < a.length)))) rfl) (fun hc1 => ?_) (fun hc1 => ?_)
      · have fhc1 : i < a.length := of_decide_eq_true hc1
        refine VRun.skip ?_
        refine vthn.n ?_
        refine VRun.seq ?_
        refine VRun.block ?_
        refine VRun.seq ?_
        refine VRun.region ?_
        refine VRunO.free VWant.always (OF.move (VEv.tmp (t := (T.sl false 4 (a.map (eStep false)))) rfl)) ?_
        refine VRunO.free VWant.always (OF.move (VEv.tmp (t := (T.int .i64 ((i : Nat) : Int))) rfl)) ?_
        obtain ⟨x1, hx1⟩ : ∃ x, a[i]? = some x := ⟨_, List.getElem?_eq_getElem (by first | exact hg2 _ (List.mem_of_getElem? hx1) | omega | (simp only [List.length_map]; omega) | (simp only [List.length_map, List.length_append, List.length_cons, List.length_nil, List.length_replicate, List.length_set, List.length_drop, List.length_take, lim] at *; omega))⟩
        refine VRunO.free VWant.always (OF.indexAddrR (row := (eStep false x1)) (i := i) (VEv.tmp (t := (T.sl false 4 (a.map (eStep false)))) rfl) (VEv.tmp (t := (T.int .i64 ((i : Nat) : Int))) rfl) rfl (map_at _ hx1) Try.underlying105 sz182 if182) ?_
        refine VRunO.look VWant.always (OL.loadRn (us := (eStep false x1)) (VEv.tmp (t := (T.rp [(T.int .i64 x1.Kind), (T.str x1.Word), (T.int .i64 x1.A), (T.int .i64 x1.B)])) rfl) st182 sz182 (Nat.le_of_ble_eq_true rfl) rfl) ?_
        refine VRunO.free VWant.always (OF.move (VEv.tmp (t := (T.int .i64 r)) rfl)) ?_
        refine VRunO.chain VWant.always (OC.callF (us := [(T.agg (eStep false x1)), (T.int .i64 r)]) (r := (T.int .i64 (szR (zStep x1) r))) (r' := (T.int .i64 (szR (zStep x1) r))) (objs := []) rfl (VEvs.cons (VEv.tmp (t := (T.agg (eStep false x1))) rfl) (VEvs.cons (VEv.tmp (t := (T.int .i64 r)) rfl) VEvs.nil)) (LendL.cons (Lend.agg (LendL.cons (Lend.pl rfl) (LendL.cons (Lend.pl rfl) (LendL.cons (Lend.pl rfl) (LendL.cons (Lend.pl rfl) (LendL.nil)))))) (LendL.cons (Lend.pl rfl) (LendL.nil))) (W_laws_szStep (n + 0) x1 r (by first | exact hg2 _ (List.mem_of_getElem? hx1) | assumption | omega | (simp only [List.length_map]; omega) | (simp only [List.length_map, List.length_append, List.length_cons, List.length_nil, List.length_replicate, List.length_set, List.length_drop, List.length_take, lim] at *; omega)) (by first | exact hg2 _ (List.mem_of_getElem? hx1) | assumption | omega | (simp only [List.length_map]; omega) | (simp only [List.length_map, List.length_append, List.length_cons, List.length_nil, List.length_replicate, List.length_set, List.length_drop, List.length_take, lim] at *; omega)) (by first | exact hg2 _ (List.mem_of_getElem? hx1) | assumption | omega | (simp only [List.length_map]; omega) | (simp only [List.length_map, List.length_append, List.length_cons, List.length_nil, List.length_replicate, List.length_set, List.length_drop, List.length_take, lim] at *; omega))) rfl) ?_
        refine VRunO.free VWant.always (OF.assign (VEv.tmp (t := (T.int .i64 (szR (zStep x1) r))) rfl)) ?_
        refine VRunO.nil ?_
        refine vthn.n ?_
        refine VRun.seq ?_
        refine VRun.region ?_
        refine VRunO.free VWant.always (OF.move (VEv.tmp (t := (T.int .i64 (szR (zStep x1) r))) rfl)) ?_
        refine VRunO.free VWant.always (B.lss (c := (decide (szR (zStep x1) r < 0))) (VEv.tmp (t := (T.int .i64 (szR (zStep x1) r))) rfl) (VEv.int .i64 0) rfl) ?_
        refine VRunO.nil ?_
        refine vthn.n ?_
        refine VRun.cond (VEv.tmp (t := (T.bool (decide (szR (zStep x1) r < 0)))) rfl) (fun hc2 => ?_) (fun hc2 => ?_)
        · have fhc2 : szR (zStep x1) r < 0 := of_decide_eq_true hc2
          refine VRun.seq ?_
          refine VRun.region ?_
          refine VRunO.free VWant.always (OF.assign (VEv.int .i64 (-1))) ?_
          refine VRunO.nil ?_
          refine vthn.n ?_
          refine VRun.ret ?_
          refine vinB.r ?_
          refine vthn.r ?_
          refine vthn.r ?_
          refine vinB.r ?_
          refine vthn.r ?_
          refine vfin.eq (r' := (T.int .i64 (-1))) ?_ (vfin.r (VRes.tmp (t := (T.int .i64 (-1))) rfl VRes.nil) (Give.int _ _))
          show (T.int .i64 (-1)) = (T.int .i64 (szR (zL zStep a) left))
          refine congrArg (T.int .i64) ?_
          exact hI'.bad hx1 fhc2
        · have fhc2 : ¬ (szR (zStep x1) r < 0) := of_decide_eq_false hc2
          refine VRun.skip ?_
          refine vinB.n ?_
          refine vthn.n ?_
          refine VRun.region ?_
          refine VRunO.free VWant.always (OF.move (VEv.tmp (t := (T.int .i64 ((i : Nat) : Int))) rfl)) ?_
          refine VRunO.free VWant.always (B.add (n := (((i + 1) : Nat) : Int)) (VEv.tmp (t := (T.int .i64 ((i : Nat) : Int))) rfl) (VEv.int .i64 1) (by first | exact hg2 _ (List.mem_of_getElem? hx1) | rfl | (rw [wrap64 (by omega)]; done) | (rw [wrap64 (by omega)]; omega) | (rw [wrap64 (by omega)]; push_cast; omega) | omega)) ?_
          refine VRunO.free VWant.always (OF.assign (VEv.tmp (t := (T.int .i64 (((i + 1) : Nat) : Int))) rfl)) ?_
          refine VRunO.nil ?_
          refine vthn.n ?_
          refine ⟨((i + 1, szR (zStep x1) r) : Nat × Int), ?_, ?_, Wk.mk (fun k => k) ?_ ?_ ?_⟩
          · exact hI'.next hx1 fhc2
          · first | omega | (simp only []; omega) | (show _ < _; omega) | (simp; omega)
          · exact (ball_cons ⟨rfl, rfl⟩ (ball_cons ⟨rfl, rfl⟩ (ball_cons ⟨rfl, rfl⟩ (ball_nil))))
          · exact (ball_nil)
          · show List.Nodup ([] : List Nat)
            decide
      · have fhc1 : ¬ (i < a.length) := of_decide_eq_false hc1
        refine VRun.exit ?_
        refine vthn.e ?_
        refine vthn.e ?_
        refine vinB.e ?_
        refine vthn.n ?_
        refine VRun.seq ?_
        refine VRun.region ?_
        refine VRunO.free VWant.always (OF.move (VEv.tmp (t := (T.int .i64 r)) rfl)) ?_
        refine VRunO.free VWant.always (OF.assign (VEv.tmp (t := (T.int .i64 r)) rfl)) ?_
        refine VRunO.nil ?_
        refine vthn.n ?_
        refine VRun.ret ?_
        refine vfin.eq (r' := (T.int .i64 r)) ?_ (vfin.r (VRes.tmp (t := (T.int .i64 r)) rfl VRes.nil) (Give.int _ _))
        show (T.int .i64 r) = (T.int .i64 (szR (zL zStep a) left))
        refine congrArg (T.int .i64) ?_
        exact hI'.done fhc1
theorem W_laws_szClue (n : Nat) (a : D.Clue) (left : Int) (h0 : 0 ≤ left) (h1 : left ≤ (mx : Int)) (hg : GClue a) : Pure (acall Try.prog (n + 3)) 120 [(T.agg (eClue false a)), (T.int .i64 left)] (T.int .i64 (szR (zClue a) left)) := by
  refine Pure.intro (rs := [ResultVar.tmp 4]) Try.func120 rfl rfl rfl (E0 := [(0, (T.agg (eClue false a))), (1, (T.int .i64 left))]) rfl ?_
  have hlim : lim = 1099511627776 := rfl
  have hmx : mx = 1048576 := rfl
  have hmax : maxLen = 9223372036854775807 := rfl
  obtain ⟨hg0, hg1⟩ := hg
  refine VRun.seq ?_
  refine VRun.region ?_
  refine VRunO.make VWant.always (B.box (ts := [(T.int .i64 a.Sense), (T.sl false 4 (a.Play.map (eStep false)))]) (VEv.tmp (t := (T.agg (eClue false a))) rfl) nofun rfl) ?_
  refine VRunO.free VWant.always (OF.assign (VEv.int .i64 0)) ?_
  refine VRunO.nil ?_
  refine vthn.n ?_
  refine VRun.seq ?_
  refine VRun.region ?_
  refine VRunO.free VWant.always (OF.fieldAddrO (VEv.tmp (t := (T.op 0 0)) rfl) fa107_1) ?_
  refine VRunO.look VWant.always (OL.loadO1 (t := (T.sl false 4 (a.Play.map (eStep false)))) (VEv.tmp (t := (T.op 0 1)) rfl) rfl rfl st105) ?_
  refine VRunO.free VWant.always (OF.move (VEv.tmp (t := (T.int .i64 left)) rfl)) ?_
  refine VRunO.chain VWant.always (OC.callF (us := [(T.sl false 4 (a.Play.map (eStep false))), (T.int .i64 left)]) (r := (T.int .i64 (szR (zL zStep a.Play) left))) (r' := (T.int .i64 (szR (zL zStep a.Play) left))) (objs := []) rfl (VEvs.cons (VEv.tmp (t := (T.sl false 4 (a.Play.map (eStep false)))) rfl) (VEvs.cons (VEv.tmp (t := (T.int .i64 left)) rfl) VEvs.nil)) (LendL.cons (Lend.pl rfl) (LendL.cons (Lend.pl rfl) (LendL.nil))) (W_laws_szStepS (n + 0) a.Play left (by first | assumption | omega | (simp only [List.length_map]; omega) | (simp only [List.length_map, List.length_append, List.length_cons, List.length_nil, List.length_replicate, List.length_set, List.length_drop, List.length_take, lim] at *; omega)) (by first | assumption | omega | (simp only [List.length_map]; omega) | (simp only [List.length_map, List.length_append, List.length_cons, List.length_nil, List.length_replicate, List.length_set, List.length_drop, List.length_take, lim] at *; omega)) (by first | assumption | omega | (simp only [List.length_map]; omega) | (simp only [List.length_map, List.length_append, List.length_cons, List.length_nil, List.length_replicate, List.length_set, List.length_drop, List.length_take, lim] at *; omega))) rfl) ?_
  refine VRunO.free VWant.always (OF.assign (VEv.tmp (t := (T.int .i64 (szR (zL zStep a.Play) left))) rfl)) ?_
  refine VRunO.nil ?_
  refine vthn.n ?_
  refine VRun.seq ?_
  refine VRun.seq ?_
  refine VRun.region ?_
  refine VRunO.free VWant.always (OF.move (VEv.tmp (t := (T.int .i64 (szR (zL zStep a.Play) left))) rfl)) ?_
  refine VRunO.free VWant.always (B.lss (c := (decide (szR (zL zStep a.Play) left < 0))) (VEv.tmp (t := (T.int .i64 (szR (zL zStep a.Play) left))) rfl) (VEv.int .i64 0) rfl) ?_
  refine VRunO.nil ?_
  refine vthn.n ?_
  refine VRun.cond (VEv.tmp (t := (T.bool (decide (szR (zL zStep a.Play) left < 0)))) rfl) (fun hc0 => ?_) (fun hc0 => ?_)
  · have fhc0 : szR (zL zStep a.Play) left < 0 := of_decide_eq_true hc0
    refine VRun.seq ?_
    refine VRun.region ?_
    refine VRunO.free VWant.always (OF.assign (VEv.int .i64 (-1))) ?_
    refine VRunO.nil ?_
    refine vthn.n ?_
    refine VRun.ret ?_
    refine vthn.r ?_
    refine vfin.eq (r' := (T.int .i64 (-1))) ?_ (vfin.r (VRes.tmp (t := (T.int .i64 (-1))) rfl VRes.nil) (Give.int _ _))
    show (T.int .i64 (-1)) = (T.int .i64 (szR (zClue a) left))
    refine congrArg (T.int .i64) ?_
    exact szR_neg (by have hlt := szR_lt fhc0; simp only [zClue]; omega)
  · have fhc0 : ¬ (szR (zL zStep a.Play) left < 0) := of_decide_eq_false hc0
    have hq0 := szR_pos fhc0
    refine VRun.skip ?_
    refine vthn.n ?_
    refine VRun.seq ?_
    refine VRun.region ?_
    refine VRunO.free VWant.always (OF.move (VEv.tmp (t := (T.int .i64 (szR (zL zStep a.Play) left))) rfl)) ?_
    refine VRunO.free VWant.always (OF.assign (VEv.tmp (t := (T.int .i64 (szR (zL zStep a.Play) left))) rfl)) ?_
    refine VRunO.nil ?_
    refine vthn.n ?_
    refine VRun.ret ?_
    refine vfin.eq (r' := (T.int .i64 (szR (zL zStep a.Play) left))) ?_ (vfin.r (VRes.tmp (t := (T.int .i64 (szR (zL zStep a.Play) left))) rfl VRes.nil) (Give.int _ _))
    show (T.int .i64 (szR (zL zStep a.Play) left)) = (T.int .i64 (szR (zClue a) left))
    refine congrArg (T.int .i64) ?_
    rw [← szR_nn (z := zClue a) (l := left) (by simp only [zClue]; omega)]
    all_goals first | rfl | (simp only [zClue]; done) | (simp only [zClue]; omega)
theorem W_laws_szCorrection (n : Nat) (a : D.Correction) (left : Int) (h0 : 0 ≤ left) (h1 : left ≤ (mx : Int)) (hg : GCorrection a) : Pure (acall Try.prog (n + 4)) 70 [(T.agg (eCorrection false a)), (T.int .i64 left)] (T.int .i64 (szR (zCorrection a) left)) := by
  refine Pure.intro (rs := [ResultVar.tmp 4]) Try.func70 rfl rfl rfl (E0 := [(0, (T.agg (eCorrection false a))), (1, (T.int .i64 left))]) rfl ?_
  have hlim : lim = 1099511627776 := rfl
  have hmx : mx = 1048576 := rfl
  have hmax : maxLen = 9223372036854775807 := rfl
  obtain ⟨hg0, hg1, hg2, hg3⟩ := hg
  refine VRun.seq ?_
  refine VRun.region ?_
  refine VRunO.make VWant.always (B.box (ts := [(T.int .i64 a.Issue), (T.int .i64 a.Slot), (T.int .i64 a.Clue.Sense), (T.sl false 4 (a.Clue.Play.map (eStep false))), (T.int .i64 a.Tick)]) (VEv.tmp (t := (T.agg (eCorrection false a))) rfl) nofun rfl) ?_
  refine VRunO.free VWant.always (OF.assign (VEv.int .i64 0)) ?_
  refine VRunO.nil ?_
  refine vthn.n ?_
  refine VRun.seq ?_
  refine VRun.region ?_
  refine VRunO.free VWant.always (OF.fieldAddrO (VEv.tmp (t := (T.op 0 0)) rfl) fa109_2) ?_
  refine VRunO.look VWant.always (OL.loadOn (us := (eClue false a.Clue)) (VEv.tmp (t := (T.op 0 2)) rfl) rfl st107 sz107 (Nat.le_of_ble_eq_true rfl) rfl) ?_
  refine VRunO.free VWant.always (OF.move (VEv.tmp (t := (T.int .i64 left)) rfl)) ?_
  refine VRunO.chain VWant.always (OC.callF (us := [(T.agg (eClue false a.Clue)), (T.int .i64 left)]) (r := (T.int .i64 (szR (zClue a.Clue) left))) (r' := (T.int .i64 (szR (zClue a.Clue) left))) (objs := []) rfl (VEvs.cons (VEv.tmp (t := (T.agg (eClue false a.Clue))) rfl) (VEvs.cons (VEv.tmp (t := (T.int .i64 left)) rfl) VEvs.nil)) (LendL.cons (Lend.agg (LendL.cons (Lend.pl rfl) (LendL.cons (Lend.pl rfl) (LendL.nil)))) (LendL.cons (Lend.pl rfl) (LendL.nil))) (W_laws_szClue (n + 0) a.Clue left (by first | assumption | omega | (simp only [List.length_map]; omega) | (simp only [List.length_map, List.length_append, List.length_cons, List.length_nil, List.length_replicate, List.length_set, List.length_drop, List.length_take, lim] at *; omega)) (by first | assumption | omega | (simp only [List.length_map]; omega) | (simp only [List.length_map, List.length_append, List.length_cons, List.length_nil, List.length_replicate, List.length_set, List.length_drop, List.length_take, lim] at *; omega)) (by first | assumption | omega | (simp only [List.length_map]; omega) | (simp only [List.length_map, List.length_append, List.length_cons, List.length_nil, List.length_replicate, List.length_set, List.length_drop, List.length_take, lim] at *; omega))) rfl) ?_
  refine VRunO.free VWant.always (OF.assign (VEv.tmp (t := (T.int .i64 (szR (zClue a.Clue) left))) rfl)) ?_
  refine VRunO.nil ?_
  refine vthn.n ?_
  refine VRun.seq ?_
  refine VRun.seq ?_
  refine VRun.region ?_
  refine VRunO.free VWant.always (OF.move (VEv.tmp (t := (T.int .i64 (szR (zClue a.Clue) left))) rfl)) ?_
  refine VRunO.free VWant.always (B.lss (c := (decide (szR (zClue a.Clue) left < 0))) (VEv.tmp (t := (T.int .i64 (szR (zClue a.Clue) left))) rfl) (VEv.int .i64 0) rfl) ?_
  refine VRunO.nil ?_
  refine vthn.n ?_
  refine VRun.cond (VEv.tmp (t := (T.bool (decide (szR (zClue a.Clue) left < 0)))) rfl) (fun hc0 => ?_) (fun hc0 => ?_)
  · have fhc0 : szR (zClue a.Clue) left < 0 := of_decide_eq_true hc0
    refine VRun.seq ?_
    refine VRun.region ?_
    refine VRunO.free VWant.always (OF.assign (VEv.int .i64 (-1))) ?_
    refine VRunO.nil ?_
    refine vthn.n ?_
    refine VRun.ret ?_
    refine vthn.r ?_
    refine vfin.eq (r' := (T.int .i64 (-1))) ?_ (vfin.r (VRes.tmp (t := (T.int .i64 (-1))) rfl VRes.nil) (Give.int _ _))
    show (T.int .i64 (-1)) = (T.int .i64 (szR (zCorrection a) left))
    refine congrArg (T.int .i64) ?_
    exact szR_neg (by have hlt := szR_lt fhc0; simp only [zCorrection]; omega)
  · have fhc0 : ¬ (szR (zClue a.Clue) left < 0) := of_decide_eq_false hc0
    have hq0 := szR_pos fhc0
    refine VRun.skip ?_
    refine vthn.n ?_
    refine VRun.seq ?_
    refine VRun.region ?_
    refine VRunO.free VWant.always (OF.move (VEv.tmp (t := (T.int .i64 (szR (zClue a.Clue) left))) rfl)) ?_
    refine VRunO.free VWant.always (OF.assign (VEv.tmp (t := (T.int .i64 (szR (zClue a.Clue) left))) rfl)) ?_
    refine VRunO.nil ?_
    refine vthn.n ?_
    refine VRun.ret ?_
    refine vfin.eq (r' := (T.int .i64 (szR (zClue a.Clue) left))) ?_ (vfin.r (VRes.tmp (t := (T.int .i64 (szR (zClue a.Clue) left))) rfl VRes.nil) (Give.int _ _))
    show (T.int .i64 (szR (zClue a.Clue) left)) = (T.int .i64 (szR (zCorrection a) left))
    refine congrArg (T.int .i64) ?_
    rw [← szR_nn (z := zCorrection a) (l := left) (by simp only [zCorrection]; omega)]
    all_goals first | rfl | (simp only [zCorrection]; done) | (simp only [zCorrection]; omega)
theorem W_laws_szCorrectionS (n : Nat) (a : List D.Correction) (left : Int) (h0 : 0 ≤ left) (h1 : left ≤ (mx : Int)) (hg : a.length ≤ maxLen ∧ ∀ x ∈ a, GCorrection x) : Pure (acall Try.prog (n + 5)) 44 [(T.sl false 5 (a.map (eCorrection false))), (T.int .i64 left)] (T.int .i64 (szR (zL zCorrection a) left)) := by
  refine Pure.intro (rs := [ResultVar.tmp 4]) Try.func44 rfl rfl rfl (E0 := [(0, (T.sl false 5 (a.map (eCorrection false)))), (1, (T.int .i64 left))]) rfl ?_
  have hlim : lim = 1099511627776 := rfl
  have hmx : mx = 1048576 := rfl
  have hmax : maxLen = 9223372036854775807 := rfl
  obtain ⟨hg1, hg2⟩ := hg
  refine VRun.seq ?_
  refine VRun.region ?_
  refine VRunO.free VWant.always (OF.assign (VEv.int .i64 0)) ?_
  refine VRunO.nil ?_
  refine vthn.n ?_
  refine VRun.seq ?_
  refine VRun.region ?_
  refine VRunO.free VWant.always (OF.move (VEv.tmp (t := (T.int .i64 left)) rfl)) ?_
  refine VRunO.free VWant.always (OF.move (VEv.tmp (t := (T.sl false 5 (a.map (eCorrection false)))) rfl)) ?_
  refine VRunO.look VWant.always (B.lenR (m := a.length) (VEv.tmp (t := (T.sl false 5 (a.map (eCorrection false)))) rfl) Try.underlying65 (List.length_map ..)) ?_
  refine VRunO.free VWant.always (B.sub (n := (left - ((a.length : Nat) : Int))) (VEv.tmp (t := (T.int .i64 left)) rfl) (VEv.tmp (t := (T.int .i64 ((a.length : Nat) : Int))) rfl) (by first | exact hg2 _ (List.mem_of_getElem? hx1) | rfl | (rw [wrap64 (by omega)]; done) | (rw [wrap64 (by omega)]; omega) | (rw [wrap64 (by omega)]; push_cast; omega) | omega)) ?_
  refine VRunO.free VWant.always (OF.assign (VEv.tmp (t := (T.int .i64 (left - ((a.length : Nat) : Int)))) rfl)) ?_
  refine VRunO.nil ?_
  refine vthn.n ?_
  refine VRun.seq ?_
  refine VRun.seq ?_
  refine VRun.region ?_
  refine VRunO.free VWant.always (OF.move (VEv.tmp (t := (T.int .i64 (left - ((a.length : Nat) : Int)))) rfl)) ?_
  refine VRunO.free VWant.always (B.lss (c := (decide ((left - ((a.length : Nat) : Int)) < 0))) (VEv.tmp (t := (T.int .i64 (left - ((a.length : Nat) : Int)))) rfl) (VEv.int .i64 0) rfl) ?_
  refine VRunO.nil ?_
  refine vthn.n ?_
  refine VRun.cond (VEv.tmp (t := (T.bool (decide ((left - ((a.length : Nat) : Int)) < 0)))) rfl) (fun hc0 => ?_) (fun hc0 => ?_)
  · have fhc0 : (left - ((a.length : Nat) : Int)) < 0 := of_decide_eq_true hc0
    refine VRun.seq ?_
    refine VRun.region ?_
    refine VRunO.free VWant.always (OF.assign (VEv.int .i64 (-1))) ?_
    refine VRunO.nil ?_
    refine vthn.n ?_
    refine VRun.ret ?_
    refine vthn.r ?_
    refine vfin.eq (r' := (T.int .i64 (-1))) ?_ (vfin.r (VRes.tmp (t := (T.int .i64 (-1))) rfl VRes.nil) (Give.int _ _))
    show (T.int .i64 (-1)) = (T.int .i64 (szR (zL zCorrection a) left))
    refine congrArg (T.int .i64) ?_
    exact SzI.early fhc0
  · have fhc0 : ¬ ((left - ((a.length : Nat) : Int)) < 0) := of_decide_eq_false hc0
    refine VRun.skip ?_
    refine vthn.n ?_
    refine VRun.seq ?_
    refine VRun.seq ?_
    refine VRun.region ?_
    refine VRunO.free VWant.always (OF.assign (VEv.int .i64 0)) ?_
    refine VRunO.nil ?_
    refine vthn.n ?_
    refine VRun.block ?_
    refine VRun.loop (A := Nat × Int) (fun s_ => [(0, (T.sl false 5 (a.map (eCorrection false)))), (1, (T.int .i64 s_.2)), (5, (T.int .i64 ((s_.1 : Nat) : Int)))]) (fun s_ => mkO []) 0 (fun s_ => SzI zCorrection a left s_.1 s_.2) (fun s_ => a.length - s_.1) ((0, left - (a.length : Int)) : Nat × Int) ?_ (Wk.mk (fun k => k) ?_ ?_ ?_) ?_
    · exact SzI.start h1 fhc0
    · exact (ball_cons ⟨rfl, rfl⟩ (ball_cons ⟨(congrArg (T.int .i64) (show (left - ((a.length : Nat) : Int)) = (left - (a.length : Int)) from (by first | rfl | omega | (simp; done) | (push_cast; omega)))), rfl⟩ (ball_cons ⟨(congrArg (T.int .i64) (show 0 = ((0 : Nat) : Int) from (by first | rfl | omega | (simp; done) | (push_cast; omega)))), rfl⟩ (ball_nil))))
    · exact (ball_nil)
    · show List.Nodup ([] : List Nat)
      decide
    · rintro ⟨i, r⟩ hI
      have hI' : SzI zCorrection a left i r := hI
      clear hI
      show VRun _ _ _ [(0, (T.sl false 5 (a.map (eCorrection false)))), (1, (T.int .i64 r)), (5, (T.int .i64 ((i : Nat) : Int)))] (mkO []) 0 _
      have hI2 := hI'.1
      have hI3 := hI'.2.1
      have hI4 := hI'.2.2.1
      refine VRun.seq ?_
      refine VRun.seq ?_
      refine VRun.region ?_
      refine VRunO.free VWant.always (OF.move (VEv.tmp (t := (T.int .i64 ((i : Nat) : Int))) rfl)) ?_
      refine VRunO.free VWant.always (OF.move (VEv.tmp (t := (T.sl false 5 (a.map (eCorrection false)))) rfl)) ?_
      refine VRunO.look VWant.always (B.lenR (m := a.length) (VEv.tmp (t := (T.sl false 5 (a.map (eCorrection false)))) rfl) Try.underlying65 (List.length_map ..)) ?_
      refine VRunO.free VWant.always (B.lss (c := (decide (i < a.length))) (VEv.tmp (t := (T.int .i64 ((i : Nat) : Int))) rfl) (VEv.tmp (t := (T.int .i64 ((a.length : Nat) : Int))) rfl) (by first | exact hg2 _ (List.mem_of_getElem? hx1) | (exact decN (by omega)))) ?_
      refine VRunO.nil ?_
      refine vthn.n ?_
      refine VRun.cond (VEv.tmp (t := (T.bool (decide (i < a.length)))) rfl) (fun hc1 => ?_) (fun hc1 => ?_)
      · have fhc1 : i < a.length := of_decide_eq_true hc1
        refine VRun.skip ?_
        refine vthn.n ?_
        refine VRun.seq ?_
        refine VRun.block ?_
        refine VRun.seq ?_
        refine VRun.region ?_
        refine VRunO.free VWant.always (OF.move (VEv.tmp (t := (T.sl false 5 (a.map (eCorrection false)))) rfl)) ?_
        refine VRunO.free VWant.always (OF.move (VEv.tmp (t := (T.int .i64 ((i : Nat) : Int))) rfl)) ?_
        obtain ⟨x1, hx1⟩ : ∃ x, a[i]? = some x := ⟨_, List.getElem?_eq_getElem (by first | exact hg2 _ (List.mem_of_getElem? hx1) | omega | (simp only [List.length_map]; omega) | (simp only [List.length_map, List.length_append, List.length_cons, List.length_nil, List.length_replicate, List.length_set, List.length_drop, List.length_take, lim] at *; omega))⟩
        refine VRunO.free VWant.always (OF.indexAddrR (row := (eCorrection false x1)) (i := i) (VEv.tmp (t := (T.sl false 5 (a.map (eCorrection false)))) rfl) (VEv.tmp (t := (T.int .i64 ((i : Nat) : Int))) rfl) rfl (map_at _ hx1) Try.underlying65 sz109 if109) ?_
        refine VRunO.look VWant.always (OL.loadRn (us := (eCorrection false x1)) (VEv.tmp (t := (T.rp [(T.int .i64 x1.Issue), (T.int .i64 x1.Slot), (T.int .i64 x1.Clue.Sense), (T.sl false 4 (x1.Clue.Play.map (eStep false))), (T.int .i64 x1.Tick)])) rfl) st109 sz109 (Nat.le_of_ble_eq_true rfl) rfl) ?_
        refine VRunO.free VWant.always (OF.move (VEv.tmp (t := (T.int .i64 r)) rfl)) ?_
        refine VRunO.chain VWant.always (OC.callF (us := [(T.agg (eCorrection false x1)), (T.int .i64 r)]) (r := (T.int .i64 (szR (zCorrection x1) r))) (r' := (T.int .i64 (szR (zCorrection x1) r))) (objs := []) rfl (VEvs.cons (VEv.tmp (t := (T.agg (eCorrection false x1))) rfl) (VEvs.cons (VEv.tmp (t := (T.int .i64 r)) rfl) VEvs.nil)) (LendL.cons (Lend.agg (LendL.cons (Lend.pl rfl) (LendL.cons (Lend.pl rfl) (LendL.cons (Lend.pl rfl) (LendL.cons (Lend.pl rfl) (LendL.cons (Lend.pl rfl) (LendL.nil))))))) (LendL.cons (Lend.pl rfl) (LendL.nil))) (W_laws_szCorrection (n + 0) x1 r (by first | exact hg2 _ (List.mem_of_getElem? hx1) | assumption | omega | (simp only [List.length_map]; omega) | (simp only [List.length_map, List.length_append, List.length_cons, List.length_nil, List.length_replicate, List.length_set, List.length_drop, List.length_take, lim] at *; omega)) (by first | exact hg2 _ (List.mem_of_getElem? hx1) | assumption | omega | (simp only [List.length_map]; omega) | (simp only [List.length_map, List.length_append, List.length_cons, List.length_nil, List.length_replicate, List.length_set, List.length_drop, List.length_take, lim] at *; omega)) (by first | exact hg2 _ (List.mem_of_getElem? hx1) | assumption | omega | (simp only [List.length_map]; omega) | (simp only [List.length_map, List.length_append, List.length_cons, List.length_nil, List.length_replicate, List.length_set, List.length_drop, List.length_take, lim] at *; omega))) rfl) ?_
        refine VRunO.free VWant.always (OF.assign (VEv.tmp (t := (T.int .i64 (szR (zCorrection x1) r))) rfl)) ?_
        refine VRunO.nil ?_
        refine vthn.n ?_
        refine VRun.seq ?_
        refine VRun.region ?_
        refine VRunO.free VWant.always (OF.move (VEv.tmp (t := (T.int .i64 (szR (zCorrection x1) r))) rfl)) ?_
        refine VRunO.free VWant.always (B.lss (c := (decide (szR (zCorrection x1) r < 0))) (VEv.tmp (t := (T.int .i64 (szR (zCorrection x1) r))) rfl) (VEv.int .i64 0) rfl) ?_
        refine VRunO.nil ?_
        refine vthn.n ?_
        refine VRun.cond (VEv.tmp (t := (T.bool (decide (szR (zCorrection x1) r < 0)))) rfl) (fun hc2 => ?_) (fun hc2 => ?_)
        · have fhc2 : szR (zCorrection x1) r < 0 := of_decide_eq_true hc2
          refine VRun.seq ?_
          refine VRun.region ?_
          refine VRunO.free VWant.always (OF.assign (VEv.int .i64 (-1))) ?_
          refine VRunO.nil ?_
          refine vthn.n ?_
          refine VRun.ret ?_
          refine vinB.r ?_
          refine vthn.r ?_
          refine vthn.r ?_
          refine vinB.r ?_
          refine vthn.r ?_
          refine vfin.eq (r' := (T.int .i64 (-1))) ?_ (vfin.r (VRes.tmp (t := (T.int .i64 (-1))) rfl VRes.nil) (Give.int _ _))
          show (T.int .i64 (-1)) = (T.int .i64 (szR (zL zCorrection a) left))
          refine congrArg (T.int .i64) ?_
          exact hI'.bad hx1 fhc2
        · have fhc2 : ¬ (szR (zCorrection x1) r < 0) := of_decide_eq_false hc2
          refine VRun.skip ?_
          refine vinB.n ?_
          refine vthn.n ?_
          refine VRun.region ?_
          refine VRunO.free VWant.always (OF.move (VEv.tmp (t := (T.int .i64 ((i : Nat) : Int))) rfl)) ?_
          refine VRunO.free VWant.always (B.add (n := (((i + 1) : Nat) : Int)) (VEv.tmp (t := (T.int .i64 ((i : Nat) : Int))) rfl) (VEv.int .i64 1) (by first | exact hg2 _ (List.mem_of_getElem? hx1) | rfl | (rw [wrap64 (by omega)]; done) | (rw [wrap64 (by omega)]; omega) | (rw [wrap64 (by omega)]; push_cast; omega) | omega)) ?_
          refine VRunO.free VWant.always (OF.assign (VEv.tmp (t := (T.int .i64 (((i + 1) : Nat) : Int))) rfl)) ?_
          refine VRunO.nil ?_
          refine vthn.n ?_
          refine ⟨((i + 1, szR (zCorrection x1) r) : Nat × Int), ?_, ?_, Wk.mk (fun k => k) ?_ ?_ ?_⟩
          · exact hI'.next hx1 fhc2
          · first | omega | (simp only []; omega) | (show _ < _; omega) | (simp; omega)
          · exact (ball_cons ⟨rfl, rfl⟩ (ball_cons ⟨rfl, rfl⟩ (ball_cons ⟨rfl, rfl⟩ (ball_nil))))
          · exact (ball_nil)
          · show List.Nodup ([] : List Nat)
            decide
      · have fhc1 : ¬ (i < a.length) := of_decide_eq_false hc1
        refine VRun.exit ?_
        refine vthn.e ?_
        refine vthn.e ?_
        refine vinB.e ?_
        refine vthn.n ?_
        refine VRun.seq ?_
        refine VRun.region ?_
        refine VRunO.free VWant.always (OF.move (VEv.tmp (t := (T.int .i64 r)) rfl)) ?_
        refine VRunO.free VWant.always (OF.assign (VEv.tmp (t := (T.int .i64 r)) rfl)) ?_
        refine VRunO.nil ?_
        refine vthn.n ?_
        refine VRun.ret ?_
        refine vfin.eq (r' := (T.int .i64 r)) ?_ (vfin.r (VRes.tmp (t := (T.int .i64 r)) rfl VRes.nil) (Give.int _ _))
        show (T.int .i64 r) = (T.int .i64 (szR (zL zCorrection a) left))
        refine congrArg (T.int .i64) ?_
        exact hI'.done fhc1
end Go.Proofs.Ythdnjihmjdbdkaa.AE
