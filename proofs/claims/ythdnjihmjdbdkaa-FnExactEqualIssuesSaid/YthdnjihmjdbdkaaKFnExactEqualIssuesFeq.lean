/- Walks of the program's functions over trees. Conditions: as each theorem states. -/
import Derived.Test.YthdnjihmjdbdkaaKFnExactEqualIssuesFto
namespace Go.Proofs.Ythdnjihmjdbdkaa.AE
open Go Go.RowKit
set_option linter.unusedVariables false
set_option linter.unusedSimpArgs false
set_option maxRecDepth 20000
set_option maxHeartbeats 2000000

theorem W_laws_eqIntS (n : Nat) (a : List Int) (b : List Int) (hla : a.length ≤ mx) (hlb : b.length ≤ mx) : Pure (acall Try.prog (n + 1)) 139 [(T.sl false 1 (a.map (eInt false))), (T.sl false 1 (b.map (eInt false)))] (T.bool (decide (a = b))) := by
  refine Pure.intro (rs := [ResultVar.tmp 4]) Try.func139 rfl rfl rfl (E0 := [(0, (T.sl false 1 (a.map (eInt false)))), (1, (T.sl false 1 (b.map (eInt false))))]) rfl ?_
  have hlim : lim = 1099511627776 := rfl
  have hmx : mx = 1048576 := rfl
  have hmax : maxLen = 9223372036854775807 := rfl
  refine VRun.seq ?_
  refine VRun.region ?_
  refine VRunO.free VWant.always (OF.assign (VEv.bool false)) ?_
  refine VRunO.nil ?_
  refine vthn.n ?_
  refine VRun.seq ?_
  refine VRun.seq ?_
  refine VRun.region ?_
  refine VRunO.free VWant.always (OF.move (VEv.tmp (t := (T.sl false 1 (a.map (eInt false)))) rfl)) ?_
  refine VRunO.look VWant.always (B.lenR (m := a.length) (VEv.tmp (t := (T.sl false 1 (a.map (eInt false)))) rfl) Try.underlying72 (List.length_map ..)) ?_
  refine VRunO.free VWant.always (OF.move (VEv.tmp (t := (T.sl false 1 (b.map (eInt false)))) rfl)) ?_
  refine VRunO.look VWant.always (B.lenR (m := b.length) (VEv.tmp (t := (T.sl false 1 (b.map (eInt false)))) rfl) Try.underlying72 (List.length_map ..)) ?_
  refine VRunO.free VWant.always (B.neq (c := (!(decide (a.length = b.length)))) (VEv.tmp (t := (T.int .i64 ((a.length : Nat) : Int))) rfl) (VEv.tmp (t := (T.int .i64 ((b.length : Nat) : Int))) rfl) (by first | (exact decNn (by omega)))) ?_
  refine VRunO.nil ?_
  refine vthn.n ?_
  refine VRun.cond (VEv.tmp (t := (T.bool (!(decide (a.length = b.length))))) rfl) (fun hc0 => ?_) (fun hc0 => ?_)
  · have fhc0 : ¬ (a.length = b.length) := ndT hc0
    refine VRun.seq ?_
    refine VRun.region ?_
    refine VRunO.free VWant.always (OF.assign (VEv.bool false)) ?_
    refine VRunO.nil ?_
    refine vthn.n ?_
    refine VRun.ret ?_
    refine vthn.r ?_
    refine vfin.eq (r' := (T.bool false)) ?_ (vfin.r (VRes.tmp (t := (T.bool false)) rfl VRes.nil) (Give.bool _))
    show (T.bool false) = (T.bool (decide (a = b)))
    refine congrArg T.bool ?_
    symm; rw [decide_eq_false_iff_not]; rintro rfl; exact fhc0 rfl
  · have fhc0 : a.length = b.length := ndF hc0
    refine VRun.skip ?_
    refine vthn.n ?_
    refine VRun.seq ?_
    refine VRun.seq ?_
    refine VRun.region ?_
    refine VRunO.free VWant.always (OF.assign (VEv.int .i64 0)) ?_
    refine VRunO.nil ?_
    refine vthn.n ?_
    refine VRun.block ?_
    refine VRun.loop (A := Nat) (fun s_ => [(0, (T.sl false 1 (a.map (eInt false)))), (1, (T.sl false 1 (b.map (eInt false)))), (5, (T.int .i64 ((s_ : Nat) : Int)))]) (fun s_ => mkO []) 0 (fun s_ => s_ ≤ a.length ∧ ∀ j, j < s_ → a[j]? = b[j]?) (fun s_ => a.length - s_) (0 : Nat) ?_ (Wk.mk (fun k => k) ?_ ?_ ?_) ?_
    · first | trivial | (simp; done) | omega | (constructor <;> simp)
    · exact (ball_cons ⟨rfl, rfl⟩ (ball_cons ⟨rfl, rfl⟩ (ball_cons ⟨(congrArg (T.int .i64) (show 0 = ((0 : Nat) : Int) from (by first | rfl | omega | (simp; done) | (push_cast; omega)))), rfl⟩ (ball_nil))))
    · exact (ball_nil)
    · show List.Nodup ([] : List Nat)
      decide
    · rintro i hI
      have hI' : i ≤ a.length ∧ ∀ j, j < i → a[j]? = b[j]? := hI
      clear hI
      show VRun _ _ _ [(0, (T.sl false 1 (a.map (eInt false)))), (1, (T.sl false 1 (b.map (eInt false)))), (5, (T.int .i64 ((i : Nat) : Int)))] (mkO []) 0 _
      refine VRun.seq ?_
      refine VRun.seq ?_
      refine VRun.region ?_
      refine VRunO.free VWant.always (OF.move (VEv.tmp (t := (T.int .i64 ((i : Nat) : Int))) rfl)) ?_
      refine VRunO.free VWant.always (OF.move (VEv.tmp (t := (T.sl false 1 (a.map (eInt false)))) rfl)) ?_
      refine VRunO.look VWant.always (B.lenR (m := a.length) (VEv.tmp (t := (T.sl false 1 (a.map (eInt false)))) rfl) Try.underlying72 (List.length_map ..)) ?_
      refine VRunO.free VWant.always (B.lss (c := (decide (i < a.length))) (VEv.tmp (t := (T.int .i64 ((i : Nat) : Int))) rfl) (VEv.tmp (t := (T.int .i64 ((a.length : Nat) : Int))) rfl) (by first | (exact decN (by omega)))) ?_
      refine VRunO.nil ?_
      refine vthn.n ?_
      refine VRun.cond (VEv.tmp (t := (T.bool (decide (i < a.length)))) rfl) (fun hc1 => ?_) (fun hc1 => ?_)
      · have fhc1 : i < a.length := of_decide_eq_true hc1
        refine VRun.skip ?_
        refine vthn.n ?_
        refine VRun.seq ?_
        refine VRun.block ?_
        refine VRun.seq ?_
        refine VRun.draw (B := [[], [], [1, 0], [0, 1, 2], [], [], [5, 4], [4, 5, 6], [6, 5, 4, 7, 2, 1, 0, 3]]) (by kernel_rfl) (by kernel_rfl) ?_
        refine VRunD.free rfl VWant.always rfl (OF.move (VEv.tmp (t := (T.sl false 1 (a.map (eInt false)))) rfl)) ?_
        refine VRunD.free rfl VWant.always rfl (OF.move (VEv.tmp (t := (T.int .i64 ((i : Nat) : Int))) rfl)) ?_
        obtain ⟨x1, hx1⟩ : ∃ x, a[i]? = some x := ⟨_, List.getElem?_eq_getElem (by first | omega | (simp only [List.length_map]; omega) | (simp only [List.length_map, List.length_append, List.length_cons, List.length_nil, List.length_replicate, List.length_set, List.length_drop, List.length_take, lim] at *; omega))⟩
        refine VRunD.free rfl VWant.always rfl (OF.indexAddrR (row := (eInt false x1)) (i := i) (VEv.tmp (t := (T.sl false 1 (a.map (eInt false)))) rfl) (VEv.tmp (t := (T.int .i64 ((i : Nat) : Int))) rfl) rfl (map_at _ hx1) Try.underlying72 sz3 if3) ?_
        refine VRunD.look rfl VWant.always rfl (OL.loadR1 (t := (T.int .i64 x1)) (VEv.tmp (t := (T.rp [(T.int .i64 x1)])) rfl) rfl st3) ?_
        refine VRunD.free rfl VWant.always rfl (OF.move (VEv.tmp (t := (T.sl false 1 (b.map (eInt false)))) rfl)) ?_
        refine VRunD.free rfl VWant.always rfl (OF.move (VEv.tmp (t := (T.int .i64 ((i : Nat) : Int))) rfl)) ?_
        obtain ⟨x2, hx2⟩ : ∃ x, b[i]? = some x := ⟨_, List.getElem?_eq_getElem (by first | omega | (simp only [List.length_map]; omega) | (simp only [List.length_map, List.length_append, List.length_cons, List.length_nil, List.length_replicate, List.length_set, List.length_drop, List.length_take, lim] at *; omega))⟩
        refine VRunD.free rfl VWant.always rfl (OF.indexAddrR (row := (eInt false x2)) (i := i) (VEv.tmp (t := (T.sl false 1 (b.map (eInt false)))) rfl) (VEv.tmp (t := (T.int .i64 ((i : Nat) : Int))) rfl) rfl (map_at _ hx2) Try.underlying72 sz3 if3) ?_
        refine VRunD.look rfl VWant.always rfl (OL.loadR1 (t := (T.int .i64 x2)) (VEv.tmp (t := (T.rp [(T.int .i64 x2)])) rfl) rfl st3) ?_
        refine VRunD.free rfl VWant.always rfl (B.neq (c := (!(decide (x1 = x2)))) (VEv.tmp (t := (T.int .i64 x1)) rfl) (VEv.tmp (t := (T.int .i64 x2)) rfl) rfl) ?_
        refine VRunD.nil ?_
        refine vthn.n ?_
        refine VRun.cond (VEv.tmp (t := (T.bool (!(decide (x1 = x2))))) rfl) (fun hc2 => ?_) (fun hc2 => ?_)
        · have fhc2 : ¬ (x1 = x2) := ndT hc2
          refine VRun.seq ?_
          refine VRun.region ?_
          refine VRunO.free VWant.always (OF.assign (VEv.bool false)) ?_
          refine VRunO.nil ?_
          refine vthn.n ?_
          refine VRun.ret ?_
          refine vinB.r ?_
          refine vthn.r ?_
          refine vthn.r ?_
          refine vinB.r ?_
          refine vthn.r ?_
          refine vfin.eq (r' := (T.bool false)) ?_ (vfin.r (VRes.tmp (t := (T.bool false)) rfl VRes.nil) (Give.bool _))
          show (T.bool false) = (T.bool (decide (a = b)))
          refine congrArg T.bool ?_
          symm; rw [decide_eq_false_iff_not]; exact agree_not hx1 hx2 fhc2
        · have fhc2 : x1 = x2 := ndF hc2
          refine VRun.skip ?_
          refine vinB.n ?_
          refine vthn.n ?_
          refine VRun.region ?_
          refine VRunO.free VWant.always (OF.move (VEv.tmp (t := (T.int .i64 ((i : Nat) : Int))) rfl)) ?_
          refine VRunO.free VWant.always (B.add (n := (((i + 1) : Nat) : Int)) (VEv.tmp (t := (T.int .i64 ((i : Nat) : Int))) rfl) (VEv.int .i64 1) (by first | rfl | (rw [wrap64 (by omega)]; done) | (rw [wrap64 (by omega)]; omega) | (rw [wrap64 (by omega)]; push_cast; omega) | omega)) ?_
          refine VRunO.free VWant.always (OF.assign (VEv.tmp (t := (T.int .i64 (((i + 1) : Nat) : Int))) rfl)) ?_
          refine VRunO.nil ?_
          refine vthn.n ?_
          refine ⟨(i + 1 : Nat), ?_, ?_, Wk.mk (fun k => k) ?_ ?_ ?_⟩
          · exact agree_next hI' hx1 hx2 fhc2
          · first | omega | (simp only []; omega) | (show _ < _; omega) | (simp; omega)
          · exact (ball_cons ⟨rfl, rfl⟩ (ball_cons ⟨rfl, rfl⟩ (ball_cons ⟨rfl, rfl⟩ (ball_nil))))
          · exact (ball_nil)
          · show List.Nodup ([] : List Nat)
            decide
      · have fhc1 : ¬ (i < a.length) := of_decide_eq_false hc1
        refine VRun.exit ?_
        refine vthn.e ?_
        refine vthn.e ?_
        refine vinB.e ?_
        refine vthn.n ?_
        refine VRun.seq ?_
        refine VRun.region ?_
        refine VRunO.free VWant.always (OF.assign (VEv.bool true)) ?_
        refine VRunO.nil ?_
        refine vthn.n ?_
        refine VRun.ret ?_
        refine vfin.eq (r' := (T.bool true)) ?_ (vfin.r (VRes.tmp (t := (T.bool true)) rfl VRes.nil) (Give.bool _))
        show (T.bool true) = (T.bool (decide (a = b)))
        refine congrArg T.bool ?_
        symm; rw [decide_eq_true_eq]; exact agree_all hI' fhc0 fhc1
theorem W_laws_eqGrid (n : Nat) (a : D.Grid) (b : D.Grid)  : Pure (acall Try.prog (n + 1)) 102 [(T.agg (eGrid false a)), (T.agg (eGrid false b))] (T.bool (decide (a = b))) := by
  refine Pure.intro (rs := [ResultVar.tmp 4]) Try.func102 rfl rfl rfl (E0 := [(0, (T.agg (eGrid false a))), (1, (T.agg (eGrid false b)))]) rfl ?_
  have hlim : lim = 1099511627776 := rfl
  have hmx : mx = 1048576 := rfl
  have hmax : maxLen = 9223372036854775807 := rfl
  refine VRun.seq ?_
  refine VRun.region ?_
  refine VRunO.make VWant.always (B.box (ts := [(T.int .i64 a.Rows), (T.int .i64 a.Cols), (T.str a.Cells)]) (VEv.tmp (t := (T.agg (eGrid false a))) rfl) nofun rfl) ?_
  refine VRunO.make VWant.always (B.box (ts := [(T.int .i64 b.Rows), (T.int .i64 b.Cols), (T.str b.Cells)]) (VEv.tmp (t := (T.agg (eGrid false b))) rfl) nofun rfl) ?_
  refine VRunO.free VWant.always (OF.assign (VEv.bool false)) ?_
  refine VRunO.nil ?_
  refine vthn.n ?_
  refine VRun.seq ?_
  refine VRun.seq ?_
  refine VRun.region ?_
  refine VRunO.free VWant.always (OF.fieldAddrO (VEv.tmp (t := (T.op 0 0)) rfl) fa59_0) ?_
  refine VRunO.look VWant.always (OL.loadO1 (t := (T.int .i64 a.Rows)) (VEv.tmp (t := (T.op 0 0)) rfl) rfl rfl st3) ?_
  refine VRunO.free VWant.always (OF.fieldAddrO (VEv.tmp (t := (T.op 1 0)) rfl) fa59_0) ?_
  refine VRunO.look VWant.always (OL.loadO1 (t := (T.int .i64 b.Rows)) (VEv.tmp (t := (T.op 1 0)) rfl) rfl rfl st3) ?_
  refine VRunO.free VWant.always (B.neq (c := (!(decide (a.Rows = b.Rows)))) (VEv.tmp (t := (T.int .i64 a.Rows)) rfl) (VEv.tmp (t := (T.int .i64 b.Rows)) rfl) rfl) ?_
  refine VRunO.nil ?_
  refine vthn.n ?_
  refine VRun.cond (VEv.tmp (t := (T.bool (!(decide (a.Rows = b.Rows))))) rfl) (fun hc0 => ?_) (fun hc0 => ?_)
  · have fhc0 : ¬ (a.Rows = b.Rows) := ndT hc0
    refine VRun.seq ?_
    refine VRun.region ?_
    refine VRunO.free VWant.always (OF.assign (VEv.bool false)) ?_
    refine VRunO.nil ?_
    refine vthn.n ?_
    refine VRun.ret ?_
    refine vthn.r ?_
    refine vfin.eq (r' := (T.bool false)) ?_ (vfin.r (VRes.tmp (t := (T.bool false)) rfl VRes.nil) (Give.bool _))
    show (T.bool false) = (T.bool (decide (a = b)))
    refine congrArg T.bool ?_
    obtain ⟨a0, a1, a2⟩ := a
    obtain ⟨b0, b1, b2⟩ := b
    simp_all
  · have fhc0 : a.Rows = b.Rows := ndF hc0
    refine VRun.skip ?_
    refine vthn.n ?_
    refine VRun.seq ?_
    refine VRun.seq ?_
    refine VRun.region ?_
    refine VRunO.free VWant.always (OF.fieldAddrO (VEv.tmp (t := (T.op 0 0)) rfl) fa59_1) ?_
    refine VRunO.look VWant.always (OL.loadO1 (t := (T.int .i64 a.Cols)) (VEv.tmp (t := (T.op 0 1)) rfl) rfl rfl st3) ?_
    refine VRunO.free VWant.always (OF.fieldAddrO (VEv.tmp (t := (T.op 1 0)) rfl) fa59_1) ?_
    refine VRunO.look VWant.always (OL.loadO1 (t := (T.int .i64 b.Cols)) (VEv.tmp (t := (T.op 1 1)) rfl) rfl rfl st3) ?_
    refine VRunO.free VWant.always (B.neq (c := (!(decide (a.Cols = b.Cols)))) (VEv.tmp (t := (T.int .i64 a.Cols)) rfl) (VEv.tmp (t := (T.int .i64 b.Cols)) rfl) rfl) ?_
    refine VRunO.nil ?_
    refine vthn.n ?_
    refine VRun.cond (VEv.tmp (t := (T.bool (!(decide (a.Cols = b.Cols))))) rfl) (fun hc1 => ?_) (fun hc1 => ?_)
    · have fhc1 : ¬ (a.Cols = b.Cols) := ndT hc1
      refine VRun.seq ?_
      refine VRun.region ?_
      refine VRunO.free VWant.always (OF.assign (VEv.bool false)) ?_
      refine VRunO.nil ?_
      refine vthn.n ?_
      refine VRun.ret ?_
      refine vthn.r ?_
      refine vfin.eq (r' := (T.bool false)) ?_ (vfin.r (VRes.tmp (t := (T.bool false)) rfl VRes.nil) (Give.bool _))
      show (T.bool false) = (T.bool (decide (a = b)))
      refine congrArg T.bool ?_
      obtain ⟨a0, a1, a2⟩ := a
      obtain ⟨b0, b1, b2⟩ := b
      simp_all
    · have fhc1 : a.Cols = b.Cols := ndF hc1
      refine VRun.skip ?_
      refine vthn.n ?_
      refine VRun.seq ?_
      refine VRun.seq ?_
      refine VRun.region ?_
      refine VRunO.free VWant.always (OF.fieldAddrO (VEv.tmp (t := (T.op 0 0)) rfl) fa59_2) ?_
      refine VRunO.look VWant.always (OL.loadO1 (t := (T.str a.Cells)) (VEv.tmp (t := (T.op 0 2)) rfl) rfl rfl st9) ?_
      refine VRunO.free VWant.always (OF.fieldAddrO (VEv.tmp (t := (T.op 1 0)) rfl) fa59_2) ?_
      refine VRunO.look VWant.always (OL.loadO1 (t := (T.str b.Cells)) (VEv.tmp (t := (T.op 1 2)) rfl) rfl rfl st9) ?_
      refine VRunO.free VWant.always (B.sneq (c := (!(decide (a.Cells = b.Cells)))) (VEv.tmp (t := (T.str a.Cells)) rfl) (VEv.tmp (t := (T.str b.Cells)) rfl) rfl) ?_
      refine VRunO.nil ?_
      refine vthn.n ?_
      refine VRun.cond (VEv.tmp (t := (T.bool (!(decide (a.Cells = b.Cells))))) rfl) (fun hc2 => ?_) (fun hc2 => ?_)
      · have fhc2 : ¬ (a.Cells = b.Cells) := ndT hc2
        refine VRun.seq ?_
        refine VRun.region ?_
        refine VRunO.free VWant.always (OF.assign (VEv.bool false)) ?_
        refine VRunO.nil ?_
        refine vthn.n ?_
        refine VRun.ret ?_
        refine vthn.r ?_
        refine vfin.eq (r' := (T.bool false)) ?_ (vfin.r (VRes.tmp (t := (T.bool false)) rfl VRes.nil) (Give.bool _))
        show (T.bool false) = (T.bool (decide (a = b)))
        refine congrArg T.bool ?_
        obtain ⟨a0, a1, a2⟩ := a
        obtain ⟨b0, b1, b2⟩ := b
        simp_all
      · have fhc2 : a.Cells = b.Cells := ndF hc2
        refine VRun.skip ?_
        refine vthn.n ?_
        refine VRun.seq ?_
        refine VRun.region ?_
        refine VRunO.free VWant.always (OF.assign (VEv.bool true)) ?_
        refine VRunO.nil ?_
        refine vthn.n ?_
        refine VRun.ret ?_
        refine vfin.eq (r' := (T.bool true)) ?_ (vfin.r (VRes.tmp (t := (T.bool true)) rfl VRes.nil) (Give.bool _))
        show (T.bool true) = (T.bool (decide (a = b)))
        refine congrArg T.bool ?_
        obtain ⟨a0, a1, a2⟩ := a
        obtain ⟨b0, b1, b2⟩ := b
        simp_all
theorem W_laws_eqStep (n : Nat) (a : D.Step) (b : D.Step)  : Pure (acall Try.prog (n + 1)) 163 [(T.agg (eStep false a)), (T.agg (eStep false b))] (T.bool (decide (a = b))) := by
  refine Pure.intro (rs := [ResultVar.tmp 4]) Try.func163 rfl rfl rfl (E0 := [(0, (T.agg (eStep false a))), (1, (T.agg (eStep false b)))]) rfl ?_
  have hlim : lim = 1099511627776 := rfl
  have hmx : mx = 1048576 := rfl
  have hmax : maxLen = 9223372036854775807 := rfl
  refine VRun.seq ?_
  refine VRun.region ?_
  refine VRunO.make VWant.always (B.box (ts := [(T.int .i64 a.Kind), (T.str a.Word), (T.int .i64 a.A), (T.int .i64 a.B)]) (VEv.tmp (t := (T.agg (eStep false a))) rfl) nofun rfl) ?_
  refine VRunO.make VWant.always (B.box (ts := [(T.int .i64 b.Kind), (T.str b.Word), (T.int .i64 b.A), (T.int .i64 b.B)]) (VEv.tmp (t := (T.agg (eStep false b))) rfl) nofun rfl) ?_
  refine VRunO.free VWant.always (OF.assign (VEv.bool false)) ?_
  refine VRunO.nil ?_
  refine vthn.n ?_
  refine VRun.seq ?_
  refine VRun.seq ?_
  refine VRun.region ?_
  refine VRunO.free VWant.always (OF.fieldAddrO (VEv.tmp (t := (T.op 0 0)) rfl) fa166_0) ?_
  refine VRunO.look VWant.always (OL.loadO1 (t := (T.int .i64 a.Kind)) (VEv.tmp (t := (T.op 0 0)) rfl) rfl rfl st3) ?_
  refine VRunO.free VWant.always (OF.fieldAddrO (VEv.tmp (t := (T.op 1 0)) rfl) fa166_0) ?_
  refine VRunO.look VWant.always (OL.loadO1 (t := (T.int .i64 b.Kind)) (VEv.tmp (t := (T.op 1 0)) rfl) rfl rfl st3) ?_
  refine VRunO.free VWant.always (B.neq (c := (!(decide (a.Kind = b.Kind)))) (VEv.tmp (t := (T.int .i64 a.Kind)) rfl) (VEv.tmp (t := (T.int .i64 b.Kind)) rfl) rfl) ?_
  refine VRunO.nil ?_
  refine vthn.n ?_
  refine VRun.cond (VEv.tmp (t := (T.bool (!(decide (a.Kind = b.Kind))))) rfl) (fun hc0 => ?_) (fun hc0 => ?_)
  · have fhc0 : ¬ (a.Kind = b.Kind) := ndT hc0
    refine VRun.seq ?_
    refine VRun.region ?_
    refine VRunO.free VWant.always (OF.assign (VEv.bool false)) ?_
    refine VRunO.nil ?_
    refine vthn.n ?_
    refine VRun.ret ?_
    refine vthn.r ?_
    refine vfin.eq (r' := (T.bool false)) ?_ (vfin.r (VRes.tmp (t := (T.bool false)) rfl VRes.nil) (Give.bool _))
    show (T.bool false) = (T.bool (decide (a = b)))
    refine congrArg T.bool ?_
    obtain ⟨a0, a1, a2, a3⟩ := a
    obtain ⟨b0, b1, b2, b3⟩ := b
    simp_all
  · have fhc0 : a.Kind = b.Kind := ndF hc0
    refine VRun.skip ?_
    refine vthn.n ?_
    refine VRun.seq ?_
    refine VRun.seq ?_
    refine VRun.region ?_
    refine VRunO.free VWant.always (OF.fieldAddrO (VEv.tmp (t := (T.op 0 0)) rfl) fa166_1) ?_
    refine VRunO.look VWant.always (OL.loadO1 (t := (T.str a.Word)) (VEv.tmp (t := (T.op 0 1)) rfl) rfl rfl st9) ?_
    refine VRunO.free VWant.always (OF.fieldAddrO (VEv.tmp (t := (T.op 1 0)) rfl) fa166_1) ?_
    refine VRunO.look VWant.always (OL.loadO1 (t := (T.str b.Word)) (VEv.tmp (t := (T.op 1 1)) rfl) rfl rfl st9) ?_
    refine VRunO.free VWant.always (B.sneq (c := (!(decide (a.Word = b.Word)))) (VEv.tmp (t := (T.str a.Word)) rfl) (VEv.tmp (t := (T.str b.Word)) rfl) rfl) ?_
    refine VRunO.nil ?_
    refine vthn.n ?_
    refine VRun.cond (VEv.tmp (t := (T.bool (!(decide (a.Word = b.Word))))) rfl) (fun hc1 => ?_) (fun hc1 => ?_)
    · have fhc1 : ¬ (a.Word = b.Word) := ndT hc1
      refine VRun.seq ?_
      refine VRun.region ?_
      refine VRunO.free VWant.always (OF.assign (VEv.bool false)) ?_
      refine VRunO.nil ?_
      refine vthn.n ?_
      refine VRun.ret ?_
      refine vthn.r ?_
      refine vfin.eq (r' := (T.bool false)) ?_ (vfin.r (VRes.tmp (t := (T.bool false)) rfl VRes.nil) (Give.bool _))
      show (T.bool false) = (T.bool (decide (a = b)))
      refine congrArg T.bool ?_
      obtain ⟨a0, a1, a2, a3⟩ := a
      obtain ⟨b0, b1, b2, b3⟩ := b
      simp_all
    · have fhc1 : a.Word = b.Word := ndF hc1
      refine VRun.skip ?_
      refine vthn.n ?_
      refine VRun.seq ?_
      refine VRun.seq ?_
      refine VRun.region ?_
      refine VRunO.free VWant.always (OF.fieldAddrO (VEv.tmp (t := (T.op 0 0)) rfl) fa166_2) ?_
      refine VRunO.look VWant.always (OL.loadO1 (t := (T.int .i64 a.A)) (VEv.tmp (t := (T.op 0 2)) rfl) rfl rfl st3) ?_
      refine VRunO.free VWant.always (OF.fieldAddrO (VEv.tmp (t := (T.op 1 0)) rfl) fa166_2) ?_
      refine VRunO.look VWant.always (OL.loadO1 (t := (T.int .i64 b.A)) (VEv.tmp (t := (T.op 1 2)) rfl) rfl rfl st3) ?_
      refine VRunO.free VWant.always (B.neq (c := (!(decide (a.A = b.A)))) (VEv.tmp (t := (T.int .i64 a.A)) rfl) (VEv.tmp (t := (T.int .i64 b.A)) rfl) rfl) ?_
      refine VRunO.nil ?_
      refine vthn.n ?_
      refine VRun.cond (VEv.tmp (t := (T.bool (!(decide (a.A = b.A))))) rfl) (fun hc2 => ?_) (fun hc2 => ?_)
      · have fhc2 : ¬ (a.A = b.A) := ndT hc2
        refine VRun.seq ?_
        refine VRun.region ?_
        refine VRunO.free VWant.always (OF.assign (VEv.bool false)) ?_
        refine VRunO.nil ?_
        refine vthn.n ?_
        refine VRun.ret ?_
        refine vthn.r ?_
        refine vfin.eq (r' := (T.bool false)) ?_ (vfin.r (VRes.tmp (t := (T.bool false)) rfl VRes.nil) (Give.bool _))
        show (T.bool false) = (T.bool (decide (a = b)))
        refine congrArg T.bool ?_
        obtain ⟨a0, a1, a2, a3⟩ := a
        obtain ⟨b0, b1, b2, b3⟩ := b
        simp_all
      · have fhc2 : a.A = b.A := ndF hc2
        refine VRun.skip ?_
        refine vthn.n ?_
        refine VRun.seq ?_
        refine VRun.seq ?_
        refine VRun.region ?_
        refine VRunO.free VWant.always (OF.fieldAddrO (VEv.tmp (t := (T.op 0 0)) rfl) fa166_3) ?_
        refine VRunO.look VWant.always (OL.loadO1 (t := (T.int .i64 a.B)) (VEv.tmp (t := (T.op 0 3)) rfl) rfl rfl st3) ?_
        refine VRunO.free VWant.always (OF.fieldAddrO (VEv.tmp (t := (T.op 1 0)) rfl) fa166_3) ?_
        refine VRunO.look VWant.always (OL.loadO1 (t := (T.int .i64 b.B)) (VEv.tmp (t := (T.op 1 3)) rfl) rfl rfl st3) ?_
        refine VRunO.free VWant.always (B.neq (c := (!(decide (a.B = b.B)))) (VEv.tmp (t := (T.int .i64 a.B)) rfl) (VEv.tmp (t := (T.int .i64 b.B)) rfl) rfl) ?_
        refine VRunO.nil ?_
        refine vthn.n ?_
        refine VRun.cond (VEv.tmp (t := (T.bool (!(decide (a.B = b.B))))) rfl) (fun hc3 => ?_) (fun hc3 => ?_)
        · have fhc3 : ¬ (a.B = b.B) := ndT hc3
          refine VRun.seq ?_
          refine VRun.region ?_
          refine VRunO.free VWant.always (OF.assign (VEv.bool false)) ?_
          refine VRunO.nil ?_
          refine vthn.n ?_
          refine VRun.ret ?_
          refine vthn.r ?_
          refine vfin.eq (r' := (T.bool false)) ?_ (vfin.r (VRes.tmp (t := (T.bool false)) rfl VRes.nil) (Give.bool _))
          show (T.bool false) = (T.bool (decide (a = b)))
          refine congrArg T.bool ?_
          obtain ⟨a0, a1, a2, a3⟩ := a
          obtain ⟨b0, b1, b2, b3⟩ := b
          simp_all
        · have fhc3 : a.B = b.B := ndF hc3
          refine VRun.skip ?_
          refine vthn.n ?_
          refine VRun.seq ?_
          refine VRun.region ?_
          refine VRunO.free VWant.always (OF.assign (VEv.bool true)) ?_
          refine VRunO.nil ?_
          refine vthn.n ?_
          refine VRun.ret ?_
          refine vfin.eq (r' := (T.bool true)) ?_ (vfin.r (VRes.tmp (t := (T.bool true)) rfl VRes.nil) (Give.bool _))
          show (T.bool true) = (T.bool (decide (a = b)))
          refine congrArg T.bool ?_
          obtain ⟨a0, a1, a2, a3⟩ := a
          obtain ⟨b0, b1, b2, b3⟩ := b
          simp_all
theorem W_laws_eqStepS (n : Nat) (a : List D.Step) (b : List D.Step) (hla : a.length ≤ mx) (hlb : b.length ≤ mx) : Pure (acall Try.prog (n + 2)) 152 [(T.sl false 4 (a.map (eStep false))), (T.sl false 4 (b.map (eStep false)))] (T.bool (decide (a = b))) := by
  refine Pure.intro (rs := [ResultVar.tmp 4]) Try.func152 rfl rfl rfl (E0 := [(0, (T.sl false 4 (a.map (eStep false)))), (1, (T.sl false 4 (b.map (eStep false))))]) rfl ?_
  have hlim : lim = 1099511627776 := rfl
  have hmx : mx = 1048576 := rfl
  have hmax : maxLen = 9223372036854775807 := rfl
  refine VRun.seq ?_
  refine VRun.region ?_
  refine VRunO.free VWant.always (OF.assign (VEv.bool false)) ?_
  refine VRunO.nil ?_
  refine vthn.n ?_
  refine VRun.seq ?_
  refine VRun.seq ?_
  refine VRun.region ?_
  refine VRunO.free VWant.always (OF.move (VEv.tmp (t := (T.sl false 4 (a.map (eStep false)))) rfl)) ?_
  refine VRunO.look VWant.always (B.lenR (m := a.length) (VEv.tmp (t := (T.sl false 4 (a.map (eStep false)))) rfl) Try.underlying113 (List.length_map ..)) ?_
  refine VRunO.free VWant.always (OF.move (VEv.tmp (t := (T.sl false 4 (b.map (eStep false)))) rfl)) ?_
  refine VRunO.look VWant.always (B.lenR (m := b.length) (VEv.tmp (t := (T.sl false 4 (b.map (eStep false)))) rfl) Try.underlying113 (List.length_map ..)) ?_
  refine VRunO.free VWant.always (B.neq (c := (!(decide (a.length = b.length)))) (VEv.tmp (t := (T.int .i64 ((a.length : Nat) : Int))) rfl) (VEv.tmp (t := (T.int .i64 ((b.length : Nat) : Int))) rfl) (by first | (exact decNn (by omega)))) ?_
  refine VRunO.nil ?_
  refine vthn.n ?_
  refine VRun.cond (VEv.tmp (t := (T.bool (!(decide (a.length = b.length))))) rfl) (fun hc0 => ?_) (fun hc0 => ?_)
  · have fhc0 : ¬ (a.length = b.length) := ndT hc0
    refine VRun.seq ?_
    refine VRun.region ?_
    refine VRunO.free VWant.always (OF.assign (VEv.bool false)) ?_
    refine VRunO.nil ?_
    refine vthn.n ?_
    refine VRun.ret ?_
    refine vthn.r ?_
    refine vfin.eq (r' := (T.bool false)) ?_ (vfin.r (VRes.tmp (t := (T.bool false)) rfl VRes.nil) (Give.bool _))
    show (T.bool false) = (T.bool (decide (a = b)))
    refine congrArg T.bool ?_
    symm; rw [decide_eq_false_iff_not]; rintro rfl; exact fhc0 rfl
  · have fhc0 : a.length = b.length := ndF hc0
    refine VRun.skip ?_
    refine vthn.n ?_
    refine VRun.seq ?_
    refine VRun.seq ?_
    refine VRun.region ?_
    refine VRunO.free VWant.always (OF.assign (VEv.int .i64 0)) ?_
    refine VRunO.nil ?_
    refine vthn.n ?_
    refine VRun.block ?_
    refine VRun.loop (A := Nat) (fun s_ => [(0, (T.sl false 4 (a.map (eStep false)))), (1, (T.sl false 4 (b.map (eStep false)))), (5, (T.int .i64 ((s_ : Nat) : Int)))]) (fun s_ => mkO []) 0 (fun s_ => s_ ≤ a.length ∧ ∀ j, j < s_ → a[j]? = b[j]?) (fun s_ => a.length - s_) (0 : Nat) ?_ (Wk.mk (fun k => k) ?_ ?_ ?_) ?_
    · first | trivial | (simp; done) | omega | (constructor <;> simp)
    · exact (ball_cons ⟨rfl, rfl⟩ (ball_cons ⟨rfl, rfl⟩ (ball_cons ⟨(congrArg (T.int .i64) (show 0 = ((0 : Nat) : Int) from (by first | rfl | omega | (simp; done) | (push_cast; omega)))), rfl⟩ (ball_nil))))
    · exact (ball_nil)
    · show List.Nodup ([] : List Nat)
      decide
    · rintro i hI
      have hI' : i ≤ a.length ∧ ∀ j, j < i → a[j]? = b[j]? := hI
      clear hI
      show VRun _ _ _ [(0, (T.sl false 4 (a.map (eStep false)))), (1, (T.sl false 4 (b.map (eStep false)))), (5, (T.int .i64 ((i : Nat) : Int)))] (mkO []) 0 _
      refine VRun.seq ?_
      refine VRun.seq ?_
      refine VRun.region ?_
      refine VRunO.free VWant.always (OF.move (VEv.tmp (t := (T.int .i64 ((i : Nat) : Int))) rfl)) ?_
      refine VRunO.free VWant.always (OF.move (VEv.tmp (t := (T.sl false 4 (a.map (eStep false)))) rfl)) ?_
      refine VRunO.look VWant.always (B.lenR (m := a.length) (VEv.tmp (t := (T.sl false 4 (a.map (eStep false)))) rfl) Try.underlying113 (List.length_map ..)) ?_
      refine VRunO.free VWant.always (B.lss (c := (decide (i < a.length))) (VEv.tmp (t := (T.int .i64 ((i : Nat) : Int))) rfl) (VEv.tmp (t := (T.int .i64 ((a.length : Nat) : Int))) rfl) (by first | (exact decN (by omega)))) ?_
      refine VRunO.nil ?_
      refine vthn.n ?_
      refine VRun.cond (VEv.tmp (t := (T.bool (decide (i < a.length)))) rfl) (fun hc1 => ?_) (fun hc1 => ?_)
      · have fhc1 : i < a.length := of_decide_eq_true hc1
        refine VRun.skip ?_
        refine vthn.n ?_
        refine VRun.seq ?_
        refine VRun.block ?_
        refine VRun.seq ?_
        refine VRun.draw (B := [[], [], [1, 0], [0, 1, 2], [], [], [5, 4], [4, 5, 6], [6, 5, 4, 7, 2, 1, 0, 3], [3, 0, 1, 2, 7, 4, 5, 6, 8]]) (by kernel_rfl) (by kernel_rfl) ?_
        refine VRunD.free rfl VWant.always rfl (OF.move (VEv.tmp (t := (T.sl false 4 (a.map (eStep false)))) rfl)) ?_
        refine VRunD.free rfl VWant.always rfl (OF.move (VEv.tmp (t := (T.int .i64 ((i : Nat) : Int))) rfl)) ?_
        obtain ⟨x1, hx1⟩ : ∃ x, a[i]? = some x := ⟨_, List.getElem?_eq_getElem (by first | omega | (simp only [List.length_map]; omega) | (simp only [List.length_map, List.length_append, List.length_cons, List.length_nil, List.length_replicate, List.length_set, List.length_drop, List.length_take, lim] at *; omega))⟩
        refine VRunD.free rfl VWant.always rfl (OF.indexAddrR (row := (eStep false x1)) (i := i) (VEv.tmp (t := (T.sl false 4 (a.map (eStep false)))) rfl) (VEv.tmp (t := (T.int .i64 ((i : Nat) : Int))) rfl) rfl (map_at _ hx1) Try.underlying113 sz166 if166) ?_
        refine VRunD.look rfl VWant.always rfl (OL.loadRn (us := (eStep false x1)) (VEv.tmp (t := (T.rp [(T.int .i64 x1.Kind), (T.str x1.Word), (T.int .i64 x1.A), (T.int .i64 x1.B)])) rfl) st166 sz166 (Nat.le_of_ble_eq_true rfl) rfl) ?_
        refine VRunD.free rfl VWant.always rfl (OF.move (VEv.tmp (t := (T.sl false 4 (b.map (eStep false)))) rfl)) ?_
        refine VRunD.free rfl VWant.always rfl (OF.move (VEv.tmp (t := (T.int .i64 ((i : Nat) : Int))) rfl)) ?_
        obtain ⟨x2, hx2⟩ : ∃ x, b[i]? = some x := ⟨_, List.getElem?_eq_getElem (by first | omega | (simp only [List.length_map]; omega) | (simp only [List.length_map, List.length_append, List.length_cons, List.length_nil, List.length_replicate, List.length_set, List.length_drop, List.length_take, lim] at *; omega))⟩
        refine VRunD.free rfl VWant.always rfl (OF.indexAddrR (row := (eStep false x2)) (i := i) (VEv.tmp (t := (T.sl false 4 (b.map (eStep false)))) rfl) (VEv.tmp (t := (T.int .i64 ((i : Nat) : Int))) rfl) rfl (map_at _ hx2) Try.underlying113 sz166 if166) ?_
        refine VRunD.look rfl VWant.always rfl (OL.loadRn (us := (eStep false x2)) (VEv.tmp (t := (T.rp [(T.int .i64 x2.Kind), (T.str x2.Word), (T.int .i64 x2.A), (T.int .i64 x2.B)])) rfl) st166 sz166 (Nat.le_of_ble_eq_true rfl) rfl) ?_
        refine VRunD.quiet (bi := [6, 5, 4, 7, 2, 1, 0, 3]) rfl VWant.always rfl rfl rfl (ball_nil) (OC.callF (us := [(T.agg (eStep false x1)), (T.agg (eStep false x2))]) (r := (T.bool (decide (x1 = x2)))) (r' := (T.bool (decide (x1 = x2)))) (objs := []) rfl (VEvs.cons (VEv.tmp (t := (T.agg (eStep false x1))) rfl) (VEvs.cons (VEv.tmp (t := (T.agg (eStep false x2))) rfl) VEvs.nil)) (LendL.cons (Lend.agg (LendL.cons (Lend.pl rfl) (LendL.cons (Lend.pl rfl) (LendL.cons (Lend.pl rfl) (LendL.cons (Lend.pl rfl) (LendL.nil)))))) (LendL.cons (Lend.agg (LendL.cons (Lend.pl rfl) (LendL.cons (Lend.pl rfl) (LendL.cons (Lend.pl rfl) (LendL.cons (Lend.pl rfl) (LendL.nil)))))) (LendL.nil))) (W_laws_eqStep (n + 0) x1 x2 ) rfl) ?_
        refine VRunD.free rfl VWant.always rfl (B.not (c := (!(decide (x1 = x2)))) (VEv.tmp (t := (T.bool (decide (x1 = x2)))) rfl) rfl) ?_
        refine VRunD.nil ?_
        refine vthn.n ?_
        refine VRun.cond (VEv.tmp (t := (T.bool (!(decide (x1 = x2))))) rfl) (fun hc2 => ?_) (fun hc2 => ?_)
        · have fhc2 : ¬ (x1 = x2) := ndT hc2
          refine VRun.seq ?_
          refine VRun.region ?_
          refine VRunO.free VWant.always (OF.assign (VEv.bool false)) ?_
          refine VRunO.nil ?_
          refine vthn.n ?_
          refine VRun.ret ?_
          refine vinB.r ?_
          refine vthn.r ?_
          refine vthn.r ?_
          refine vinB.r ?_
          refine vthn.r ?_
          refine vfin.eq (r' := (T.bool false)) ?_ (vfin.r (VRes.tmp (t := (T.bool false)) rfl VRes.nil) (Give.bool _))
          show (T.bool false) = (T.bool (decide (a = b)))
          refine congrArg T.bool ?_
          symm; rw [decide_eq_false_iff_not]; exact agree_not hx1 hx2 fhc2
        · have fhc2 : x1 = x2 := ndF hc2
          refine VRun.skip ?_
          refine vinB.n ?_
          refine vthn.n ?_
          refine VRun.region ?_
          refine VRunO.free VWant.always (OF.move (VEv.tmp (t := (T.int .i64 ((i : Nat) : Int))) rfl)) ?_
          refine VRunO.free VWant.always (B.add (n := (((i + 1) : Nat) : Int)) (VEv.tmp (t := (T.int .i64 ((i : Nat) : Int))) rfl) (VEv.int .i64 1) (by first | rfl | (rw [wrap64 (by omega)]; done) | (rw [wrap64 (by omega)]; omega) | (rw [wrap64 (by omega)]; push_cast; omega) | omega)) ?_
          refine VRunO.free VWant.always (OF.assign (VEv.tmp (t := (T.int .i64 (((i + 1) : Nat) : Int))) rfl)) ?_
          refine VRunO.nil ?_
          refine vthn.n ?_
          refine ⟨(i + 1 : Nat), ?_, ?_, Wk.mk (fun k => k) ?_ ?_ ?_⟩
          · exact agree_next hI' hx1 hx2 fhc2
          · first | omega | (simp only []; omega) | (show _ < _; omega) | (simp; omega)
          · exact (ball_cons ⟨rfl, rfl⟩ (ball_cons ⟨rfl, rfl⟩ (ball_cons ⟨rfl, rfl⟩ (ball_nil))))
          · exact (ball_nil)
          · show List.Nodup ([] : List Nat)
            decide
      · have fhc1 : ¬ (i < a.length) := of_decide_eq_false hc1
        refine VRun.exit ?_
        refine vthn.e ?_
        refine vthn.e ?_
        refine vinB.e ?_
        refine vthn.n ?_
        refine VRun.seq ?_
        refine VRun.region ?_
        refine VRunO.free VWant.always (OF.assign (VEv.bool true)) ?_
        refine VRunO.nil ?_
        refine vthn.n ?_
        refine VRun.ret ?_
        refine vfin.eq (r' := (T.bool true)) ?_ (vfin.r (VRes.tmp (t := (T.bool true)) rfl VRes.nil) (Give.bool _))
        show (T.bool true) = (T.bool (decide (a = b)))
        refine congrArg T.bool ?_
        symm; rw [decide_eq_true_eq]; exact agree_all hI' fhc0 fhc1
theorem W_laws_eqClue (n : Nat) (a : D.Clue) (b : D.Clue) (ha : zClue a ≤ mx) (hb : zClue b ≤ mx) : Pure (acall Try.prog (n + 3)) 124 [(T.agg (eClue false a)), (T.agg (eClue false b))] (T.bool (decide (a = b))) := by
  refine Pure.intro (rs := [ResultVar.tmp 4]) Try.func124 rfl rfl rfl (E0 := [(0, (T.agg (eClue false a))), (1, (T.agg (eClue false b)))]) rfl ?_
  have hlim : lim = 1099511627776 := rfl
  have hmx : mx = 1048576 := rfl
  have hmax : maxLen = 9223372036854775807 := rfl
  simp only [zClue] at ha hb
  have hla_Play := zL_len (z := zStep) a.Play
  have hlb_Play := zL_len (z := zStep) b.Play
  refine VRun.seq ?_
  refine VRun.region ?_
  refine VRunO.make VWant.always (B.box (ts := [(T.int .i64 a.Sense), (T.sl false 4 (a.Play.map (eStep false)))]) (VEv.tmp (t := (T.agg (eClue false a))) rfl) nofun rfl) ?_
  refine VRunO.make VWant.always (B.box (ts := [(T.int .i64 b.Sense), (T.sl false 4 (b.Play.map (eStep false)))]) (VEv.tmp (t := (T.agg (eClue false b))) rfl) nofun rfl) ?_
  refine VRunO.free VWant.always (OF.assign (VEv.bool false)) ?_
  refine VRunO.nil ?_
  refine vthn.n ?_
  refine VRun.seq ?_
  refine VRun.seq ?_
  refine VRun.region ?_
  refine VRunO.free VWant.always (OF.fieldAddrO (VEv.tmp (t := (T.op 0 0)) rfl) fa115_0) ?_
  refine VRunO.look VWant.always (OL.loadO1 (t := (T.int .i64 a.Sense)) (VEv.tmp (t := (T.op 0 0)) rfl) rfl rfl st3) ?_
  refine VRunO.free VWant.always (OF.fieldAddrO (VEv.tmp (t := (T.op 1 0)) rfl) fa115_0) ?_
  refine VRunO.look VWant.always (OL.loadO1 (t := (T.int .i64 b.Sense)) (VEv.tmp (t := (T.op 1 0)) rfl) rfl rfl st3) ?_
  refine VRunO.free VWant.always (B.neq (c := (!(decide (a.Sense = b.Sense)))) (VEv.tmp (t := (T.int .i64 a.Sense)) rfl) (VEv.tmp (t := (T.int .i64 b.Sense)) rfl) rfl) ?_
  refine VRunO.nil ?_
  refine vthn.n ?_
  refine VRun.cond (VEv.tmp (t := (T.bool (!(decide (a.Sense = b.Sense))))) rfl) (fun hc0 => ?_) (fun hc0 => ?_)
  · have fhc0 : ¬ (a.Sense = b.Sense) := ndT hc0
    refine VRun.seq ?_
    refine VRun.region ?_
    refine VRunO.free VWant.always (OF.assign (VEv.bool false)) ?_
    refine VRunO.nil ?_
    refine vthn.n ?_
    refine VRun.ret ?_
    refine vthn.r ?_
    refine vfin.eq (r' := (T.bool false)) ?_ (vfin.r (VRes.tmp (t := (T.bool false)) rfl VRes.nil) (Give.bool _))
    show (T.bool false) = (T.bool (decide (a = b)))
    refine congrArg T.bool ?_
    obtain ⟨a0, a1⟩ := a
    obtain ⟨b0, b1⟩ := b
    simp_all
  · have fhc0 : a.Sense = b.Sense := ndF hc0
    refine VRun.skip ?_
    refine vthn.n ?_
    refine VRun.seq ?_
    refine VRun.seq ?_
    refine VRun.region ?_
    refine VRunO.free VWant.always (OF.fieldAddrO (VEv.tmp (t := (T.op 0 0)) rfl) fa115_1) ?_
    refine VRunO.look VWant.always (OL.loadO1 (t := (T.sl false 4 (a.Play.map (eStep false)))) (VEv.tmp (t := (T.op 0 1)) rfl) rfl rfl st113) ?_
    refine VRunO.free VWant.always (OF.fieldAddrO (VEv.tmp (t := (T.op 1 0)) rfl) fa115_1) ?_
    refine VRunO.look VWant.always (OL.loadO1 (t := (T.sl false 4 (b.Play.map (eStep false)))) (VEv.tmp (t := (T.op 1 1)) rfl) rfl rfl st113) ?_
    refine VRunO.chain VWant.always (OC.callF (us := [(T.sl false 4 (a.Play.map (eStep false))), (T.sl false 4 (b.Play.map (eStep false)))]) (r := (T.bool (decide (a.Play = b.Play)))) (r' := (T.bool (decide (a.Play = b.Play)))) (objs := []) rfl (VEvs.cons (VEv.tmp (t := (T.sl false 4 (a.Play.map (eStep false)))) rfl) (VEvs.cons (VEv.tmp (t := (T.sl false 4 (b.Play.map (eStep false)))) rfl) VEvs.nil)) (LendL.cons (Lend.pl rfl) (LendL.cons (Lend.pl rfl) (LendL.nil))) (W_laws_eqStepS (n + 0) a.Play b.Play (by first | assumption | omega | (simp only [List.length_map]; omega) | (simp only [List.length_map, List.length_append, List.length_cons, List.length_nil, List.length_replicate, List.length_set, List.length_drop, List.length_take, lim] at *; omega)) (by first | assumption | omega | (simp only [List.length_map]; omega) | (simp only [List.length_map, List.length_append, List.length_cons, List.length_nil, List.length_replicate, List.length_set, List.length_drop, List.length_take, lim] at *; omega))) rfl) ?_
    refine VRunO.free VWant.always (B.not (c := (!(decide (a.Play = b.Play)))) (VEv.tmp (t := (T.bool (decide (a.Play = b.Play)))) rfl) rfl) ?_
    refine VRunO.nil ?_
    refine vthn.n ?_
    refine VRun.cond (VEv.tmp (t := (T.bool (!(decide (a.Play = b.Play))))) rfl) (fun hc1 => ?_) (fun hc1 => ?_)
    · have fhc1 : ¬ (a.Play = b.Play) := ndT hc1
      refine VRun.seq ?_
      refine VRun.region ?_
      refine VRunO.free VWant.always (OF.assign (VEv.bool false)) ?_
      refine VRunO.nil ?_
      refine vthn.n ?_
      refine VRun.ret ?_
      refine vthn.r ?_
      refine vfin.eq (r' := (T.bool false)) ?_ (vfin.r (VRes.tmp (t := (T.bool false)) rfl VRes.nil) (Give.bool _))
      show (T.bool false) = (T.bool (decide (a = b)))
      refine congrArg T.bool ?_
      obtain ⟨a0, a1⟩ := a
      obtain ⟨b0, b1⟩ := b
      simp_all
    · have fhc1 : a.Play = b.Play := ndF hc1
      refine VRun.skip ?_
      refine vthn.n ?_
      refine VRun.seq ?_
      refine VRun.region ?_
      refine VRunO.free VWant.always (OF.assign (VEv.bool true)) ?_
      refine VRunO.nil ?_
      refine vthn.n ?_
      refine VRun.ret ?_
      refine vfin.eq (r' := (T.bool true)) ?_ (vfin.r (VRes.tmp (t := (T.bool true)) rfl VRes.nil) (Give.bool _))
      show (T.bool true) = (T.bool (decide (a = b)))
      refine congrArg T.bool ?_
      obtain ⟨a0, a1⟩ := a
      obtain ⟨b0, b1⟩ := b
      simp_all
theorem W_laws_eqClueS (n : Nat) (a : List D.Clue) (b : List D.Clue) (ha : zL zClue a ≤ mx) (hb : zL zClue b ≤ mx) : Pure (acall Try.prog (n + 4)) 103 [(T.sl false 2 (a.map (eClue false))), (T.sl false 2 (b.map (eClue false)))] (T.bool (decide (a = b))) := by
  refine Pure.intro (rs := [ResultVar.tmp 4]) Try.func103 rfl rfl rfl (E0 := [(0, (T.sl false 2 (a.map (eClue false)))), (1, (T.sl false 2 (b.map (eClue false))))]) rfl ?_
  have hlim : lim = 1099511627776 := rfl
  have hmx : mx = 1048576 := rfl
  have hmax : maxLen = 9223372036854775807 := rfl
  have hla := zL_len (z := zClue) a
  have hlb := zL_len (z := zClue) b
  refine VRun.seq ?_
  refine VRun.region ?_
  refine VRunO.free VWant.always (OF.assign (VEv.bool false)) ?_
  refine VRunO.nil ?_
  refine vthn.n ?_
  refine VRun.seq ?_
  refine VRun.seq ?_
  refine VRun.region ?_
  refine VRunO.free VWant.always (OF.move (VEv.tmp (t := (T.sl false 2 (a.map (eClue false)))) rfl)) ?_
  refine VRunO.look VWant.always (B.lenR (m := a.length) (VEv.tmp (t := (T.sl false 2 (a.map (eClue false)))) rfl) Try.underlying60 (List.length_map ..)) ?_
  refine VRunO.free VWant.always (OF.move (VEv.tmp (t := (T.sl false 2 (b.map (eClue false)))) rfl)) ?_
  refine VRunO.look VWant.always (B.lenR (m := b.length) (VEv.tmp (t := (T.sl false 2 (b.map (eClue false)))) rfl) Try.underlying60 (List.length_map ..)) ?_
  refine VRunO.free VWant.always (B.neq (c := (!(decide (a.length = b.length)))) (VEv.tmp (t := (T.int .i64 ((a.length : Nat) : Int))) rfl) (VEv.tmp (t := (T.int .i64 ((b.length : Nat) : Int))) rfl) (by first | exact Nat.le_trans (zL_at hx1) ha | exact Nat.le_trans (zL_at hx2) hb | (exact decNn (by omega)))) ?_
  refine VRunO.nil ?_
  refine vthn.n ?_
  refine VRun.cond (VEv.tmp (t := (T.bool (!(decide (a.length = b.length))))) rfl) (fun hc0 => ?_) (fun hc0 => ?_)
  · have fhc0 : ¬ (a.length = b.length) := ndT hc0
    refine VRun.seq ?_
    refine VRun.region ?_
    refine VRunO.free VWant.always (OF.assign (VEv.bool false)) ?_
    refine VRunO.nil ?_
    refine vthn.n ?_
    refine VRun.ret ?_
    refine vthn.r ?_
    refine vfin.eq (r' := (T.bool false)) ?_ (vfin.r (VRes.tmp (t := (T.bool false)) rfl VRes.nil) (Give.bool _))
    show (T.bool false) = (T.bool (decide (a = b)))
    refine congrArg T.bool ?_
    symm; rw [decide_eq_false_iff_not]; rintro rfl; exact fhc0 rfl
  · have fhc0 : a.length = b.length := ndF hc0
    refine VRun.skip ?_
    refine vthn.n ?_
    refine VRun.seq ?_
    refine VRun.seq ?_
    refine VRun.region ?_
    refine VRunO.free VWant.always (OF.assign (VEv.int .i64 0)) ?_
    refine VRunO.nil ?_
    refine vthn.n ?_
    refine VRun.block ?_
    refine VRun.loop (A := Nat) (fun s_ => [(0, (T.sl false 2 (a.map (eClue false)))), (1, (T.sl false 2 (b.map (eClue false)))), (5, (T.int .i64 ((s_ : Nat) : Int)))]) (fun s_ => mkO []) 0 (fun s_ => s_ ≤ a.length ∧ ∀ j, j < s_ → a[j]? = b[j]?) (fun s_ => a.length - s_) (0 : Nat) ?_ (Wk.mk (fun k => k) ?_ ?_ ?_) ?_
    · first | trivial | (simp; done) | omega | (constructor <;> simp)
    · exact (ball_cons ⟨rfl, rfl⟩ (ball_cons ⟨rfl, rfl⟩ (ball_cons ⟨(congrArg (T.int .i64) (show 0 = ((0 : Nat) : Int) from (by first | rfl | omega | (simp; done) | (push_cast; omega)))), rfl⟩ (ball_nil))))
    · exact (ball_nil)
    · show List.Nodup ([] : List Nat)
      decide
    · rintro i hI
      have hI' : i ≤ a.length ∧ ∀ j, j < i → a[j]? = b[j]? := hI
      clear hI
      show VRun _ _ _ [(0, (T.sl false 2 (a.map (eClue false)))), (1, (T.sl false 2 (b.map (eClue false)))), (5, (T.int .i64 ((i : Nat) : Int)))] (mkO []) 0 _
      refine VRun.seq ?_
      refine VRun.seq ?_
      refine VRun.region ?_
      refine VRunO.free VWant.always (OF.move (VEv.tmp (t := (T.int .i64 ((i : Nat) : Int))) rfl)) ?_
      refine VRunO.free VWant.always (OF.move (VEv.tmp (t := (T.sl false 2 (a.map (eClue false)))) rfl)) ?_
      refine VRunO.look VWant.always (B.lenR (m := a.length) (VEv.tmp (t := (T.sl false 2 (a.map (eClue false)))) rfl) Try.underlying60 (List.length_map ..)) ?_
      refine VRunO.free VWant.always (B.lss (c := (decide (i < a.length))) (VEv.tmp (t := (T.int .i64 ((i : Nat) : Int))) rfl) (VEv.tmp (t := (T.int .i64 ((a.length : Nat) : Int))) rfl) (by first | exact Nat.le_trans (zL_at hx1) ha | exact Nat.le_trans (zL_at hx2) hb | (exact decN (by omega)))) ?_
      refine VRunO.nil ?_
      refine vthn.n ?_
      refine VRun.cond (VEv.tmp (t := (T.bool (decide (i < a.length)))) rfl) (fun hc1 => ?_) (fun hc1 => ?_)
      · have fhc1 : i < a.length := of_decide_eq_true hc1
        refine VRun.skip ?_
        refine vthn.n ?_
        refine VRun.seq ?_
        refine VRun.block ?_
        refine VRun.seq ?_
        refine VRun.draw (B := [[], [], [1, 0], [0, 1, 2], [], [], [5, 4], [4, 5, 6], [6, 5, 4, 7, 2, 1, 0, 3], [3, 0, 1, 2, 7, 4, 5, 6, 8]]) (by kernel_rfl) (by kernel_rfl) ?_
        refine VRunD.free rfl VWant.always rfl (OF.move (VEv.tmp (t := (T.sl false 2 (a.map (eClue false)))) rfl)) ?_
        refine VRunD.free rfl VWant.always rfl (OF.move (VEv.tmp (t := (T.int .i64 ((i : Nat) : Int))) rfl)) ?_
        obtain ⟨x1, hx1⟩ : ∃ x, a[i]? = some x := ⟨_, List.getElem?_eq_getElem (by first | exact Nat.le_trans (zL_at hx1) ha | exact Nat.le_trans (zL_at hx2) hb | omega | (simp only [List.length_map]; omega) | (simp only [List.length_map, List.length_append, List.length_cons, List.length_nil, List.length_replicate, List.length_set, List.length_drop, List.length_take, lim] at *; omega))⟩
        refine VRunD.free rfl VWant.always rfl (OF.indexAddrR (row := (eClue false x1)) (i := i) (VEv.tmp (t := (T.sl false 2 (a.map (eClue false)))) rfl) (VEv.tmp (t := (T.int .i64 ((i : Nat) : Int))) rfl) rfl (map_at _ hx1) Try.underlying60 sz115 if115) ?_
        refine VRunD.look rfl VWant.always rfl (OL.loadRn (us := (eClue false x1)) (VEv.tmp (t := (T.rp [(T.int .i64 x1.Sense), (T.sl false 4 (x1.Play.map (eStep false)))])) rfl) st115 sz115 (Nat.le_of_ble_eq_true rfl) rfl) ?_
        refine VRunD.free rfl VWant.always rfl (OF.move (VEv.tmp (t := (T.sl false 2 (b.map (eClue false)))) rfl)) ?_
        refine VRunD.free rfl VWant.always rfl (OF.move (VEv.tmp (t := (T.int .i64 ((i : Nat) : Int))) rfl)) ?_
        obtain ⟨x2, hx2⟩ : ∃ x, b[i]? = some x := ⟨_, List.getElem?_eq_getElem (by first | exact Nat.le_trans (zL_at hx1) ha | exact Nat.le_trans (zL_at hx2) hb | omega | (simp only [List.length_map]; omega) | (simp only [List.length_map, List.length_append, List.length_cons, List.length_nil, List.length_replicate, List.length_set, List.length_drop, List.length_take, lim] at *; omega))⟩
        refine VRunD.free rfl VWant.always rfl (OF.indexAddrR (row := (eClue false x2)) (i := i) (VEv.tmp (t := (T.sl false 2 (b.map (eClue false)))) rfl) (VEv.tmp (t := (T.int .i64 ((i : Nat) : Int))) rfl) rfl (map_at _ hx2) Try.underlying60 sz115 if115) ?_
        refine VRunD.look rfl VWant.always rfl (OL.loadRn (us := (eClue false x2)) (VEv.tmp (t := (T.rp [(T.int .i64 x2.Sense), (T.sl false 4 (x2.Play.map (eStep false)))])) rfl) st115 sz115 (Nat.le_of_ble_eq_true rfl) rfl) ?_
        refine VRunD.quiet (bi := [6, 5, 4, 7, 2, 1, 0, 3]) rfl VWant.always rfl rfl rfl (ball_nil) (OC.callF (us := [(T.agg (eClue false x1)), (T.agg (eClue false x2))]) (r := (T.bool (decide (x1 = x2)))) (r' := (T.bool (decide (x1 = x2)))) (objs := []) rfl (VEvs.cons (VEv.tmp (t := (T.agg (eClue false x1))) rfl) (VEvs.cons (VEv.tmp (t := (T.agg (eClue false x2))) rfl) VEvs.nil)) (LendL.cons (Lend.agg (LendL.cons (Lend.pl rfl) (LendL.cons (Lend.pl rfl) (LendL.nil)))) (LendL.cons (Lend.agg (LendL.cons (Lend.pl rfl) (LendL.cons (Lend.pl rfl) (LendL.nil)))) (LendL.nil))) (W_laws_eqClue (n + 0) x1 x2 (by first | exact Nat.le_trans (zL_at hx1) ha | exact Nat.le_trans (zL_at hx2) hb | assumption | omega | (simp only [List.length_map]; omega) | (simp only [List.length_map, List.length_append, List.length_cons, List.length_nil, List.length_replicate, List.length_set, List.length_drop, List.length_take, lim] at *; omega)) (by first | exact Nat.le_trans (zL_at hx1) ha | exact Nat.le_trans (zL_at hx2) hb | assumption | omega | (simp only [List.length_map]; omega) | (simp only [List.length_map, List.length_append, List.length_cons, List.length_nil, List.length_replicate, List.length_set, List.length_drop, List.length_take, lim] at *; omega))) rfl) ?_
        refine VRunD.free rfl VWant.always rfl (B.not (c := (!(decide (x1 = x2)))) (VEv.tmp (t := (T.bool (decide (x1 = x2)))) rfl) rfl) ?_
        refine VRunD.nil ?_
        refine vthn.n ?_
        refine VRun.cond (VEv.tmp (t := (T.bool (!(decide (x1 = x2))))) rfl) (fun hc2 => ?_) (fun hc2 => ?_)
        · have fhc2 : ¬ (x1 = x2) := ndT hc2
          refine VRun.seq ?_
          refine VRun.region ?_
          refine VRunO.free VWant.always (OF.assign (VEv.bool false)) ?_
          refine VRunO.nil ?_
          refine vthn.n ?_
          refine VRun.ret ?_
          refine vinB.r ?_
          refine vthn.r ?_
          refine vthn.r ?_
          refine vinB.r ?_
          refine vthn.r ?_
          refine vfin.eq (r' := (T.bool false)) ?_ (vfin.r (VRes.tmp (t := (T.bool false)) rfl VRes.nil) (Give.bool _))
          show (T.bool false) = (T.bool (decide (a = b)))
          refine congrArg T.bool ?_
          symm; rw [decide_eq_false_iff_not]; exact agree_not hx1 hx2 fhc2
        · have fhc2 : x1 = x2 := ndF hc2
          refine VRun.skip ?_
          refine vinB.n ?_
          refine vthn.n ?_
          refine VRun.region ?_
          refine VRunO.free VWant.always (OF.move (VEv.tmp (t := (T.int .i64 ((i : Nat) : Int))) rfl)) ?_
          refine VRunO.free VWant.always (B.add (n := (((i + 1) : Nat) : Int)) (VEv.tmp (t := (T.int .i64 ((i : Nat) : Int))) rfl) (VEv.int .i64 1) (by first | exact Nat.le_trans (zL_at hx1) ha | exact Nat.le_trans (zL_at hx2) hb | rfl | (rw [wrap64 (by omega)]; done) | (rw [wrap64 (by omega)]; omega) | (rw [wrap64 (by omega)]; push_cast; omega) | omega)) ?_
          refine VRunO.free VWant.always (OF.assign (VEv.tmp (t := (T.int .i64 (((i + 1) : Nat) : Int))) rfl)) ?_
          refine VRunO.nil ?_
          refine vthn.n ?_
          refine ⟨(i + 1 : Nat), ?_, ?_, Wk.mk (fun k => k) ?_ ?_ ?_⟩
          · exact agree_next hI' hx1 hx2 fhc2
          · first | omega | (simp only []; omega) | (show _ < _; omega) | (simp; omega)
          · exact (ball_cons ⟨rfl, rfl⟩ (ball_cons ⟨rfl, rfl⟩ (ball_cons ⟨rfl, rfl⟩ (ball_nil))))
          · exact (ball_nil)
          · show List.Nodup ([] : List Nat)
            decide
      · have fhc1 : ¬ (i < a.length) := of_decide_eq_false hc1
        refine VRun.exit ?_
        refine vthn.e ?_
        refine vthn.e ?_
        refine vinB.e ?_
        refine vthn.n ?_
        refine VRun.seq ?_
        refine VRun.region ?_
        refine VRunO.free VWant.always (OF.assign (VEv.bool true)) ?_
        refine VRunO.nil ?_
        refine vthn.n ?_
        refine VRun.ret ?_
        refine vfin.eq (r' := (T.bool true)) ?_ (vfin.r (VRes.tmp (t := (T.bool true)) rfl VRes.nil) (Give.bool _))
        show (T.bool true) = (T.bool (decide (a = b)))
        refine congrArg T.bool ?_
        symm; rw [decide_eq_true_eq]; exact agree_all hI' fhc0 fhc1
theorem W_laws_eqPuzzle (n : Nat) (a : D.Puzzle) (b : D.Puzzle) (ha : zPuzzle a ≤ mx) (hb : zPuzzle b ≤ mx) : Pure (acall Try.prog (n + 5)) 108 [(T.agg (ePuzzle false a)), (T.agg (ePuzzle false b))] (T.bool (decide (a = b))) := by
  refine Pure.intro (rs := [ResultVar.tmp 4]) Try.func108 rfl rfl rfl (E0 := [(0, (T.agg (ePuzzle false a))), (1, (T.agg (ePuzzle false b)))]) rfl ?_
  have hlim : lim = 1099511627776 := rfl
  have hmx : mx = 1048576 := rfl
  have hmax : maxLen = 9223372036854775807 := rfl
  simp only [zPuzzle] at ha hb
  have hla_Clues := zL_len (z := zClue) a.Clues
  have hla_Seals := zL_len (z := zI) a.Seals
  have hlb_Clues := zL_len (z := zClue) b.Clues
  have hlb_Seals := zL_len (z := zI) b.Seals
  refine VRun.seq ?_
  refine VRun.region ?_
  refine VRunO.make VWant.always (B.box (ts := [(T.int .i64 a.Grid.Rows), (T.int .i64 a.Grid.Cols), (T.str a.Grid.Cells), (T.sl false 2 (a.Clues.map (eClue false))), (T.sl false 1 (a.Seals.map (eInt false))), (T.int .i64 a.Salt)]) (VEv.tmp (t := (T.agg (ePuzzle false a))) rfl) nofun rfl) ?_
  refine VRunO.make VWant.always (B.box (ts := [(T.int .i64 b.Grid.Rows), (T.int .i64 b.Grid.Cols), (T.str b.Grid.Cells), (T.sl false 2 (b.Clues.map (eClue false))), (T.sl false 1 (b.Seals.map (eInt false))), (T.int .i64 b.Salt)]) (VEv.tmp (t := (T.agg (ePuzzle false b))) rfl) nofun rfl) ?_
  refine VRunO.free VWant.always (OF.assign (VEv.bool false)) ?_
  refine VRunO.nil ?_
  refine vthn.n ?_
  refine VRun.seq ?_
  refine VRun.seq ?_
  refine VRun.region ?_
  refine VRunO.free VWant.always (OF.fieldAddrO (VEv.tmp (t := (T.op 0 0)) rfl) fa80_0) ?_
  refine VRunO.look VWant.always (OL.loadOn (us := (eGrid false a.Grid)) (VEv.tmp (t := (T.op 0 0)) rfl) rfl st59 sz59 (Nat.le_of_ble_eq_true rfl) rfl) ?_
  refine VRunO.free VWant.always (OF.fieldAddrO (VEv.tmp (t := (T.op 1 0)) rfl) fa80_0) ?_
  refine VRunO.look VWant.always (OL.loadOn (us := (eGrid false b.Grid)) (VEv.tmp (t := (T.op 1 0)) rfl) rfl st59 sz59 (Nat.le_of_ble_eq_true rfl) rfl) ?_
  refine VRunO.chain VWant.always (OC.callF (us := [(T.agg (eGrid false a.Grid)), (T.agg (eGrid false b.Grid))]) (r := (T.bool (decide (a.Grid = b.Grid)))) (r' := (T.bool (decide (a.Grid = b.Grid)))) (objs := []) rfl (VEvs.cons (VEv.tmp (t := (T.agg (eGrid false a.Grid))) rfl) (VEvs.cons (VEv.tmp (t := (T.agg (eGrid false b.Grid))) rfl) VEvs.nil)) (LendL.cons (Lend.agg (LendL.cons (Lend.pl rfl) (LendL.cons (Lend.pl rfl) (LendL.cons (Lend.pl rfl) (LendL.nil))))) (LendL.cons (Lend.agg (LendL.cons (Lend.pl rfl) (LendL.cons (Lend.pl rfl) (LendL.cons (Lend.pl rfl) (LendL.nil))))) (LendL.nil))) (W_laws_eqGrid (n + 3) a.Grid b.Grid ) rfl) ?_
  refine VRunO.free VWant.always (B.not (c := (!(decide (a.Grid = b.Grid)))) (VEv.tmp (t := (T.bool (decide (a.Grid = b.Grid)))) rfl) rfl) ?_
  refine VRunO.nil ?_
  refine vthn.n ?_
  refine VRun.cond (VEv.tmp (t := (T.bool (!(decide (a.Grid = b.Grid))))) rfl) (fun hc0 => ?_) (fun hc0 => ?_)
  · have fhc0 : ¬ (a.Grid = b.Grid) := ndT hc0
    refine VRun.seq ?_
    refine VRun.region ?_
    refine VRunO.free VWant.always (OF.assign (VEv.bool false)) ?_
    refine VRunO.nil ?_
    refine vthn.n ?_
    refine VRun.ret ?_
    refine vthn.r ?_
    refine vfin.eq (r' := (T.bool false)) ?_ (vfin.r (VRes.tmp (t := (T.bool false)) rfl VRes.nil) (Give.bool _))
    show (T.bool false) = (T.bool (decide (a = b)))
    refine congrArg T.bool ?_
    obtain ⟨a0, a1, a2, a3⟩ := a
    obtain ⟨b0, b1, b2, b3⟩ := b
    simp_all
  · have fhc0 : a.Grid = b.Grid := ndF hc0
    refine VRun.skip ?_
    refine vthn.n ?_
    refine VRun.seq ?_
    refine VRun.seq ?_
    refine VRun.region ?_
    refine VRunO.free VWant.always (OF.fieldAddrO (VEv.tmp (t := (T.op 0 0)) rfl) fa80_1) ?_
    refine VRunO.look VWant.always (OL.loadO1 (t := (T.sl false 2 (a.Clues.map (eClue false)))) (VEv.tmp (t := (T.op 0 3)) rfl) rfl rfl st60) ?_
    refine VRunO.free VWant.always (OF.fieldAddrO (VEv.tmp (t := (T.op 1 0)) rfl) fa80_1) ?_
    refine VRunO.look VWant.always (OL.loadO1 (t := (T.sl false 2 (b.Clues.map (eClue false)))) (VEv.tmp (t := (T.op 1 3)) rfl) rfl rfl st60) ?_
    refine VRunO.chain VWant.always (OC.callF (us := [(T.sl false 2 (a.Clues.map (eClue false))), (T.sl false 2 (b.Clues.map (eClue false)))]) (r := (T.bool (decide (a.Clues = b.Clues)))) (r' := (T.bool (decide (a.Clues = b.Clues)))) (objs := []) rfl (VEvs.cons (VEv.tmp (t := (T.sl false 2 (a.Clues.map (eClue false)))) rfl) (VEvs.cons (VEv.tmp (t := (T.sl false 2 (b.Clues.map (eClue false)))) rfl) VEvs.nil)) (LendL.cons (Lend.pl rfl) (LendL.cons (Lend.pl rfl) (LendL.nil))) (W_laws_eqClueS (n + 0) a.Clues b.Clues (by first | assumption | omega | (simp only [List.length_map]; omega) | (simp only [List.length_map, List.length_append, List.length_cons, List.length_nil, List.length_replicate, List.length_set, List.length_drop, List.length_take, lim] at *; omega)) (by first | assumption | omega | (simp only [List.length_map]; omega) | (simp only [List.length_map, List.length_append, List.length_cons, List.length_nil, List.length_replicate, List.length_set, List.length_drop, List.length_take, lim] at *; omega))) rfl) ?_
    refine VRunO.free VWant.always (B.not (c := (!(decide (a.Clues = b.Clues)))) (VEv.tmp (t := (T.bool (decide (a.Clues = b.Clues)))) rfl) rfl) ?_
    refine VRunO.nil ?_
    refine vthn.n ?_
    refine VRun.cond (VEv.tmp (t := (T.bool (!(decide (a.Clues = b.Clues))))) rfl) (fun hc1 => ?_) (fun hc1 => ?_)
    · have fhc1 : ¬ (a.Clues = b.Clues) := ndT hc1
      refine VRun.seq ?_
      refine VRun.region ?_
      refine VRunO.free VWant.always (OF.assign (VEv.bool false)) ?_
      refine VRunO.nil ?_
      refine vthn.n ?_
      refine VRun.ret ?_
      refine vthn.r ?_
      refine vfin.eq (r' := (T.bool false)) ?_ (vfin.r (VRes.tmp (t := (T.bool false)) rfl VRes.nil) (Give.bool _))
      show (T.bool false) = (T.bool (decide (a = b)))
      refine congrArg T.bool ?_
      obtain ⟨a0, a1, a2, a3⟩ := a
      obtain ⟨b0, b1, b2, b3⟩ := b
      simp_all
    · have fhc1 : a.Clues = b.Clues := ndF hc1
      refine VRun.skip ?_
      refine vthn.n ?_
      refine VRun.seq ?_
      refine VRun.seq ?_
      refine VRun.region ?_
      refine VRunO.free VWant.always (OF.fieldAddrO (VEv.tmp (t := (T.op 0 0)) rfl) fa80_2) ?_
      refine VRunO.look VWant.always (OL.loadO1 (t := (T.sl false 1 (a.Seals.map (eInt false)))) (VEv.tmp (t := (T.op 0 4)) rfl) rfl rfl st72) ?_
      refine VRunO.free VWant.always (OF.fieldAddrO (VEv.tmp (t := (T.op 1 0)) rfl) fa80_2) ?_
      refine VRunO.look VWant.always (OL.loadO1 (t := (T.sl false 1 (b.Seals.map (eInt false)))) (VEv.tmp (t := (T.op 1 4)) rfl) rfl rfl st72) ?_
      refine VRunO.chain VWant.always (OC.callF (us := [(T.sl false 1 (a.Seals.map (eInt false))), (T.sl false 1 (b.Seals.map (eInt false)))]) (r := (T.bool (decide (a.Seals = b.Seals)))) (r' := (T.bool (decide (a.Seals = b.Seals)))) (objs := []) rfl (VEvs.cons (VEv.tmp (t := (T.sl false 1 (a.Seals.map (eInt false)))) rfl) (VEvs.cons (VEv.tmp (t := (T.sl false 1 (b.Seals.map (eInt false)))) rfl) VEvs.nil)) (LendL.cons (Lend.pl rfl) (LendL.cons (Lend.pl rfl) (LendL.nil))) (W_laws_eqIntS (n + 3) a.Seals b.Seals (by first | assumption | omega | (simp only [List.length_map]; omega) | (simp only [List.length_map, List.length_append, List.length_cons, List.length_nil, List.length_replicate, List.length_set, List.length_drop, List.length_take, lim] at *; omega)) (by first | assumption | omega | (simp only [List.length_map]; omega) | (simp only [List.length_map, List.length_append, List.length_cons, List.length_nil, List.length_replicate, List.length_set, List.length_drop, List.length_take, lim] at *; omega))) rfl) ?_
      refine VRunO.free VWant.always (B.not (c := (!(decide (a.Seals = b.Seals)))) (VEv.tmp (t := (T.bool (decide (a.Seals = b.Seals)))) rfl) rfl) ?_
      refine VRunO.nil ?_
      refine vthn.n ?_
      refine VRun.cond (VEv.tmp (t := (T.bool (!(decide (a.Seals = b.Seals))))) rfl) (fun hc2 => ?_) (fun hc2 => ?_)
      · have fhc2 : ¬ (a.Seals = b.Seals) := ndT hc2
        refine VRun.seq ?_
        refine VRun.region ?_
        refine VRunO.free VWant.always (OF.assign (VEv.bool false)) ?_
        refine VRunO.nil ?_
        refine vthn.n ?_
        refine VRun.ret ?_
        refine vthn.r ?_
        refine vfin.eq (r' := (T.bool false)) ?_ (vfin.r (VRes.tmp (t := (T.bool false)) rfl VRes.nil) (Give.bool _))
        show (T.bool false) = (T.bool (decide (a = b)))
        refine congrArg T.bool ?_
        obtain ⟨a0, a1, a2, a3⟩ := a
        obtain ⟨b0, b1, b2, b3⟩ := b
        simp_all
      · have fhc2 : a.Seals = b.Seals := ndF hc2
        refine VRun.skip ?_
        refine vthn.n ?_
        refine VRun.seq ?_
        refine VRun.seq ?_
        refine VRun.region ?_
        refine VRunO.free VWant.always (OF.fieldAddrO (VEv.tmp (t := (T.op 0 0)) rfl) fa80_3) ?_
        refine VRunO.look VWant.always (OL.loadO1 (t := (T.int .i64 a.Salt)) (VEv.tmp (t := (T.op 0 5)) rfl) rfl rfl st3) ?_
        refine VRunO.free VWant.always (OF.fieldAddrO (VEv.tmp (t := (T.op 1 0)) rfl) fa80_3) ?_
        refine VRunO.look VWant.always (OL.loadO1 (t := (T.int .i64 b.Salt)) (VEv.tmp (t := (T.op 1 5)) rfl) rfl rfl st3) ?_
        refine VRunO.free VWant.always (B.neq (c := (!(decide (a.Salt = b.Salt)))) (VEv.tmp (t := (T.int .i64 a.Salt)) rfl) (VEv.tmp (t := (T.int .i64 b.Salt)) rfl) rfl) ?_
        refine VRunO.nil ?_
        refine vthn.n ?_
        refine VRun.cond (VEv.tmp (t := (T.bool (!(decide (a.Salt = b.Salt))))) rfl) (fun hc3 => ?_) (fun hc3 => ?_)
        · have fhc3 : ¬ (a.Salt = b.Salt) := ndT hc3
          refine VRun.seq ?_
          refine VRun.region ?_
          refine VRunO.free VWant.always (OF.assign (VEv.bool false)) ?_
          refine VRunO.nil ?_
          refine vthn.n ?_
          refine VRun.ret ?_
          refine vthn.r ?_
          refine vfin.eq (r' := (T.bool false)) ?_ (vfin.r (VRes.tmp (t := (T.bool false)) rfl VRes.nil) (Give.bool _))
          show (T.bool false) = (T.bool (decide (a = b)))
          refine congrArg T.bool ?_
          obtain ⟨a0, a1, a2, a3⟩ := a
          obtain ⟨b0, b1, b2, b3⟩ := b
          simp_all
        · have fhc3 : a.Salt = b.Salt := ndF hc3
          refine VRun.skip ?_
          refine vthn.n ?_
          refine VRun.seq ?_
          refine VRun.region ?_
          refine VRunO.free VWant.always (OF.assign (VEv.bool true)) ?_
          refine VRunO.nil ?_
          refine vthn.n ?_
          refine VRun.ret ?_
          refine vfin.eq (r' := (T.bool true)) ?_ (vfin.r (VRes.tmp (t := (T.bool true)) rfl VRes.nil) (Give.bool _))
          show (T.bool true) = (T.bool (decide (a = b)))
          refine congrArg T.bool ?_
          obtain ⟨a0, a1, a2, a3⟩ := a
          obtain ⟨b0, b1, b2, b3⟩ := b
          simp_all
theorem W_laws_eqIssue (n : Nat) (a : D.Issue) (b : D.Issue) (ha : zIssue a ≤ mx) (hb : zIssue b ≤ mx) : Pure (acall Try.prog (n + 6)) 53 [(T.agg (eIssue false a)), (T.agg (eIssue false b))] (T.bool (decide (a = b))) := by
  refine Pure.intro (rs := [ResultVar.tmp 4]) Try.func53 rfl rfl rfl (E0 := [(0, (T.agg (eIssue false a))), (1, (T.agg (eIssue false b)))]) rfl ?_
  have hlim : lim = 1099511627776 := rfl
  have hmx : mx = 1048576 := rfl
  have hmax : maxLen = 9223372036854775807 := rfl
  simp only [zIssue] at ha hb
  refine VRun.seq ?_
  refine VRun.region ?_
  refine VRunO.make VWant.always (B.box (ts := [(T.int .i64 a.Number), (T.int .i64 a.Puzzle.Grid.Rows), (T.int .i64 a.Puzzle.Grid.Cols), (T.str a.Puzzle.Grid.Cells), (T.sl false 2 (a.Puzzle.Clues.map (eClue false))), (T.sl false 1 (a.Puzzle.Seals.map (eInt false))), (T.int .i64 a.Puzzle.Salt), (T.str a.Fill), (T.int .i64 a.Open), (T.int .i64 a.Close)]) (VEv.tmp (t := (T.agg (eIssue false a))) rfl) nofun rfl) ?_
  refine VRunO.make VWant.always (B.box (ts := [(T.int .i64 b.Number), (T.int .i64 b.Puzzle.Grid.Rows), (T.int .i64 b.Puzzle.Grid.Cols), (T.str b.Puzzle.Grid.Cells), (T.sl false 2 (b.Puzzle.Clues.map (eClue false))), (T.sl false 1 (b.Puzzle.Seals.map (eInt false))), (T.int .i64 b.Puzzle.Salt), (T.str b.Fill), (T.int .i64 b.Open), (T.int .i64 b.Close)]) (VEv.tmp (t := (T.agg (eIssue false b))) rfl) nofun rfl) ?_
  refine VRunO.free VWant.always (OF.assign (VEv.bool false)) ?_
  refine VRunO.nil ?_
  refine vthn.n ?_
  refine VRun.seq ?_
  refine VRun.seq ?_
  refine VRun.region ?_
  refine VRunO.free VWant.always (OF.fieldAddrO (VEv.tmp (t := (T.op 0 0)) rfl) fa82_0) ?_
  refine VRunO.look VWant.always (OL.loadO1 (t := (T.int .i64 a.Number)) (VEv.tmp (t := (T.op 0 0)) rfl) rfl rfl st3) ?_
  refine VRunO.free VWant.always (OF.fieldAddrO (VEv.tmp (t := (T.op 1 0)) rfl) fa82_0) ?_
  refine VRunO.look VWant.always (OL.loadO1 (t := (T.int .i64 b.Number)) (VEv.tmp (t := (T.op 1 0)) rfl) rfl rfl st3) ?_
  refine VRunO.free VWant.always (B.neq (c := (!(decide (a.Number = b.Number)))) (VEv.tmp (t := (T.int .i64 a.Number)) rfl) (VEv.tmp (t := (T.int .i64 b.Number)) rfl) rfl) ?_
  refine VRunO.nil ?_
  refine vthn.n ?_
  refine VRun.cond (VEv.tmp (t := (T.bool (!(decide (a.Number = b.Number))))) rfl) (fun hc0 => ?_) (fun hc0 => ?_)
  · have fhc0 : ¬ (a.Number = b.Number) := ndT hc0
    refine VRun.seq ?_
    refine VRun.region ?_
    refine VRunO.free VWant.always (OF.assign (VEv.bool false)) ?_
    refine VRunO.nil ?_
    refine vthn.n ?_
    refine VRun.ret ?_
    refine vthn.r ?_
    refine vfin.eq (r' := (T.bool false)) ?_ (vfin.r (VRes.tmp (t := (T.bool false)) rfl VRes.nil) (Give.bool _))
    show (T.bool false) = (T.bool (decide (a = b)))
    refine congrArg T.bool ?_
    obtain ⟨a0, a1, a2, a3, a4⟩ := a
    obtain ⟨b0, b1, b2, b3, b4⟩ := b
    simp_all
  · have fhc0 : a.Number = b.Number := ndF hc0
    refine VRun.skip ?_
    refine vthn.n ?_
    refine VRun.seq ?_
    refine VRun.seq ?_
    refine VRun.region ?_
    refine VRunO.free VWant.always (OF.fieldAddrO (VEv.tmp (t := (T.op 0 0)) rfl) fa82_1) ?_
    refine VRunO.look VWant.always (OL.loadOn (us := (ePuzzle false a.Puzzle)) (VEv.tmp (t := (T.op 0 1)) rfl) rfl st80 sz80 (Nat.le_of_ble_eq_true rfl) rfl) ?_
    refine VRunO.free VWant.always (OF.fieldAddrO (VEv.tmp (t := (T.op 1 0)) rfl) fa82_1) ?_
    refine VRunO.look VWant.always (OL.loadOn (us := (ePuzzle false b.Puzzle)) (VEv.tmp (t := (T.op 1 1)) rfl) rfl st80 sz80 (Nat.le_of_ble_eq_true rfl) rfl) ?_
    refine VRunO.chain VWant.always (OC.callF (us := [(T.agg (ePuzzle false a.Puzzle)), (T.agg (ePuzzle false b.Puzzle))]) (r := (T.bool (decide (a.Puzzle = b.Puzzle)))) (r' := (T.bool (decide (a.Puzzle = b.Puzzle)))) (objs := []) rfl (VEvs.cons (VEv.tmp (t := (T.agg (ePuzzle false a.Puzzle))) rfl) (VEvs.cons (VEv.tmp (t := (T.agg (ePuzzle false b.Puzzle))) rfl) VEvs.nil)) (LendL.cons (Lend.agg (LendL.cons (Lend.pl rfl) (LendL.cons (Lend.pl rfl) (LendL.cons (Lend.pl rfl) (LendL.cons (Lend.pl rfl) (LendL.cons (Lend.pl rfl) (LendL.cons (Lend.pl rfl) (LendL.nil)))))))) (LendL.cons (Lend.agg (LendL.cons (Lend.pl rfl) (LendL.cons (Lend.pl rfl) (LendL.cons (Lend.pl rfl) (LendL.cons (Lend.pl rfl) (LendL.cons (Lend.pl rfl) (LendL.cons (Lend.pl rfl) (LendL.nil)))))))) (LendL.nil))) (W_laws_eqPuzzle (n + 0) a.Puzzle b.Puzzle (by first | assumption | omega | (simp only [List.length_map]; omega) | (simp only [List.length_map, List.length_append, List.length_cons, List.length_nil, List.length_replicate, List.length_set, List.length_drop, List.length_take, lim] at *; omega)) (by first | assumption | omega | (simp only [List.length_map]; omega) | (simp only [List.length_map, List.length_append, List.length_cons, List.length_nil, List.length_replicate, List.length_set, List.length_drop, List.length_take, lim] at *; omega))) rfl) ?_
    refine VRunO.free VWant.always (B.not (c := (!(decide (a.Puzzle = b.Puzzle)))) (VEv.tmp (t := (T.bool (decide (a.Puzzle = b.Puzzle)))) rfl) rfl) ?_
    refine VRunO.nil ?_
    refine vthn.n ?_
    refine VRun.cond (VEv.tmp (t := (T.bool (!(decide (a.Puzzle = b.Puzzle))))) rfl) (fun hc1 => ?_) (fun hc1 => ?_)
    · have fhc1 : ¬ (a.Puzzle = b.Puzzle) := ndT hc1
      refine VRun.seq ?_
      refine VRun.region ?_
      refine VRunO.free VWant.always (OF.assign (VEv.bool false)) ?_
      refine VRunO.nil ?_
      refine vthn.n ?_
      refine VRun.ret ?_
      refine vthn.r ?_
      refine vfin.eq (r' := (T.bool false)) ?_ (vfin.r (VRes.tmp (t := (T.bool false)) rfl VRes.nil) (Give.bool _))
      show (T.bool false) = (T.bool (decide (a = b)))
      refine congrArg T.bool ?_
      obtain ⟨a0, a1, a2, a3, a4⟩ := a
      obtain ⟨b0, b1, b2, b3, b4⟩ := b
      simp_all
    · have fhc1 : a.Puzzle = b.Puzzle := ndF hc1
      refine VRun.skip ?_
      refine vthn.n ?_
      refine VRun.seq ?_
      refine VRun.seq ?_
      refine VRun.region ?_
      refine VRunO.free VWant.always (OF.fieldAddrO (VEv.tmp (t := (T.op 0 0)) rfl) fa82_2) ?_
      refine VRunO.look VWant.always (OL.loadO1 (t := (T.str a.Fill)) (VEv.tmp (t := (T.op 0 7)) rfl) rfl rfl st9) ?_
      refine VRunO.free VWant.always (OF.fieldAddrO (VEv.tmp (t := (T.op 1 0)) rfl) fa82_2) ?_
      refine VRunO.look VWant.always (OL.loadO1 (t := (T.str b.Fill)) (VEv.tmp (t := (T.op 1 7)) rfl) rfl rfl st9) ?_
      refine VRunO.free VWant.always (B.sneq (c := (!(decide (a.Fill = b.Fill)))) (VEv.tmp (t := (T.str a.Fill)) rfl) (VEv.tmp (t := (T.str b.Fill)) rfl) rfl) ?_
      refine VRunO.nil ?_
      refine vthn.n ?_
      refine VRun.cond (VEv.tmp (t := (T.bool (!(decide (a.Fill = b.Fill))))) rfl) (fun hc2 => ?_) (fun hc2 => ?_)
      · have fhc2 : ¬ (a.Fill = b.Fill) := ndT hc2
        refine VRun.seq ?_
        refine VRun.region ?_
        refine VRunO.free VWant.always (OF.assign (VEv.bool false)) ?_
        refine VRunO.nil ?_
        refine vthn.n ?_
        refine VRun.ret ?_
        refine vthn.r ?_
        refine vfin.eq (r' := (T.bool false)) ?_ (vfin.r (VRes.tmp (t := (T.bool false)) rfl VRes.nil) (Give.bool _))
        show (T.bool false) = (T.bool (decide (a = b)))
        refine congrArg T.bool ?_
        obtain ⟨a0, a1, a2, a3, a4⟩ := a
        obtain ⟨b0, b1, b2, b3, b4⟩ := b
        simp_all
      · have fhc2 : a.Fill = b.Fill := ndF hc2
        refine VRun.skip ?_
        refine vthn.n ?_
        refine VRun.seq ?_
        refine VRun.seq ?_
        refine VRun.region ?_
        refine VRunO.free VWant.always (OF.fieldAddrO (VEv.tmp (t := (T.op 0 0)) rfl) fa82_3) ?_
        refine VRunO.look VWant.always (OL.loadO1 (t := (T.int .i64 a.Open)) (VEv.tmp (t := (T.op 0 8)) rfl) rfl rfl st3) ?_
        refine VRunO.free VWant.always (OF.fieldAddrO (VEv.tmp (t := (T.op 1 0)) rfl) fa82_3) ?_
        refine VRunO.look VWant.always (OL.loadO1 (t := (T.int .i64 b.Open)) (VEv.tmp (t := (T.op 1 8)) rfl) rfl rfl st3) ?_
        refine VRunO.free VWant.always (B.neq (c := (!(decide (a.Open = b.Open)))) (VEv.tmp (t := (T.int .i64 a.Open)) rfl) (VEv.tmp (t := (T.int .i64 b.Open)) rfl) rfl) ?_
        refine VRunO.nil ?_
        refine vthn.n ?_
        refine VRun.cond (VEv.tmp (t := (T.bool (!(decide (a.Open = b.Open))))) rfl) (fun hc3 => ?_) (fun hc3 => ?_)
        · have fhc3 : ¬ (a.Open = b.Open) := ndT hc3
          refine VRun.seq ?_
          refine VRun.region ?_
          refine VRunO.free VWant.always (OF.assign (VEv.bool false)) ?_
          refine VRunO.nil ?_
          refine vthn.n ?_
          refine VRun.ret ?_
          refine vthn.r ?_
          refine vfin.eq (r' := (T.bool false)) ?_ (vfin.r (VRes.tmp (t := (T.bool false)) rfl VRes.nil) (Give.bool _))
          show (T.bool false) = (T.bool (decide (a = b)))
          refine congrArg T.bool ?_
          obtain ⟨a0, a1, a2, a3, a4⟩ := a
          obtain ⟨b0, b1, b2, b3, b4⟩ := b
          simp_all
        · have fhc3 : a.Open = b.Open := ndF hc3
          refine VRun.skip ?_
          refine vthn.n ?_
          refine VRun.seq ?_
          refine VRun.seq ?_
          refine VRun.region ?_
          refine VRunO.free VWant.always (OF.fieldAddrO (VEv.tmp (t := (T.op 0 0)) rfl) fa82_4) ?_
          refine VRunO.look VWant.always (OL.loadO1 (t := (T.int .i64 a.Close)) (VEv.tmp (t := (T.op 0 9)) rfl) rfl rfl st3) ?_
          refine VRunO.free VWant.always (OF.fieldAddrO (VEv.tmp (t := (T.op 1 0)) rfl) fa82_4) ?_
          refine VRunO.look VWant.always (OL.loadO1 (t := (T.int .i64 b.Close)) (VEv.tmp (t := (T.op 1 9)) rfl) rfl rfl st3) ?_
          refine VRunO.free VWant.always (B.neq (c := (!(decide (a.Close = b.Close)))) (VEv.tmp (t := (T.int .i64 a.Close)) rfl) (VEv.tmp (t := (T.int .i64 b.Close)) rfl) rfl) ?_
          refine VRunO.nil ?_
          refine vthn.n ?_
          refine VRun.cond (VEv.tmp (t := (T.bool (!(decide (a.Close = b.Close))))) rfl) (fun hc4 => ?_) (fun hc4 => ?_)
          · have fhc4 : ¬ (a.Close = b.Close) := ndT hc4
            refine VRun.seq ?_
            refine VRun.region ?_
            refine VRunO.free VWant.always (OF.assign (VEv.bool false)) ?_
            refine VRunO.nil ?_
            refine vthn.n ?_
            refine VRun.ret ?_
            refine vthn.r ?_
            refine vfin.eq (r' := (T.bool false)) ?_ (vfin.r (VRes.tmp (t := (T.bool false)) rfl VRes.nil) (Give.bool _))
            show (T.bool false) = (T.bool (decide (a = b)))
            refine congrArg T.bool ?_
            obtain ⟨a0, a1, a2, a3, a4⟩ := a
            obtain ⟨b0, b1, b2, b3, b4⟩ := b
            simp_all
          · have fhc4 : a.Close = b.Close := ndF hc4
            refine VRun.skip ?_
            refine vthn.n ?_
            refine VRun.seq ?_
            refine VRun.region ?_
            refine VRunO.free VWant.always (OF.assign (VEv.bool true)) ?_
            refine VRunO.nil ?_
            refine vthn.n ?_
            refine VRun.ret ?_
            refine vfin.eq (r' := (T.bool true)) ?_ (vfin.r (VRes.tmp (t := (T.bool true)) rfl VRes.nil) (Give.bool _))
            show (T.bool true) = (T.bool (decide (a = b)))
            refine congrArg T.bool ?_
            obtain ⟨a0, a1, a2, a3, a4⟩ := a
            obtain ⟨b0, b1, b2, b3, b4⟩ := b
            simp_all
end Go.Proofs.Ythdnjihmjdbdkaa.AE
