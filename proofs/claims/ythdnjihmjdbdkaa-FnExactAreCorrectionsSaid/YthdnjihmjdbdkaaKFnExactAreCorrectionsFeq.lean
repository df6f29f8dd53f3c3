/- Walks of the program's functions over trees. Conditions: as each theorem states. -/
import Derived.Test.YthdnjihmjdbdkaaKFnExactAreCorrectionsFto
namespace Go.Proofs.Ythdnjihmjdbdkaa.AE
open Go Go.RowKit
set_option linter.unusedVariables false
set_option linter.unusedSimpArgs false
set_option maxRecDepth 20000
set_option maxHeartbeats 2000000

theorem W_laws_eqStep (n : Nat) (a : D.Step) (b : D.Step)  : Pure (acall Try.prog (n + 1)) 163 [(T.agg (eStep false a)), (T.agg (eStep false b))] (T.bool (decide (a = b))) := by
  refine Pure.intro (rs := [ResultVar.tmp 4]) Try.func163 rfl rfl rfl (E0 := [(0, (T.agg (eStep false a))), (1, (T.agg (eStep false b)))]) rfl ?_
  have hlim : lim = 1099511627776 := rfl
  have hmx : mx = 1048576 := rfl
  have hmax : maxLen = 9223372036854775807 := rfl
  refine VRun.seq ?_
  refine VRun.region ?_
  refine VRunO.make VWant.always (B.box (ts := [(T.int .i64 a.Kind), (T.str a.Word), (T.int .i64 a.A), (T.int .i64 a.B)]) (VEv.tmp (t := (T.agg (eStep false a))) rfl) nofun rfl) ?_
  refine VRunO.make VWant.always (B.box (ts := [(T.int .i64 b.Kind), (T.str b.Word), (T.int .i64 b.A), (T.int .i64 b.B)]) (VEv.tmp (t := (T.agg (eStep false b))) rfl) nofun rfl) ?_
  refine VRunO.free VWant.always (OF.assign (VEv.bool false)) ?_
  refine VRunO.nil ?_
  refine vthn.n ?_
  refine VRun.seq ?_
  refine VRun.seq ?_
  refine VRun.region ?_
  refine VRunO.free VWant.always (OF.fieldAddrO (VEv.tmp (t := (T.op 0 0)) rfl) fa166_0) ?_
  refine VRunO.look VWant.always (OL.loadO1 (t := (T.int .i64 a.Kind)) (VEv.tmp (t := (T.op 0 0)) rfl) rfl rfl st3) ?_
  refine VRunO.free VWant.always (OF.fieldAddrO (VEv.tmp (t := (T.op 1 0)) rfl) fa166_0) ?_
  refine VRunO.look VWant.always (OL.loadO1 (t := (T.int .i64 b.Kind)) (VEv.tmp (t := (T.op 1 0)) rfl) rfl rfl st3) ?_
  refine VRunO.free VWant.always (B.neq (c := (!(decide (a.Kind = b.Kind)))) (VEv.tmp (t := (T.int .i64 a.Kind)) rfl) (VEv.tmp (t := (T.int .i64 b.Kind)) rfl) rfl) ?_
  refine VRunO.nil ?_
  refine vthn.n ?_
  refine VRun.cond (VEv.tmp (t := (T.bool (!(decide (a.Kind = b.Kind))))) rfl) (fun hc0 => ?_) (fun hc0 => ?_)
  · have fhc0 : ¬ (a.Kind = b.Kind) := ndT hc0
    refine VRun.seq ?_
    refine VRun.region ?_
    refine VRunO.free VWant.always (OF.assign (VEv.bool false)) ?_
    refine VRunO.nil ?_
    refine vthn.n ?_
    refine VRun.ret ?_
    refine vthn.r ?_
    refine vfin.eq (r' := (T.bool false)) ?_ (vfin.r (VRes.tmp (t := (T.bool false)) rfl VRes.nil) (Give.bool _))
    show (T.bool false) = (T.bool (decide (a = b)))
    refine congrArg T.bool ?_
    obtain ⟨a0, a1, a2, a3⟩ := a
    obtain ⟨b0, b1, b2, b3⟩ := b
    simp_all
  · have fhc0 : a.Kind = b.Kind := ndF hc0
    refine VRun.skip ?_
    refine vthn.n ?_
    refine VRun.seq ?_
    refine VRun.seq ?_
    refine VRun.region ?_
    refine VRunO.free VWant.always (OF.fieldAddrO (VEv.tmp (t := (T.op 0 0)) rfl) fa166_1) ?_
    refine VRunO.look VWant.always (OL.loadO1 (t := (T.str a.Word)) (VEv.tmp (t := (T.op 0 1)) rfl) rfl rfl st9) ?_
    refine VRunO.free VWant.always (OF.fieldAddrO (VEv.tmp (t := (T.op 1 0)) rfl) fa166_1) ?_
    refine VRunO.look VWant.always (OL.loadO1 (t := (T.str b.Word)) (VEv.tmp (t := (T.op 1 1)) rfl) rfl rfl st9) ?_
    refine VRunO.free VWant.always (B.sneq (c := (!(decide (a.Word = b.Word)))) (VEv.tmp (t := (T.str a.Word)) rfl) (VEv.tmp (t := (T.str b.Word)) rfl) rfl) ?_
    refine VRunO.nil ?_
    refine vthn.n ?_
    refine VRun.cond (VEv.tmp (t := (T.bool (!(decide (a.Word = b.Word))))) rfl) (fun hc1 => ?_) (fun hc1 => ?_)
    · have fhc1 : ¬ (a.Word = b.Word) := ndT hc1
      refine VRun.seq ?_
      refine VRun.region ?_
      refine VRunO.free VWant.always (OF.assign (VEv.bool false)) ?_
      refine VRunO.nil ?_
      refine vthn.n ?_
      refine VRun.ret ?_
      refine vthn.r ?_
      refine vfin.eq (r' := (T.bool false)) ?_ (vfin.r (VRes.tmp (t := (T.bool false)) rfl VRes.nil) (Give.bool _))
      show (T.bool false) = (T.bool (decide (a = b)))
      refine congrArg T.bool ?_
      obtain ⟨a0, a1, a2, a3⟩ := a
      obtain ⟨b0, b1, b2, b3⟩ := b
      simp_all
    · have fhc1 : a.Word = b.Word := ndF hc1
      refine VRun.skip ?_
      refine vthn.n ?_
      refine VRun.seq ?_
      refine VRun.seq ?_
      refine VRun.region ?_
      refine VRunO.free VWant.always (OF.fieldAddrO (VEv.tmp (t := (T.op 0 0)) rfl) fa166_2) ?_
      refine VRunO.look VWant.always (OL.loadO1 (t := (T.int .i64 a.A)) (VEv.tmp (t := (T.op 0 2)) rfl) rfl rfl st3) ?_
      refine VRunO.free VWant.always (OF.fieldAddrO (VEv.tmp (t := (T.op 1 0)) rfl) fa166_2) ?_
      refine VRunO.look VWant.always (OL.loadO1 (t := (T.int .i64 b.A)) (VEv.tmp (t := (T.op 1 2)) rfl) rfl rfl st3) ?_
      refine VRunO.free VWant.always (B.neq (c := (!(decide (a.A = b.A)))) (VEv.tmp (t := (T.int .i64 a.A)) rfl) (VEv.tmp (t := (T.int .i64 b.A)) rfl) rfl) ?_
      refine VRunO.nil ?_
      refine vthn.n ?_
      refine VRun.cond (VEv.tmp (t := (T.bool (!(decide (a.A = b.A))))) rfl) (fun hc2 => ?_) (fun hc2 => ?_)
      · have fhc2 : ¬ (a.A = b.A) := ndT hc2
        refine VRun.seq ?_
        refine VRun.region ?_
        refine VRunO.free VWant.always (OF.assign (VEv.bool false)) ?_
        refine VRunO.nil ?_
        refine vthn.n ?_
        refine VRun.ret ?_
        refine vthn.r ?_
        refine vfin.eq (r' := (T.bool false)) ?_ (vfin.r (VRes.tmp (t := (T.bool false)) rfl VRes.nil) (Give.bool _))
        show (T.bool false) = (T.bool (decide (a = b)))
        refine congrArg T.bool ?_
        obtain ⟨a0, a1, a2, a3⟩ := a
        obtain ⟨b0, b1, b2, b3⟩ := b
        simp_all
      · have fhc2 : a.A = b.A := ndF hc2
        refine VRun.skip ?_
        refine vthn.n ?_
        refine VRun.seq ?_
        refine VRun.seq ?_
        refine VRun.region ?_
        refine VRunO.free VWant.always (OF.fieldAddrO (VEv.tmp (t := (T.op 0 0)) rfl) fa166_3) ?_
        refine VRunO.look VWant.always (OL.loadO1 (t := (T.int .i64 a.B)) (VEv.tmp (t := (T.op 0 3)) rfl) rfl rfl st3) ?_
        refine VRunO.free VWant.always (OF.fieldAddrO (VEv.tmp (t := (T.op 1 0)) rfl) fa166_3) ?_
        refine VRunO.look VWant.always (OL.loadO1 (t := (T.int .i64 b.B)) (VEv.tmp (t := (T.op 1 3)) rfl) rfl rfl st3) ?_
        refine VRunO.free VWant.always (B.neq (c := (!(decide (a.B = b.B)))) (VEv.tmp (t := (T.int .i64 a.B)) rfl) (VEv.tmp (t := (T.int .i64 b.B)) rfl) rfl) ?_
        refine VRunO.nil ?_
        refine vthn.n ?_
        refine VRun.cond (VEv.tmp (t := (T.bool (!(decide (a.B = b.B))))) rfl) (fun hc3 => ?_) (fun hc3 => ?_)
        · have fhc3 : ¬ (a.B = b.B) := ndT hc3
          refine VRun.seq ?_
          refine VRun.region ?_
          refine VRunO.free VWant.always (OF.assign (VEv.bool false)) ?_
          refine VRunO.nil ?_
          refine vthn.n ?_
          refine VRun.ret ?_
          refine vthn.r ?_
          refine vfin.eq (r' := (T.bool false)) ?_ (vfin.r (VRes.tmp (t := (T.bool false)) rfl VRes.nil) (Give.bool _))
          show (T.bool false) = (T.bool (decide (a = b)))
          refine congrArg T.bool ?_
          obtain ⟨a0, a1, a2, a3⟩ := a
          obtain ⟨b0, b1, b2, b3⟩ := b
          simp_all
        · have fhc3 : a.B = b.B := ndF hc3
          refine VRun.skip ?_
          refine vthn.n ?_
          refine VRun.seq ?_
          refine VRun.region ?_
          refine VRunO.free VWant.always (OF.assign (VEv.bool true)) ?_
          refine VRunO.nil ?_
          refine vthn.n ?_
          refine VRun.ret ?_
          refine vfin.eq (r' := (T.bool true)) ?_ (vfin.r (VRes.tmp (t := (T.bool true)) rfl VRes.nil) (Give.bool _))
          show (T.bool true) = (T.bool (decide (a = b)))
          refine congrArg T.bool ?_
          obtain ⟨a0, a1, a2, a3⟩ := a
          obtain ⟨b0, b1, b2, b3⟩ := b
          simp_all
theorem W_laws_eqStepS (n : Nat) (a : List D.Step) (b : List D.Step) (hla : a.length ≤ mx) (hlb : b.length ≤ mx) : Pure (acall Try.prog (n + 2)) 152 [(T.sl false 4 (a.map (eStep false))), (T.sl false 4 (b.map (eStep false)))] (T.bool (decide (a = b))) := by
  refine Pure.intro (rs := [ResultVar.tmp 4]) Try.func152 rfl rfl rfl (E0 := [(0, (T.sl false 4 (a.map (eStep false)))), (1, (T.sl false 4 (b.map (eStep false))))]) rfl ?_
  have hlim : lim = 1099511627776 := rfl
  have hmx : mx = 1048576 := rfl
  have hmax : maxLen = 9223372036854775807 := rfl
  refine VRun.seq ?_
  refine VRun.region ?_
  refine VRunO.free VWant.always (OF.assign (VEv.bool false)) ?_
  refine VRunO.nil ?_
  refine vthn.n ?_
  refine VRun.seq ?_
  refine VRun.seq ?_
  refine VRun.region ?_
  refine VRunO.free VWant.always (OF.move (VEv.tmp (t := (T.sl false 4 (a.map (eStep false)))) rfl)) ?_
  refine VRunO.look VWant.always (B.lenR (m := a.length) (VEv.tmp (t := (T.sl false 4 (a.map (eStep false)))) rfl) Try.underlying113 (List.length_map ..)) ?_
  refine VRunO.free VWant.always (OF.move (VEv.tmp (t := (T.sl false 4 (b.map (eStep false)))) rfl)) ?_
  refine VRunO.look VWant.always (B.lenR (m := b.length) (VEv.tmp (t := (T.sl false 4 (b.map (eStep false)))) rfl) Try.underlying113 (List.length_map ..)) ?_
  refine VRunO.free VWant.always (B.neq (c := (!(decide (a.length = b.length)))) (VEv.tmp (t := (T.int .i64 ((a.length : Nat) : Int))) rfl) (VEv.tmp (t := (T.int .i64 ((b.length : Nat) : Int))) rfl) (by first | (exact decNn (by omega)))) ?_
  refine VRunO.nil ?_
  refine vthn.n ?_
  refine VRun.cond (VEv.tmp (t := (T.bool (!(decide (a.length = b.length))))) rfl) (fun hc0 => ?_) (fun hc0 => ?_)
  · have fhc0 : ¬ (a.length = b.length) := ndT hc0
    refine VRun.seq ?_
    refine VRun.region ?_
    refine VRunO.free VWant.always (OF.assign (VEv.bool false)) ?_
    refine VRunO.nil ?_
    refine vthn.n ?_
    refine VRun.ret ?_
    refine vthn.r ?_
    refine vfin.eq (r' := (T.bool false)) ?_ (vfin.r (VRes.tmp (t := (T.bool false)) rfl VRes.nil) (Give.bool _))
    show (T.bool false) = (T.bool (decide (a = b)))
    refine congrArg T.bool ?_
    symm; rw [decide_eq_false_iff_not]; rintro rfl; exact fhc0 rfl
  · have fhc0 : a.length = b.length := ndF hc0
    refine VRun.skip ?_
    refine vthn.n ?_
    refine VRun.seq ?_
    refine VRun.seq ?_
    refine VRun.region ?_
    refine VRunO.free VWant.always (OF.assign (VEv.int .i64 0)) ?_
    refine VRunO.nil ?_
    refine vthn.n ?_
    refine VRun.block ?_
    refine VRun.loop (A := Nat) (fun s_ => [(0, (T.sl false 4 (a.map (eStep false)))), (1, (T.sl false 4 (b.map (eStep false)))), (5, (T.int .i64 ((s_ : Nat) : Int)))]) (fun s_ => mkO []) 0 (fun s_ => s_ ≤ a.length ∧ ∀ j, j < s_ → a[j]? = b[j]?) (fun s_ => a.length - s_) (0 : Nat) ?_ (Wk.mk (fun k => k) ?_ ?_ ?_) ?_
    · first | trivial | (simp; done) | omega | (constructor <;> simp)
    · exact (ball_cons ⟨rfl, rfl⟩ (ball_cons ⟨rfl, rfl⟩ (ball_cons ⟨(congrArg (T.int .i64) (show 0 = ((0 : Nat) : Int) from (by first | rfl | omega | (simp; done) | (push_cast; omega)))), rfl⟩ (ball_nil))))
    · exact (ball_nil)
    · show List.Nodup ([] : List Nat)
      decide
    · rintro i hI
      have hI' : i ≤ a.length ∧ ∀ j, j < i → a[j]? = b[j]? := hI
      clear hI
      show VRun _ _ _ [(0, (T.sl false 4 (a.map (eStep false)))), (1, (T.sl false 4 (b.map (eStep false)))), (5, (T.int .i64 ((i : Nat) : Int)))] (mkO []) 0 _
      refine VRun.seq ?_
      refine VRun.seq ?_
      refine VRun.region ?_
      refine VRunO.free VWant.always (OF.move (VEv.tmp (t := (T.int .i64 ((i : Nat) : Int))) rfl)) ?_
      refine VRunO.free VWant.always (OF.move (VEv.tmp (t := (T.sl false 4 (a.map (eStep false)))) rfl)) ?_
      refine VRunO.look VWant.always (B.lenR (m := a.length) (VEv.tmp (t := (T.sl false 4 (a.map (eStep false)))) rfl) Try.underlying113 (List.length_map ..)) ?_
      refine VRunO.free VWant.always (B.lss (c := (decide (i < a.length))) (VEv.tmp (t := (T.int .i64 ((i : Nat) : Int))) rfl) (VEv.tmp (t := (T.int .i64 ((a.length : Nat) : Int))) rfl) (by first | (exact decN (by omega)))) ?_
      refine VRunO.nil ?_
      refine vthn.n ?_
      refine VRun.cond (VEv.tmp (t := (T.bool (decide (i < a.length)))) rfl) (fun hc1 => ?_) (fun hc1 => ?_)
      · have fhc1 : i < a.length := of_decide_eq_true hc1
        refine VRun.skip ?_
        refine vthn.n ?_
        refine VRun.seq ?_
        refine VRun.block ?_
        refine VRun.seq ?_
        refine VRun.draw (B := [[], [], [1, 0], [0, 1, 2], [], [], [5, 4], [4, 5, 6], [6, 5, 4, 7, 2, 1, 0, 3], [3, 0, 1, 2, 7, 4, 5, 6, 8]]) (by kernel_rfl) (by kernel_rfl) ?_
        refine VRunD.free rfl VWant.always rfl (OF.move (VEv.tmp (t := (T.sl false 4 (a.map (eStep false)))) rfl)) ?_
        refine VRunD.free rfl VWant.always rfl (OF.move (VEv.tmp (t := (T.int .i64 ((i : Nat) : Int))) rfl)) ?_
        obtain ⟨x1, hx1⟩ : ∃ x, a[i]? = some x := ⟨_, List.getElem?_eq_getElem (by first | omega | (simp only [List.length_map]; omega) | (simp only [List.length_map, List.length_append, List.length_cons, List.length_nil, List.length_replicate, List.length_set, List.length_drop, List.length_take, lim] at *; omega))⟩
        refine VRunD.free rfl VWant.always rfl (OF.indexAddrR (row := (eStep false x1)) (i := i) (VEv.tmp (t := (T.sl false 4 (a.map (eStep false)))) rfl) (VEv.tmp (t := (T.int .i64 ((i : Nat) : Int))) rfl) rfl (map_at _ hx1) Try.underlying113 sz166 if166) ?_
        refine VRunD.look rfl VWant.always rfl (OL.loadRn (us := (eStep false x1)) (VEv.tmp (t := (T.rp [(T.int .i64 x1.Kind), (T.str x1.Word), (T.int .i64 x1.A), (T.int .i64 x1.B)])) rfl) st166 sz166 (Nat.le_of_ble_eq_true rfl) rfl) ?_
        refine VRunD.free rfl VWant.always rfl (OF.move (VEv.tmp (t := (T.sl false 4 (b.map (eStep false)))) rfl)) ?_
        refine VRunD.free rfl VWant.always rfl (OF.move (VEv.tmp (t := (T.int .i64 ((i : Nat) : Int))) rfl)) ?_
        obtain ⟨x2, hx2⟩ : ∃ x, b[i]? = some x := ⟨_, List.getElem?_eq_getElem (by first | omega | (simp only [List.length_map]; omega) | (simp only [List.length_map, List.length_append, List.length_cons, List.length_nil, List.length_replicate, List.length_set, List.length_drop, List.length_take, lim] at *; omega))⟩
        refine VRunD.free rfl VWant.always rfl (OF.indexAddrR (row := (eStep false x2)) (i := i) (VEv.tmp (t := (T.sl false 4 (b.map (eStep false)))) rfl) (VEv.tmp (t := (T.int .i64 ((i : Nat) : Int))) rfl) rfl (map_at _ hx2) Try.underlying113 sz166 if166) ?_
        refine VRunD.look rfl VWant.always rfl (OL.loadRn (us := (eStep false x2)) (VEv.tmp (t := (T.rp [(T.int .i64 x2.Kind), (T.str x2.Word), (T.int .i64 x2.A), (T.int .i64 x2.B)])) rfl) st166 sz166 (Nat.le_of_ble_eq_true rfl) rfl) ?_
        refine VRunD.quiet (bi := [6, 5, 4, 7, 2, 1, 0, 3]) rfl VWant.always rfl rfl rfl (ball_nil) (OC.callF (us := [(T.agg (eStep false x1)), (T.agg (eStep false x2))]) (r := (T.bool (decide (x1 = x2)))) (r' := (T.bool (decide (x1 = x2)))) (objs := []) rfl (VEvs.cons (VEv.tmp (t := (T.agg (eStep false x1))) rfl) (VEvs.cons (VEv.tmp (t := (T.agg (eStep false x2))) rfl) VEvs.nil)) (LendL.cons (Lend.agg (LendL.cons (Lend.pl rfl) (LendL.cons (Lend.pl rfl) (LendL.cons (Lend.pl rfl) (LendL.cons (Lend.pl rfl) (LendL.nil)))))) (LendL.cons (Lend.agg (LendL.cons (Lend.pl rfl) (LendL.cons (Lend.pl rfl) (LendL.cons (Lend.pl rfl) (LendL.cons (Lend.pl rfl) (LendL.nil)))))) (LendL.nil))) (W_laws_eqStep (n + 0) x1 x2 ) rfl) ?_
        refine VRunD.free rfl VWant.always rfl (B.not (c := (!(decide (x1 = x2)))) (VEv.tmp (t := (T.bool (decide (x1 = x2)))) rfl) rfl) ?_
        refine VRunD.nil ?_
        refine vthn.n ?_
        refine VRun.cond (VEv.tmp (t := (T.bool (!(decide (x1 = x2))))) rfl) (fun hc2 => ?_) (fun hc2 => ?_)
        · have fhc2 : ¬ (x1 = x2) := ndT hc2
          refine VRun.seq ?_
          refine VRun.region ?_
          refine VRunO.free VWant.always (OF.assign (VEv.bool false)) ?_
          refine VRunO.nil ?_
          refine vthn.n ?_
          refine VRun.ret ?_
          refine vinB.r ?_
          refine vthn.r ?_
          refine vthn.r ?_
          refine vinB.r ?_
          refine vthn.r ?_
          refine vfin.eq (r' := (T.bool false)) ?_ (vfin.r (VRes.tmp (t := (T.bool false)) rfl VRes.nil) (Give.bool _))
          show (T.bool false) = (T.bool (decide (a = b)))
          refine congrArg T.bool ?_
          symm; rw [decide_eq_false_iff_not]; exact agree_not hx1 hx2 fhc2
        · have fhc2 : x1 = x2 := ndF hc2
          refine VRun.skip ?_
          refine vinB.n ?_
          refine vthn.n ?_
          refine VRun.region ?_
          refine VRunO.free VWant.always (OF.move (VEv.tmp (t := (T.int .i64 ((i : Nat) : Int))) rfl)) ?_
          refine VRunO.free VWant.always (B.add (n := (((i + 1) : Nat) : Int)) (VEv.tmp (t := (T.int .i64 ((i : Nat) : Int))) rfl) (VEv.int .i64 1) (by first | rfl | (rw [wrap64 (by omega)]; done) | (rw [wrap64 (by omega)]; omega) | (rw [wrap64 (by omega)]; push_cast; omega) | omega)) ?_
          refine VRunO.free VWant.always (OF.assign (VEv.tmp (t := (T.int .i64 (((i + 1) : Nat) : Int))) rfl)) ?_
          refine VRunO.nil ?_
          refine vthn.n ?_
          refine ⟨(i + 1 : Nat), ?_, ?_, Wk.mk (fun k => k) ?_ ?_ ?_⟩
          · exact agree_next hI' hx1 hx2 fhc2
          · first | omega | (simp only []; omega) | (show _ < _; omega) | (simp; omega)
          · exact (ball_cons ⟨rfl, rfl⟩ (ball_cons ⟨rfl, rfl⟩ (ball_cons ⟨rfl, rfl⟩ (ball_nil))))
          · exact (ball_nil)
          · show List.Nodup ([] : List Nat)
            decide
      · have fhc1 : ¬ (i < a.length) := of_decide_eq_false hc1
        refine VRun.exit ?_
        refine vthn.e ?_
        refine vthn.e ?_
        refine vinB.e ?_
        refine vthn.n ?_
        refine VRun.seq ?_
        refine VRun.region ?_
        refine VRunO.free VWant.always (OF.assign (VEv.bool true)) ?_
        refine VRunO.nil ?_
        refine vthn.n ?_
        refine VRun.ret ?_
        refine vfin.eq (r' := (T.bool true)) ?_ (vfin.r (VRes.tmp (t := (T.bool true)) rfl VRes.nil) (Give.bool _))
        show (T.bool true) = (T.bool (decide (a = b)))
        refine congrArg T.bool ?_
        symm; rw [decide_eq_true_eq]; exact agree_all hI' fhc0 fhc1
theorem W_laws_eqClue (n : Nat) (a : D.Clue) (b : D.Clue) (ha : zClue a ≤ mx) (hb : zClue b ≤ mx) : Pure (acall Try.prog (n + 3)) 124 [(T.agg (eClue false a)), (T.agg (eClue false b))] (T.bool (decide (a = b))) := by
  refine Pure.intro (rs := [ResultVar.tmp 4]) Try.func124 rfl rfl rfl (E0 := [(0, (T.agg (eClue false a))), (1, (T.agg (eClue false b)))]) rfl ?_
  have hlim : lim = 1099511627776 := rfl
  have hmx : mx = 1048576 := rfl
  have hmax : maxLen = 9223372036854775807 := rfl
  simp only [zClue] at ha hb
  have hla_Play := zL_len (z := zStep) a.Play
  have hlb_Play := zL_len (z := zStep) b.Play
  refine VRun.seq ?_
  refine VRun.region ?_
  refine VRunO.make VWant.always (B.box (ts := [(T.int .i64 a.Sense), (T.sl false 4 (a.Play.map (eStep false)))]) (VEv.tmp (t := (T.agg (eClue false a))) rfl) nofun rfl) ?_
  refine VRunO.make VWant.always (B.box (ts := [(T.int .i64 b.Sense), (T.sl false 4 (b.Play.map (eStep false)))]) (VEv.tmp (t := (T.agg (eClue false b))) rfl) nofun rfl) ?_
  refine VRunO.free VWant.always (OF.assign (VEv.bool false)) ?_
  refine VRunO.nil ?_
  refine vthn.n ?_
  refine VRun.seq ?_
  refine VRun.seq ?_
  refine VRun.region ?_
  refine VRunO.free VWant.always (OF.fieldAddrO (VEv.tmp (t := (T.op 0 0)) rfl) fa115_0) ?_
  refine VRunO.look VWant.always (OL.loadO1 (t := (T.int .i64 a.Sense)) (VEv.tmp (t := (T.op 0 0)) rfl) rfl rfl st3) ?_
  refine VRunO.free VWant.always (OF.fieldAddrO (VEv.tmp (t := (T.op 1 0)) rfl) fa115_0) ?_
  refine VRunO.look VWant.always (OL.loadO1 (t := (T.int .i64 b.Sense)) (VEv.tmp (t := (T.op 1 0)) rfl) rfl rfl st3) ?_
  refine VRunO.free VWant.always (B.neq (c := (!(decide (a.Sense = b.Sense)))) (VEv.tmp (t := (T.int .i64 a.Sense)) rfl) (VEv.tmp (t := (T.int .i64 b.Sense)) rfl) rfl) ?_
  refine VRunO.nil ?_
  refine vthn.n ?_
  refine VRun.cond (VEv.tmp (t := (T.bool (!(decide (a.Sense = b.Sense))))) rfl) (fun hc0 => ?_) (fun hc0 => ?_)
  · have fhc0 : ¬ (a.Sense = b.Sense) := ndT hc0
    refine VRun.seq ?_
    refine VRun.region ?_
    refine VRunO.free VWant.always (OF.assign (VEv.bool false)) ?_
    refine VRunO.nil ?_
    refine vthn.n ?_
    refine VRun.ret ?_
    refine vthn.r ?_
    refine vfin.eq (r' := (T.bool false)) ?_ (vfin.r (VRes.tmp (t := (T.bool false)) rfl VRes.nil) (Give.bool _))
    show (T.bool false) = (T.bool (decide (a = b)))
    refine congrArg T.bool ?_
    obtain ⟨a0, a1⟩ := a
    obtain ⟨b0, b1⟩ := b
    simp_all
  · have fhc0 : a.Sense = b.Sense := ndF hc0
    refine VRun.skip ?_
    refine vthn.n ?_
    refine VRun.seq ?_
    refine VRun.seq ?_
    refine VRun.region ?_
    refine VRunO.free VWant.always (OF.fieldAddrO (VEv.tmp (t := (T.op 0 0)) rfl) fa115_1) ?_
    refine VRunO.look VWant.always (OL.loadO1 (t := (T.sl false 4 (a.Play.map (eStep false)))) (VEv.tmp (t := (T.op 0 1)) rfl) rfl rfl st113) ?_
    refine VRunO.free VWant.always (OF.fieldAddrO (VEv.tmp (t := (T.op 1 0)) rfl) fa115_1) ?_
    refine VRunO.look VWant.always (OL.loadO1 (t := (T.sl false 4 (b.Play.map (eStep false)))) (VEv.tmp (t := (T.op 1 1)) rfl) rfl rfl st113) ?_
    refine VRunO.chain VWant.always (OC.callF (us := [(T.sl false 4 (a.Play.map (eStep false))), (T.sl false 4 (b.Play.map (eStep false)))]) (r := (T.bool (decide (a.Play = b.Play)))) (r' := (T.bool (decide (a.Play = b.Play)))) (objs := []) rfl (VEvs.cons (VEv.tmp (t := (T.sl false 4 (a.Play.map (eStep false)))) rfl) (VEvs.cons (VEv.tmp (t := (T.sl false 4 (b.Play.map (eStep false)))) rfl) VEvs.nil)) (LendL.cons (Lend.pl rfl) (LendL.cons (Lend.pl rfl) (LendL.nil))) (W_laws_eqStepS (n + 0) a.Play b.Play (by first | assumption | omega | (simp only [List.length_map]; omega) | (simp only [List.length_map, List.length_append, List.length_cons, List.length_nil, List.length_replicate, List.length_set, List.length_drop, List.length_take, lim] at *; omega)) (by first | assumption | omega | (simp only [List.length_map]; omega) | (simp only [List.length_map, List.length_append, List.length_cons, List.length_nil, List.length_replicate, List.length_set, List.length_drop, List.length_take, lim] at *; omega))) rfl) ?_
    refine VRunO.free VWant.always (B.not (c := (!(decide (a.Play = b.Play)))) (VEv.tmp (t := (T.bool (decide (a.Play = b.Play)))) rfl) rfl) ?_
    refine VRunO.nil ?_
    refine vthn.n ?_
    refine VRun.cond (VEv.tmp (t := (T.bool (!(decide (a.Play = b.Play))))) rfl) (fun hc1 => ?_) (fun hc1 => ?_)
    · have fhc1 : ¬ (a.Play = b.Play) := ndT hc1
      refine VRun.seq ?_
      refine VRun.region ?_
      refine VRunO.free VWant.always (OF.assign (VEv.bool false)) ?_
      refine VRunO.nil ?_
      refine vthn.n ?_
      refine VRun.ret ?_
      refine vthn.r ?_
      refine vfin.eq (r' := (T.bool false)) ?_ (vfin.r (VRes.tmp (t := (T.bool false)) rfl VRes.nil) (Give.bool _))
      show (T.bool false) = (T.bool (decide (a = b)))
      refine congrArg T.bool ?_
      obtain ⟨a0, a1⟩ := a
      obtain ⟨b0, b1⟩ := b
      simp_all
    · have fhc1 : a.Play = b.Play := ndF hc1
      refine VRun.skip ?_
      refine vthn.n ?_
      refine VRun.seq ?_
      refine VRun.region ?_
      refine VRunO.free VWant.always (OF.assign (VEv.bool true)) ?_
      refine VRunO.nil ?_
      refine vthn.n ?_
      refine VRun.ret ?_
      refine vfin.eq (r' := (T.bool true)) ?_ (vfin.r (VRes.tmp (t := (T.bool true)) rfl VRes.nil) (Give.bool _))
      show (T.bool true) = (T.bool (decide (a = b)))
      refine congrArg T.bool ?_
      obtain ⟨a0, a1⟩ := a
      obtain ⟨b0, b1⟩ := b
      simp_all
theorem W_laws_eqCorrection (n : Nat) (a : D.Correction) (b : D.Correction) (ha : zCorrection a ≤ mx) (hb : zCorrection b ≤ mx) : Pure (acall Try.prog (n + 4)) 74 [(T.agg (eCorrection false a)), (T.agg (eCorrection false b))] (T.bool (decide (a = b))) := by
  refine Pure.intro (rs := [ResultVar.tmp 4]) Try.func74 rfl rfl rfl (E0 := [(0, (T.agg (eCorrection false a))), (1, (T.agg (eCorrection false b)))]) rfl ?_
  have hlim : lim = 1099511627776 := rfl
  have hmx : mx = 1048576 := rfl
  have hmax : maxLen = 9223372036854775807 := rfl
  simp only [zCorrection] at ha hb
  refine VRun.seq ?_
  refine VRun.region ?_
  refine VRunO.make VWant.always (B.box (ts := [(T.int .i64 a.Issue), (T.int .i64 a.Slot), (T.int .i64 a.Clue.Sense), (T.sl false 4 (a.Clue.Play.map (eStep false))), (T.int .i64 a.Tick)]) (VEv.tmp (t := (T.agg (eCorrection false a))) rfl) nofun rfl) ?_
  refine VRunO.make VWant.always (B.box (ts := [(T.int .i64 b.Issue), (T.int .i64 b.Slot), (T.int .i64 b.Clue.Sense), (T.sl false 4 (b.Clue.Play.map (eStep false))), (T.int .i64 b.Tick)]) (VEv.tmp (t := (T.agg (eCorrection false b))) rfl) nofun rfl) ?_
  refine VRunO.free VWant.always (OF.assign (VEv.bool false)) ?_
  refine VRunO.nil ?_
  refine vthn.n ?_
  refine VRun.seq ?_
  refine VRun.seq ?_
  refine VRun.region ?_
  refine VRunO.free VWant.always (OF.fieldAddrO (VEv.tmp (t := (T.op 0 0)) rfl) fa117_0) ?_
  refine VRunO.look VWant.always (OL.loadO1 (t := (T.int .i64 a.Issue)) (VEv.tmp (t := (T.op 0 0)) rfl) rfl rfl st3) ?_
  refine VRunO.free VWant.always (OF.fieldAddrO (VEv.tmp (t := (T.op 1 0)) rfl) fa117_0) ?_
  refine VRunO.look VWant.always (OL.loadO1 (t := (T.int .i64 b.Issue)) (VEv.tmp (t := (T.op 1 0)) rfl) rfl rfl st3) ?_
  refine VRunO.free VWant.always (B.neq (c := (!(decide (a.Issue = b.Issue)))) (VEv.tmp (t := (T.int .i64 a.Issue)) rfl) (VEv.tmp (t := (T.int .i64 b.Issue)) rfl) rfl) ?_
  refine VRunO.nil ?_
  refine vthn.n ?_
  refine VRun.cond (VEv.tmp (t := (T.bool (!(decide (a.Issue = b.Issue))))) rfl) (fun hc0 => ?_) (fun hc0 => ?_)
  · have fhc0 : ¬ (a.Issue = b.Issue) := ndT hc0
    refine VRun.seq ?_
    refine VRun.region ?_
    refine VRunO.free VWant.always (OF.assign (VEv.bool false)) ?_
    refine VRunO.nil ?_
    refine vthn.n ?_
    refine VRun.ret ?_
    refine vthn.r ?_
    refine vfin.eq (r' := (T.bool false)) ?_ (vfin.r (VRes.tmp (t := (T.bool false)) rfl VRes.nil) (Give.bool _))
    show (T.bool false) = (T.bool (decide (a = b)))
    refine congrArg T.bool ?_
    obtain ⟨a0, a1, a2, a3⟩ := a
    obtain ⟨b0, b1, b2, b3⟩ := b
    simp_all
  · have fhc0 : a.Issue = b.Issue := ndF hc0
    refine VRun.skip ?_
    refine vthn.n ?_
    refine VRun.seq ?_
    refine VRun.seq ?_
    refine VRun.region ?_
    refine VRunO.free VWant.always (OF.fieldAddrO (VEv.tmp (t := (T.op 0 0)) rfl) fa117_1) ?_
    refine VRunO.look VWant.always (OL.loadO1 (t := (T.int .i64 a.Slot)) (VEv.tmp (t := (T.op 0 1)) rfl) rfl rfl st3) ?_
    refine VRunO.free VWant.always (OF.fieldAddrO (VEv.tmp (t := (T.op 1 0)) rfl) fa117_1) ?_
    refine VRunO.look VWant.always (OL.loadO1 (t := (T.int .i64 b.Slot)) (VEv.tmp (t := (T.op 1 1)) rfl) rfl rfl st3) ?_
    refine VRunO.free VWant.always (B.neq (c := (!(decide (a.Slot = b.Slot)))) (VEv.tmp (t := (T.int .i64 a.Slot)) rfl) (VEv.tmp (t := (T.int .i64 b.Slot)) rfl) rfl) ?_
    refine VRunO.nil ?_
    refine vthn.n ?_
    refine VRun.cond (VEv.tmp (t := (T.bool (!(decide (a.Slot = b.Slot))))) rfl) (fun hc1 => ?_) (fun hc1 => ?_)
    · have fhc1 : ¬ (a.Slot = b.Slot) := ndT hc1
      refine VRun.seq ?_
      refine VRun.region ?_
      refine VRunO.free VWant.always (OF.assign (VEv.bool false)) ?_
      refine VRunO.nil ?_
      refine vthn.n ?_
      refine VRun.ret ?_
      refine vthn.r ?_
      refine vfin.eq (r' := (T.bool false)) ?_ (vfin.r (VRes.tmp (t := (T.bool false)) rfl VRes.nil) (Give.bool _))
      show (T.bool false) = (T.bool (decide (a = b)))
      refine congrArg T.bool ?_
      obtain ⟨a0, a1, a2, a3⟩ := a
      obtain ⟨b0, b1, b2, b3⟩ := b
      simp_all
    · have fhc1 : a.Slot = b.Slot := ndF hc1
      refine VRun.skip ?_
      refine vthn.n ?_
      refine VRun.seq ?_
      refine VRun.seq ?_
      refine VRun.region ?_
      refine VRunO.free VWant.always (OF.fieldAddrO (VEv.tmp (t := (T.op 0 0)) rfl) fa117_2) ?_
      refine VRunO.look VWant.always (OL.loadOn (us := (eClue false a.Clue)) (VEv.tmp (t := (T.op 0 2)) rfl) rfl st115 sz115 (Nat.le_of_ble_eq_true rfl) rfl) ?_
      refine VRunO.free VWant.always (OF.fieldAddrO (VEv.tmp (t := (T.op 1 0)) rfl) fa117_2) ?_
      refine VRunO.look VWant.always (OL.loadOn (us := (eClue false b.Clue)) (VEv.tmp (t := (T.op 1 2)) rfl) rfl st115 sz115 (Nat.le_of_ble_eq_true rfl) rfl) ?_
      refine VRunO.chain VWant.always (OC.callF (us := [(T.agg (eClue false a.Clue)), (T.agg (eClue false b.Clue))]) (r := (T.bool (decide (a.Clue = b.Clue)))) (r' := (T.bool (decide (a.Clue = b.Clue)))) (objs := []) rfl (VEvs.cons (VEv.tmp (t := (T.agg (eClue false a.Clue))) rfl) (VEvs.cons (VEv.tmp (t := (T.agg (eClue false b.Clue))) rfl) VEvs.nil)) (LendL.cons (Lend.agg (LendL.cons (Lend.pl rfl) (LendL.cons (Lend.pl rfl) (LendL.nil)))) (LendL.cons (Lend.agg (LendL.cons (Lend.pl rfl) (LendL.cons (Lend.pl rfl) (LendL.nil)))) (LendL.nil))) (W_laws_eqClue (n + 0) a.Clue b.Clue (by first | assumption | omega | (simp only [List.length_map]; omega) | (simp only [List.length_map, List.length_append, List.length_cons, List.length_nil, List.length_replicate, List.length_set, List.length_drop, List.length_take, lim] at *; omega)) (by first | assumption | omega | (simp only [List.length_map]; omega) | (simp only [List.length_map, List.length_append, List.length_cons, List.length_nil, List.length_replicate, List.length_set, List.length_drop, List.length_take, lim] at *; omega))) rfl) ?_
      refine VRunO.free VWant.always (B.not (c := (!(decide (a.Clue = b.Clue)))) (VEv.tmp (t := (T.bool (decide (a.Clue = b.Clue)))) rfl) rfl) ?_
      refine VRunO.nil ?_
      refine vthn.n ?_
      refine VRun.cond (VEv.tmp (t := (T.bool (!(decide (a.Clue = b.Clue))))) rfl) (fun hc2 => ?_) (fun hc2 => ?_)
      · have fhc2 : ¬ (a.Clue = b.Clue) := ndT hc2
        refine VRun.seq ?_
        refine VRun.region ?_
        refine VRunO.free VWant.always (OF.assign (VEv.bool false)) ?_
        refine VRunO.nil ?_
        refine vthn.n ?_
        refine VRun.ret ?_
        refine vthn.r ?_
        refine vfin.eq (r' := (T.bool false)) ?_ (vfin.r (VRes.tmp (t := (T.bool false)) rfl VRes.nil) (Give.bool _))
        show (T.bool false) = (T.bool (decide (a = b)))
        refine congrArg T.bool ?_
        obtain ⟨a0, a1, a2, a3⟩ := a
        obtain ⟨b0, b1, b2, b3⟩ := b
        simp_all
      · have fhc2 : a.Clue = b.Clue := ndF hc2
        refine VRun.skip ?_
        refine vthn.n ?_
        refine VRun.seq ?_
        refine VRun.seq ?_
        refine VRun.region ?_
        refine VRunO.free VWant.always (OF.fieldAddrO (VEv.tmp (t := (T.op 0 0)) rfl) fa117_3) ?_
        refine VRunO.look VWant.always (OL.loadO1 (t := (T.int .i64 a.Tick)) (VEv.tmp (t := (T.op 0 4)) rfl) rfl rfl st3) ?_
        refine VRunO.free VWant.always (OF.fieldAddrO (VEv.tmp (t := (T.op 1 0)) rfl) fa117_3) ?_
        refine VRunO.look VWant.always (OL.loadO1 (t := (T.int .i64 b.Tick)) (VEv.tmp (t := (T.op 1 4)) rfl) rfl rfl st3) ?_
        refine VRunO.free VWant.always (B.neq (c := (!(decide (a.Tick = b.Tick)))) (VEv.tmp (t := (T.int .i64 a.Tick)) rfl) (VEv.tmp (t := (T.int .i64 b.Tick)) rfl) rfl) ?_
        refine VRunO.nil ?_
        refine vthn.n ?_
        refine VRun.cond (VEv.tmp (t := (T.bool (!(decide (a.Tick = b.Tick))))) rfl) (fun hc3 => ?_) (fun hc3 => ?_)
        · have fhc3 : ¬ (a.Tick = b.Tick) := ndT hc3
          refine VRun.seq ?_
          refine VRun.region ?_
          refine VRunO.free VWant.always (OF.assign (VEv.bool false)) ?_
          refine VRunO.nil ?_
          refine vthn.n ?_
          refine VRun.ret ?_
          refine vthn.r ?_
          refine vfin.eq (r' := (T.bool false)) ?_ (vfin.r (VRes.tmp (t := (T.bool false)) rfl VRes.nil) (Give.bool _))
          show (T.bool false) = (T.bool (decide (a = b)))
          refine congrArg T.bool ?_
          obtain ⟨a0, a1, a2, a3⟩ := a
          obtain ⟨b0, b1, b2, b3⟩ := b
          simp_all
        · have fhc3 : a.Tick = b.Tick := ndF hc3
          refine VRun.skip ?_
          refine vthn.n ?_
          refine VRun.seq ?_
          refine VRun.region ?_
          refine VRunO.free VWant.always (OF.assign (VEv.bool true)) ?_
          refine VRunO.nil ?_
          refine vthn.n ?_
          refine VRun.ret ?_
          refine vfin.eq (r' := (T.bool true)) ?_ (vfin.r (VRes.tmp (t := (T.bool true)) rfl VRes.nil) (Give.bool _))
          show (T.bool true) = (T.bool (decide (a = b)))
          refine congrArg T.bool ?_
          obtain ⟨a0, a1, a2, a3⟩ := a
          obtain ⟨b0, b1, b2, b3⟩ := b
          simp_all
theorem W_laws_eqCorrectionS (n : Nat) (a : List D.Correction) (b : List D.Correction) (ha : zL zCorrection a ≤ mx) (hb : zL zCorrection b ≤ mx) : Pure (acall Try.prog (n + 5)) 48 [(T.sl false 5 (a.map (eCorrection false))), (T.sl false 5 (b.map (eCorrection false)))] (T.bool (decide (a = b))) := by
  refine Pure.intro (rs := [ResultVar.tmp 4]) Try.func48 rfl rfl rfl (E0 := [(0, (T.sl false 5 (a.map (eCorrection false)))), (1, (T.sl false 5 (b.map (eCorrection false))))]) rfl ?_
  have hlim : lim = 1099511627776 := rfl
  have hmx : mx = 1048576 := rfl
  have hmax : maxLen = 9223372036854775807 := rfl
  have hla := zL_len (z := zCorrection) a
  have hlb := zL_len (z := zCorrection) b
  refine VRun.seq ?_
  refine VRun.region ?_
  refine VRunO.free VWant.always (OF.assign (VEv.bool false)) ?_
  refine VRunO.nil ?_
  refine vthn.n ?_
  refine VRun.seq ?_
  refine VRun.seq ?_
  refine VRun.region ?_
  refine VRunO.free VWant.always (OF.move (VEv.tmp (t := (T.sl false 5 (a.map (eCorrection false)))) rfl)) ?_
  refine VRunO.look VWant.always (B.lenR (m := a.length) (VEv.tmp (t := (T.sl false 5 (a.map (eCorrection false)))) rfl) Try.underlying68 (List.length_map ..)) ?_
  refine VRunO.free VWant.always (OF.move (VEv.tmp (t := (T.sl false 5 (b.map (eCorrection false)))) rfl)) ?_
  refine VRunO.look VWant.always (B.lenR (m := b.length) (VEv.tmp (t := (T.sl false 5 (b.map (eCorrection false)))) rfl) Try.underlying68 (List.length_map ..)) ?_
  refine VRunO.free VWant.always (B.neq (c := (!(decide (a.length = b.length)))) (VEv.tmp (t := (T.int .i64 ((a.length : Nat) : Int))) rfl) (VEv.tmp (t := (T.int .i64 ((b.length : Nat) : Int))) rfl) (by first | exact Nat.le_trans (zL_at hx1) ha | exact Nat.le_trans (zL_at hx2) hb | (exact decNn (by omega)))) ?_
  refine VRunO.nil ?_
  refine vthn.n ?_
  refine VRun.cond (VEv.tmp (t := (T.bool (!(decide (a.length = b.length))))) rfl) (fun hc0 => ?_) (fun hc0 => ?_)
  · have fhc0 : ¬ (a.length = b.length) := ndT hc0
    refine VRun.seq ?_
    refine VRun.region ?_
    refine VRunO.free VWant.always (OF.assign (VEv.bool false)) ?_
    refine VRunO.nil ?_
    refine vthn.n ?_
    refine VRun.ret ?_
    refine vthn.r ?_
    refine vfin.eq (r' := (T.bool false)) ?_ (vfin.r (VRes.tmp (t := (T.bool false)) rfl VRes.nil) (Give.bool _))
    show (T.bool false) = (T.bool (decide (a = b)))
    refine congrArg T.bool ?_
    symm; rw [decide_eq_false_iff_not]; rintro rfl; exact fhc0 rfl
  · have fhc0 : a.length = b.length := ndF hc0
    refine VRun.skip ?_
    refine vthn.n ?_
    refine VRun.seq ?_
    refine VRun.seq ?_
    refine VRun.region ?_
    refine VRunO.free VWant.always (OF.assign (VEv.int .i64 0)) ?_
    refine VRunO.nil ?_
    refine vthn.n ?_
    refine VRun.block ?_
    refine VRun.loop (A := Nat) (fun s_ => [(0, (T.sl false 5 (a.map (eCorrection false)))), (1, (T.sl false 5 (b.map (eCorrection false)))), (5, (T.int .i64 ((s_ : Nat) : Int)))]) (fun s_ => mkO []) 0 (fun s_ => s_ ≤ a.length ∧ ∀ j, j < s_ → a[j]? = b[j]?) (fun s_ => a.length - s_) (0 : Nat) ?_ (Wk.mk (fun k => k) ?_ ?_ ?_) ?_
    · first | trivial | (simp; done) | omega | (constructor <;> simp)
    · exact (ball_cons ⟨rfl, rfl⟩ (ball_cons ⟨rfl, rfl⟩ (ball_cons ⟨(congrArg (T.int .i64) (show 0 = ((0 : Nat) : Int) from (by first | rfl | omega | (simp; done) | (push_cast; omega)))), rfl⟩ (ball_nil))))
    · exact (ball_nil)
    · show List.Nodup ([] : List Nat)
      decide
    · rintro i hI
      have hI' : i ≤ a.length ∧ ∀ j, j < i → a[j]? = b[j]? := hI
      clear hI
      show VRun _ _ _ [(0, (T.sl false 5 (a.map (eCorrection false)))), (1, (T.sl false 5 (b.map (eCorrection false)))), (5, (T.int .i64 ((i : Nat) : Int)))] (mkO []) 0 _
      refine VRun.seq ?_
      refine VRun.seq ?_
      refine VRun.region ?_
      refine VRunO.free VWant.always (OF.move (VEv.tmp (t := (T.int .i64 ((i : Nat) : Int))) rfl)) ?_
      refine VRunO.free VWant.always (OF.move (VEv.tmp (t := (T.sl false 5 (a.map (eCorrection false)))) rfl)) ?_
      refine VRunO.look VWant.always (B.lenR (m := a.length) (VEv.tmp (t := (T.sl false 5 (a.map (eCorrection false)))) rfl) Try.underlying68 (List.length_map ..)) ?_
      refine VRunO.free VWant.always (B.lss (c := (decide (i < a.length))) (VEv.tmp (t := (T.int .i64 ((i : Nat) : Int))) rfl) (VEv.tmp (t := (T.int .i64 ((a.length : Nat) : Int))) rfl) (by first | exact Nat.le_trans (zL_at hx1) ha | exact Nat.le_trans (zL_at hx2) hb | (exact decN (by omega)))) ?_
      refine VRunO.nil ?_
      refine vthn.n ?_
      refine VRun.cond (VEv.tmp (t := (T.bool (decide (i < a.length)))) rfl) (fun hc1 => ?_) (fun hc1 => ?_)
      · have fhc1 : i < a.length := of_decide_eq_true hc1
        refine VRun.skip ?_
        refine vthn.n ?_
        refine VRun.seq ?_
        refine VRun.block ?_
        refine VRun.seq ?_
        refine VRun.draw (B := [[], [], [1, 0], [0, 1, 2], [], [], [5, 4], [4, 5, 6], [6, 5, 4, 7, 2, 1, 0, 3], [3, 0, 1, 2, 7, 4, 5, 6, 8]]) (by kernel_rfl) (by kernel_rfl) ?_
        refine VRunD.free rfl VWant.always rfl (OF.move (VEv.tmp (t := (T.sl false 5 (a.map (eCorrection false)))) rfl)) ?_
        refine VRunD.free rfl VWant.always rfl (OF.move (VEv.tmp (t := (T.int .i64 ((i : Nat) : Int))) rfl)) ?_
        obtain ⟨x1, hx1⟩ : ∃ x, a[i]? = some x := ⟨_, List.getElem?_eq_getElem (by first | exact Nat.le_trans (zL_at hx1) ha | exact Nat.le_trans (zL_at hx2) hb | omega | (simp only [List.length_map]; omega) | (simp only [List.length_map, List.length_append, List.length_cons, List.length_nil, List.length_replicate, List.length_set, List.length_drop, List.length_take, lim] at *; omega))⟩
        refine VRunD.free rfl VWant.always rfl (OF.indexAddrR (row := (eCorrection false x1)) (i := i) (VEv.tmp (t := (T.sl false 5 (a.map (eCorrection false)))) rfl) (VEv.tmp (t := (T.int .i64 ((i : Nat) : Int))) rfl) rfl (map_at _ hx1) Try.underlying68 sz117 if117) ?_
        refine VRunD.look rfl VWant.always rfl (OL.loadRn (us := (eCorrection false x1)) (VEv.tmp (t := (T.rp [(T.int .i64 x1.Issue), (T.int .i64 x1.Slot), (T.int .i64 x1.Clue.Sense), (T.sl false 4 (x1.Clue.Play.map (eStep false))), (T.int .i64 x1.Tick)])) rfl) st117 sz117 (Nat.le_of_ble_eq_true rfl) rfl) ?_
        refine VRunD.free rfl VWant.always rfl (OF.move (VEv.tmp (t := (T.sl false 5 (b.map (eCorrection false)))) rfl)) ?_
        refine VRunD.free rfl VWant.always rfl (OF.move (VEv.tmp (t := (T.int .i64 ((i : Nat) : Int))) rfl)) ?_
        obtain ⟨x2, hx2⟩ : ∃ x, b[i]? = some x := ⟨_, List.getElem?_eq_getElem (by first | exact Nat.le_trans (zL_at hx1) ha | exact Nat.le_trans (zL_at hx2) hb | omega | (simp only [List.length_map]; omega) | (simp only [List.length_map, List.length_append, List.length_cons, List.length_nil, List.length_replicate, List.length_set, List.length_drop, List.length_take, lim] at *; omega))⟩
        refine VRunD.free rfl VWant.always rfl (OF.indexAddrR (row := (eCorrection false x2)) (i := i) (VEv.tmp (t := (T.sl false 5 (b.map (eCorrection false)))) rfl) (VEv.tmp (t := (T.int .i64 ((i : Nat) : Int))) rfl) rfl (map_at _ hx2) Try.underlying68 sz117 if117) ?_
        refine VRunD.look rfl VWant.always rfl (OL.loadRn (us := (eCorrection false x2)) (VEv.tmp (t := (T.rp [(T.int .i64 x2.Issue), (T.int .i64 x2.Slot), (T.int .i64 x2.Clue.Sense), (T.sl false 4 (x2.Clue.Play.map (eStep false))), (T.int .i64 x2.Tick)])) rfl) st117 sz117 (Nat.le_of_ble_eq_true rfl) rfl) ?_
        refine VRunD.quiet (bi := [6, 5, 4, 7, 2, 1, 0, 3]) rfl VWant.always rfl rfl rfl (ball_nil) (OC.callF (us := [(T.agg (eCorrection false x1)), (T.agg (eCorrection false x2))]) (r := (T.bool (decide (x1 = x2)))) (r' := (T.bool (decide (x1 = x2)))) (objs := []) rfl (VEvs.cons (VEv.tmp (t := (T.agg (eCorrection false x1))) rfl) (VEvs.cons (VEv.tmp (t := (T.agg (eCorrection false x2))) rfl) VEvs.nil)) (LendL.cons (Lend.agg (LendL.cons (Lend.pl rfl) (LendL.cons (Lend.pl rfl) (LendL.cons (Lend.pl rfl) (LendL.cons (Lend.pl rfl) (LendL.cons (Lend.pl rfl) (LendL.nil))))))) (LendL.cons (Lend.agg (LendL.cons (Lend.pl rfl) (LendL.cons (Lend.pl rfl) (LendL.cons (Lend.pl rfl) (LendL.cons (Lend.pl rfl) (LendL.cons (Lend.pl rfl) (LendL.nil))))))) (LendL.nil))) (W_laws_eqCorrection (n + 0) x1 x2 (by first | exact Nat.le_trans (zL_at hx1) ha | exact Nat.le_trans (zL_at hx2) hb | assumption | omega | (simp only [List.length_map]; omega) | (simp only [List.length_map, List.length_append, List.length_cons, List.length_nil, List.length_replicate, List.length_set, List.length_drop, List.length_take, lim] at *; omega)) (by first | exact Nat.le_trans (zL_at hx1) ha | exact Nat.le_trans (zL_at hx2) hb | assumption | omega | (simp only [List.length_map]; omega) | (simp only [List.length_map, List.length_append, List.length_cons, List.length_nil, List.length_replicate, List.length_set, List.length_drop, List.length_take, lim] at *; omega))) rfl) ?_
        refine VRunD.free rfl VWant.always rfl (B.not (c := (!(decide (x1 = x2)))) (VEv.tmp (t := (T.bool (decide (x1 = x2)))) rfl) rfl) ?_
        refine VRunD.nil ?_
        refine vthn.n ?_
        refine VRun.cond (VEv.tmp (t := (T.bool (!(decide (x1 = x2))))) rfl) (fun hc2 => ?_) (fun hc2 => ?_)
        · have fhc2 : ¬ (x1 = x2) := ndT hc2
          refine VRun.seq ?_
          refine VRun.region ?_
          refine VRunO.free VWant.always (OF.assign (VEv.bool false)) ?_
          refine VRunO.nil ?_
          refine vthn.n ?_
          refine VRun.ret ?_
          refine vinB.r ?_
          refine vthn.r ?_
          refine vthn.r ?_
          refine vinB.r ?_
          refine vthn.r ?_
          refine vfin.eq (r' := (T.bool false)) ?_ (vfin.r (VRes.tmp (t := (T.bool false)) rfl VRes.nil) (Give.bool _))
          show (T.bool false) = (T.bool (decide (a = b)))
          refine congrArg T.bool ?_
          symm; rw [decide_eq_false_iff_not]; exact agree_not hx1 hx2 fhc2
        · have fhc2 : x1 = x2 := ndF hc2
          refine VRun.skip ?_
          refine vinB.n ?_
          refine vthn.n ?_
          refine VRun.region ?_
          refine VRunO.free VWant.always (OF.move (VEv.tmp (t := (T.int .i64 ((i : Nat) : Int))) rfl)) ?_
          refine VRunO.free VWant.always (B.add (n := (((i + 1) : Nat) : Int)) (VEv.tmp (t := (T.int .i64 ((i : Nat) : Int))) rfl) (VEv.int .i64 1) (by first | exact Nat.le_trans (zL_at hx1) ha | exact Nat.le_trans (zL_at hx2) hb | rfl | (rw [wrap64 (by omega)]; done) | (rw [wrap64 (by omega)]; omega) | (rw [wrap64 (by omega)]; push_cast; omega) | omega)) ?_
          refine VRunO.free VWant.always (OF.assign (VEv.tmp (t := (T.int .i64 (((i + 1) : Nat) : Int))) rfl)) ?_
          refine VRunO.nil ?_
          refine vthn.n ?_
          refine ⟨(i + 1 : Nat), ?_, ?_, Wk.mk (fun k => k) ?_ ?_ ?_⟩
          · exact agree_next hI' hx1 hx2 fhc2
          · first | omega | (simp only []; omega) | (show _ < _; omega) | (simp; omega)
          · exact (ball_cons ⟨rfl, rfl⟩ (ball_cons ⟨rfl, rfl⟩ (ball_cons ⟨rfl, rfl⟩ (ball_nil))))
          · exact (ball_nil)
          · show List.Nodup ([] : List Nat)
            decide
      · have fhc1 : ¬ (i < a.length) := of_decide_eq_false hc1
        refine VRun.exit ?_
        refine vthn.e ?_
        refine vthn.e ?_
        refine vinB.e ?_
        refine vthn.n ?_
        refine VRun.seq ?_
        refine VRun.region ?_
        refine VRunO.free VWant.always (OF.assign (VEv.bool true)) ?_
        refine VRunO.nil ?_
        refine vthn.n ?_
        refine VRun.ret ?_
        refine vfin.eq (r' := (T.bool true)) ?_ (vfin.r (VRes.tmp (t := (T.bool true)) rfl VRes.nil) (Give.bool _))
        show (T.bool true) = (T.bool (decide (a = b)))
        refine congrArg T.bool ?_
        symm; rw [decide_eq_true_eq]; exact agree_all hI' fhc0 fhc1
end Go.Proofs.Ythdnjihmjdbdkaa.AE
