/- Walks of the program's functions over trees. Conditions: as each theorem states. -/
import Derived.Test.YtllkimgecapbgaaKFnExactAreNotesFto
namespace Go.Proofs.Ytllkimgecapbgaa.AE
open Go Go.RowKit
set_option linter.unusedVariables false
set_option linter.unusedSimpArgs false
set_option maxRecDepth 20000
set_option maxHeartbeats 2000000

theorem W_laws_eqNote (n : Nat) (a : D.Note) (b : D.Note)  : Pure (acall Try.prog (n + 1)) 37 [(T.agg (eNote false a)), (T.agg (eNote false b))] (T.bool (decide (a = b))) := by
  refine Pure.intro (rs := [ResultVar.tmp 4]) Try.func37 rfl rfl rfl (E0 := [(0, (T.agg (eNote false a))), (1, (T.agg (eNote false b)))]) rfl ?_
  have hlim : lim = 1099511627776 := rfl
  have hmx : mx = 1048576 := rfl
  have hmax : maxLen = 9223372036854775807 := rfl
  refine VRun.seq ?_
  refine VRun.region ?_
  refine VRunO.make VWant.always (B.box (ts := [(T.int .i64 a.Cell), (T.str a.Letter), (T.int .i64 a.Tick), (T.int .i64 a.Who)]) (VEv.tmp (t := (T.agg (eNote false a))) rfl) nofun rfl) ?_
  refine VRunO.make VWant.always (B.box (ts := [(T.int .i64 b.Cell), (T.str b.Letter), (T.int .i64 b.Tick), (T.int .i64 b.Who)]) (VEv.tmp (t := (T.agg (eNote false b))) rfl) nofun rfl) ?_
  refine VRunO.free VWant.always (OF.assign (VEv.bool false)) ?_
  refine VRunO.nil ?_
  refine vthn.n ?_
  refine VRun.seq ?_
  refine VRun.seq ?_
  refine VRun.region ?_
  refine VRunO.free VWant.always (OF.fieldAddrO (VEv.tmp (t := (T.op 0 0)) rfl) fa26_0) ?_
  refine VRunO.look VWant.always (OL.loadO1 (t := (T.int .i64 a.Cell)) (VEv.tmp (t := (T.op 0 0)) rfl) rfl rfl st3) ?_
  refine VRunO.free VWant.always (OF.fieldAddrO (VEv.tmp (t := (T.op 1 0)) rfl) fa26_0) ?_
  refine VRunO.look VWant.always (OL.loadO1 (t := (T.int .i64 b.Cell)) (VEv.tmp (t := (T.op 1 0)) rfl) rfl rfl st3) ?_
  refine VRunO.free VWant.always (B.neq (c := (!(decide (a.Cell = b.Cell)))) (VEv.tmp (t := (T.int .i64 a.Cell)) rfl) (VEv.tmp (t := (T.int .i64 b.Cell)) rfl) rfl) ?_
  refine VRunO.nil ?_
  refine vthn.n ?_
  refine VRun.cond (VEv.tmp (t := (T.bool (!(decide (a.Cell = b.Cell))))) rfl) (fun hc0 => ?_) (fun hc0 => ?_)
  · have fhc0 : ¬ (a.Cell = b.Cell) := ndT hc0
    refine VRun.seq ?_
    refine VRun.region ?_
    refine VRunO.free VWant.always (OF.assign (VEv.bool false)) ?_
    refine VRunO.nil ?_
    refine vthn.n ?_
    refine VRun.ret ?_
    refine vthn.r ?_
    refine vfin.eq (r' := (T.bool false)) ?_ (vfin.r (VRes.tmp (t := (T.bool false)) rfl VRes.nil) (Give.bool _))
    show (T.bool false) = (T.bool (decide (a = b)))
    refine congrArg T.bool ?_
    obtain ⟨a0, a1, a2, a3⟩ := a
    obtain ⟨b0, b1, b2, b3⟩ := b
    simp_all
  · have fhc0 : a.Cell = b.Cell := ndF hc0
    refine VRun.skip ?_
    refine vthn.n ?_
    refine VRun.seq ?_
    refine VRun.seq ?_
    refine VRun.region ?_
    refine VRunO.free VWant.always (OF.fieldAddrO (VEv.tmp (t := (T.op 0 0)) rfl) fa26_1) ?_
    refine VRunO.look VWant.always (OL.loadO1 (t := (T.str a.Letter)) (VEv.tmp (t := (T.op 0 1)) rfl) rfl rfl st9) ?_
    refine VRunO.free VWant.always (OF.fieldAddrO (VEv.tmp (t := (T.op 1 0)) rfl) fa26_1) ?_
    refine VRunO.look VWant.always (OL.loadO1 (t := (T.str b.Letter)) (VEv.tmp (t := (T.op 1 1)) rfl) rfl rfl st9) ?_
    refine VRunO.free VWant.always (B.sneq (c := (!(decide (a.Letter = b.Letter)))) (VEv.tmp (t := (T.str a.Letter)) rfl) (VEv.tmp (t := (T.str b.Letter)) rfl) rfl) ?_
    refine VRunO.nil ?_
    refine vthn.n ?_
    refine VRun.cond (VEv.tmp (t := (T.bool (!(decide (a.Letter = b.Letter))))) rfl) (fun hc1 => ?_) (fun hc1 => ?_)
    · have fhc1 : ¬ (a.Letter = b.Letter) := ndT hc1
      refine VRun.seq ?_
      refine VRun.region ?_
      refine VRunO.free VWant.always (OF.assign (VEv.bool false)) ?_
      refine VRunO.nil ?_
      refine vthn.n ?_
      refine VRun.ret ?_
      refine vthn.r ?_
      refine vfin.eq (r' := (T.bool false)) ?_ (vfin.r (VRes.tmp (t := (T.bool false)) rfl VRes.nil) (Give.bool _))
      show (T.bool false) = (T.bool (decide (a = b)))
      refine congrArg T.bool ?_
      obtain ⟨a0, a1, a2, a3⟩ := a
      obtain ⟨b0, b1, b2, b3⟩ := b
      simp_all
    · have fhc1 : a.Letter = b.Letter := ndF hc1
      refine VRun.skip ?_
      refine vthn.n ?_
      refine VRun.seq ?_
      refine VRun.seq ?_
      refine VRun.region ?_
      refine VRunO.free VWant.always (OF.fieldAddrO (VEv.tmp (t := (T.op 0 0)) rfl) fa26_2) ?_
      refine VRunO.look VWant.always (OL.loadO1 (t := (T.int .i64 a.Tick)) (VEv.tmp (t := (T.op 0 2)) rfl) rfl rfl st3) ?_
      refine VRunO.free VWant.always (OF.fieldAddrO (VEv.tmp (t := (T.op 1 0)) rfl) fa26_2) ?_
      refine VRunO.look VWant.always (OL.loadO1 (t := (T.int .i64 b.Tick)) (VEv.tmp (t := (T.op 1 2)) rfl) rfl rfl st3) ?_
      refine VRunO.free VWant.always (B.neq (c := (!(decide (a.Tick = b.Tick)))) (VEv.tmp (t := (T.int .i64 a.Tick)) rfl) (VEv.tmp (t := (T.int .i64 b.Tick)) rfl) rfl) ?_
      refine VRunO.nil ?_
      refine vthn.n ?_
      refine VRun.cond (VEv.tmp (t := (T.bool (!(decide (a.Tick = b.Tick))))) rfl) (fun hc2 => ?_) (fun hc2 => ?_)
      · have fhc2 : ¬ (a.Tick = b.Tick) := ndT hc2
        refine VRun.seq ?_
        refine VRun.region ?_
        refine VRunO.free VWant.always (OF.assign (VEv.bool false)) ?_
        refine VRunO.nil ?_
        refine vthn.n ?_
        refine VRun.ret ?_
        refine vthn.r ?_
        refine vfin.eq (r' := (T.bool false)) ?_ (vfin.r (VRes.tmp (t := (T.bool false)) rfl VRes.nil) (Give.bool _))
        show (T.bool false) = (T.bool (decide (a = b)))
        refine congrArg T.bool ?_
        obtain ⟨a0, a1, a2, a3⟩ := a
        obtain ⟨b0, b1, b2, b3⟩ := b
        simp_all
      · have fhc2 : a.Tick = b.Tick := ndF hc2
        refine VRun.skip ?_
        refine vthn.n ?_
        refine VRun.seq ?_
        refine VRun.seq ?_
        refine VRun.region ?_
        refine VRunO.free VWant.always (OF.fieldAddrO (VEv.tmp (t := (T.op 0 0)) rfl) fa26_3) ?_
        refine VRunO.look VWant.always (OL.loadO1 (t := (T.int .i64 a.Who)) (VEv.tmp (t := (T.op 0 3)) rfl) rfl rfl st3) ?_
        refine VRunO.free VWant.always (OF.fieldAddrO (VEv.tmp (t := (T.op 1 0)) rfl) fa26_3) ?_
        refine VRunO.look VWant.always (OL.loadO1 (t := (T.int .i64 b.Who)) (VEv.tmp (t := (T.op 1 3)) rfl) rfl rfl st3) ?_
        refine VRunO.free VWant.always (B.neq (c := (!(decide (a.Who = b.Who)))) (VEv.tmp (t := (T.int .i64 a.Who)) rfl) (VEv.tmp (t := (T.int .i64 b.Who)) rfl) rfl) ?_
        refine VRunO.nil ?_
        refine vthn.n ?_
        refine VRun.cond (VEv.tmp (t := (T.bool (!(decide (a.Who = b.Who))))) rfl) (fun hc3 => ?_) (fun hc3 => ?_)
        · have fhc3 : ¬ (a.Who = b.Who) := ndT hc3
          refine VRun.seq ?_
          refine VRun.region ?_
          refine VRunO.free VWant.always (OF.assign (VEv.bool false)) ?_
          refine VRunO.nil ?_
          refine vthn.n ?_
          refine VRun.ret ?_
          refine vthn.r ?_
          refine vfin.eq (r' := (T.bool false)) ?_ (vfin.r (VRes.tmp (t := (T.bool false)) rfl VRes.nil) (Give.bool _))
          show (T.bool false) = (T.bool (decide (a = b)))
          refine congrArg T.bool ?_
          obtain ⟨a0, a1, a2, a3⟩ := a
          obtain ⟨b0, b1, b2, b3⟩ := b
          simp_all
        · have fhc3 : a.Who = b.Who := ndF hc3
          refine VRun.skip ?_
          refine vthn.n ?_
          refine VRun.seq ?_
          refine VRun.region ?_
          refine VRunO.free VWant.always (OF.assign (VEv.bool true)) ?_
          refine VRunO.nil ?_
          refine vthn.n ?_
          refine VRun.ret ?_
          refine vfin.eq (r' := (T.bool true)) ?_ (vfin.r (VRes.tmp (t := (T.bool true)) rfl VRes.nil) (Give.bool _))
          show (T.bool true) = (T.bool (decide (a = b)))
          refine congrArg T.bool ?_
          obtain ⟨a0, a1, a2, a3⟩ := a
          obtain ⟨b0, b1, b2, b3⟩ := b
          simp_all
theorem W_laws_eqNoteS (n : Nat) (a : List D.Note) (b : List D.Note) (hla : a.length ≤ mx) (hlb : b.length ≤ mx) : Pure (acall Try.prog (n + 2)) 22 [(T.sl false 4 (a.map (eNote false))), (T.sl false 4 (b.map (eNote false)))] (T.bool (decide (a = b))) := by
  refine Pure.intro (rs := [ResultVar.tmp 4]) Try.func22 rfl rfl rfl (E0 := [(0, (T.sl false 4 (a.map (eNote false)))), (1, (T.sl false 4 (b.map (eNote false))))]) rfl ?_
  have hlim : lim = 1099511627776 := rfl
  have hmx : mx = 1048576 := rfl
  have hmax : maxLen = 9223372036854775807 := rfl
  refine VRun.seq ?_
  refine VRun.region ?_
  refine VRunO.free VWant.always (OF.assign (VEv.bool false)) ?_
  refine VRunO.nil ?_
  refine vthn.n ?_
  refine VRun.seq ?_
  refine VRun.seq ?_
  refine VRun.region ?_
  refine VRunO.free VWant.always (OF.move (VEv.tmp (t := (T.sl false 4 (a.map (eNote false)))) rfl)) ?_
  refine VRunO.look VWant.always (B.lenR (m := a.length) (VEv.tmp (t := (T.sl false 4 (a.map (eNote false)))) rfl) Try.underlying39 (List.length_map ..)) ?_
  refine VRunO.free VWant.always (OF.move (VEv.tmp (t := (T.sl false 4 (b.map (eNote false)))) rfl)) ?_
  refine VRunO.look VWant.always (B.lenR (m := b.length) (VEv.tmp (t := (T.sl false 4 (b.map (eNote false)))) rfl) Try.underlying39 (List.length_map ..)) ?_
  refine VRunO.free VWant.always (B.neq (c := (!(decide (a.length = b.length)))) (VEv.tmp (t := (T.int .i64 ((a.length : Nat) : Int))) rfl) (VEv.tmp (t := (T.int .i64 ((b.length : Nat) : Int))) rfl) (by first | (exact decNn (by omega)))) ?_
  refine VRunO.nil ?_
  refine vthn.n ?_
  refine VRun.cond (VEv.tmp (t := (T.bool (!(decide (a.length = b.length))))) rfl) (fun hc0 => ?_) (fun hc0 => ?_)
  · have fhc0 : ¬ (a.length = b.length) := ndT hc0
    refine VRun.seq ?_
    refine VRun.region ?_
    refine VRunO.free VWant.always (OF.assign (VEv.bool false)) ?_
    refine VRunO.nil ?_
    refine vthn.n ?_
    refine VRun.ret ?_
    refine vthn.r ?_
    refine vfin.eq (r' := (T.bool false)) ?_ (vfin.r (VRes.tmp (t := (T.bool false)) rfl VRes.nil) (Give.bool _))
    show (T.bool false) = (T.bool (decide (a = b)))
    refine congrArg T.bool ?_
    symm; rw [decide_eq_false_iff_not]; rintro rfl; exact fhc0 rfl
  · have fhc0 : a.length = b.length := ndF hc0
    refine VRun.skip ?_
    refine vthn.n ?_
    refine VRun.seq ?_
    refine VRun.seq ?_
    refine VRun.region ?_
    refine VRunO.free VWant.always (OF.assign (VEv.int .i64 0)) ?_
    refine VRunO.nil ?_
    refine vthn.n ?_
    refine VRun.block ?_
    refine VRun.loop (A := Nat) (fun s_ => [(0, (T.sl false 4 (a.map (eNote false)))), (1, (T.sl false 4 (b.map (eNote false)))), (5, (T.int .i64 ((s_ : Nat) : Int)))]) (fun s_ => mkO []) 0 (fun s_ => s_ ≤ a.length ∧ ∀ j, j < s_ → a[j]? = b[j]?) (fun s_ => a.length - s_) (0 : Nat) ?_ (Wk.mk (fun k => k) ?_ ?_ ?_) ?_
    · first | trivial | (simp; done) | omega | (constructor <;> simp)
    · exact (ball_cons ⟨rfl, rfl⟩ (ball_cons ⟨rfl, rfl⟩ (ball_cons ⟨(congrArg (T.int .i64) (show 0 = ((0 : Nat) : Int) from (by first | rfl | omega | (simp; done) | (push_cast; omega)))), rfl⟩ (ball_nil))))
    · exact (ball_nil)
    · show List.Nodup ([] : List Nat)
      decide
    · rintro i hI
      have hI' : i ≤ a.length ∧ ∀ j, j < i → a[j]? = b[j]? := hI
      clear hI
      show VRun _ _ _ [(0, (T.sl false 4 (a.map (eNote false)))), (1, (T.sl false 4 (b.map (eNote false)))), (5, (T.int .i64 ((i : Nat) : Int)))] (mkO []) 0 _
      refine VRun.seq ?_
      refine VRun.seq ?_
      refine VRun.region ?_
      refine VRunO.free VWant.always (OF.move (VEv.tmp (t := (T.int .i64 ((i : Nat) : Int))) rfl)) ?_
      refine VRunO.free VWant.always (OF.move (VEv.tmp (t := (T.sl false 4 (a.map (eNote false)))) rfl)) ?_
      refine VRunO.look VWant.always (B.lenR (m := a.length) (VEv.tmp (t := (T.sl false 4 (a.map (eNote false)))) rfl) Try.underlying39 (List.length_map ..)) ?_
      refine VRunO.free VWant.always (B.lss (c := (decide (i < a.length))) (VEv.tmp (t := (T.int .i64 ((i : Nat) : Int))) rfl) (VEv.tmp (t := (T.int .i64 ((a.length : Nat) : Int))) rfl) (by first | (exact decN (by omega)))) ?_
      refine VRunO.nil ?_
      refine vthn.n ?_
      refine VRun.cond (VEv.tmp (t := (T.bool (decide (i < a.length)))) rfl) (fun hc1 => ?_) (fun hc1 => ?_)
      · have fhc1 : i < a.length := of_decide_eq_true hc1
        refine VRun.skip ?_
        refine vthn.n ?_
        refine VRun.seq ?_
        refine VRun.block ?_
        refine VRun.seq ?_
        refine VRun.draw (B := [[], [], [1, 0], [0, 1, 2], [], [], [5, 4], [4, 5, 6], [6, 5, 4, 7, 2, 1, 0, 3], [3, 0, 1, 2, 7, 4, 5, 6, 8]]) (by kernel_rfl) (by kernel_rfl) ?_
        refine VRunD.free rfl VWant.always rfl (OF.move (VEv.tmp (t := (T.sl false 4 (a.map (eNote false)))) rfl)) ?_
        refine VRunD.free rfl VWant.always rfl (OF.move (VEv.tmp (t := (T.int .i64 ((i : Nat) : Int))) rfl)) ?_
        obtain ⟨x1, hx1⟩ : ∃ x, a[i]? = some x := ⟨_, List.getElem?_eq_getElem (by first | omega | (simp only [List.length_map]; omega) | (simp only [List.length_map, List.length_append, List.length_cons, List.length_nil, List.length_replicate, List.length_set, List.length_drop, List.length_take, lim] at *; omega))⟩
        refine VRunD.free rfl VWant.always rfl (OF.indexAddrR (row := (eNote false x1)) (i := i) (VEv.tmp (t := (T.sl false 4 (a.map (eNote false)))) rfl) (VEv.tmp (t := (T.int .i64 ((i : Nat) : Int))) rfl) rfl (map_at _ hx1) Try.underlying39 sz26 if26) ?_
        refine VRunD.look rfl VWant.always rfl (OL.loadRn (us := (eNote false x1)) (VEv.tmp (t := (T.rp [(T.int .i64 x1.Cell), (T.str x1.Letter), (T.int .i64 x1.Tick), (T.int .i64 x1.Who)])) rfl) st26 sz26 (Nat.le_of_ble_eq_true rfl) rfl) ?_
        refine VRunD.free rfl VWant.always rfl (OF.move (VEv.tmp (t := (T.sl false 4 (b.map (eNote false)))) rfl)) ?_
        refine VRunD.free rfl VWant.always rfl (OF.move (VEv.tmp (t := (T.int .i64 ((i : Nat) : Int))) rfl)) ?_
        obtain ⟨x2, hx2⟩ : ∃ x, b[i]? = some x := ⟨_, List.getElem?_eq_getElem (by first | omega | (simp only [List.length_map]; omega) | (simp only [List.length_map, List.length_append, List.length_cons, List.length_nil, List.length_replicate, List.length_set, List.length_drop, List.length_take, lim] at *; omega))⟩
        refine VRunD.free rfl VWant.always rfl (OF.indexAddrR (row := (eNote false x2)) (i := i) (VEv.tmp (t := (T.sl false 4 (b.map (eNote false)))) rfl) (VEv.tmp (t := (T.int .i64 ((i : Nat) : Int))) rfl) rfl (map_at _ hx2) Try.underlying39 sz26 if26) ?_
        refine VRunD.look rfl VWant.always rfl (OL.loadRn (us := (eNote false x2)) (VEv.tmp (t := (T.rp [(T.int .i64 x2.Cell), (T.str x2.Letter), (T.int .i64 x2.Tick), (T.int .i64 x2.Who)])) rfl) st26 sz26 (Nat.le_of_ble_eq_true rfl) rfl) ?_
        refine VRunD.quiet (bi := [6, 5, 4, 7, 2, 1, 0, 3]) rfl VWant.always rfl rfl rfl (ball_nil) (OC.callF (us := [(T.agg (eNote false x1)), (T.agg (eNote false x2))]) (r := (T.bool (decide (x1 = x2)))) (r' := (T.bool (decide (x1 = x2)))) (objs := []) rfl (VEvs.cons (VEv.tmp (t := (T.agg (eNote false x1))) rfl) (VEvs.cons (VEv.tmp (t := (T.agg (eNote false x2))) rfl) VEvs.nil)) (LendL.cons (Lend.agg (LendL.cons (Lend.pl rfl) (LendL.cons (Lend.pl rfl) (LendL.cons (Lend.pl rfl) (LendL.cons (Lend.pl rfl) (LendL.nil)))))) (LendL.cons (Lend.agg (LendL.cons (Lend.pl rfl) (LendL.cons (Lend.pl rfl) (LendL.cons (Lend.pl rfl) (LendL.cons (Lend.pl rfl) (LendL.nil)))))) (LendL.nil))) (W_laws_eqNote (n + 0) x1 x2 ) rfl) ?_
        refine VRunD.free rfl VWant.always rfl (B.not (c := (!(decide (x1 = x2)))) (VEv.tmp (t := (T.bool (decide (x1 = x2)))) rfl) rfl) ?_
        refine VRunD.nil ?_
        refine vthn.n ?_
        refine VRun.cond (VEv.tmp (t := (T.bool (!(decide (x1 = x2))))) rfl) (fun hc2 => ?_) (fun hc2 => ?_)
        · have fhc2 : ¬ (x1 = x2) := ndT hc2
          refine VRun.seq ?_
          refine VRun.region ?_
          refine VRunO.free VWant.always (OF.assign (VEv.bool false)) ?_
          refine VRunO.nil ?_
          refine vthn.n ?_
          refine VRun.ret ?_
          refine vinB.r ?_
          refine vthn.r ?_
          refine vthn.r ?_
          refine vinB.r ?_
          refine vthn.r ?_
          refine vfin.eq (r' := (T.bool false)) ?_ (vfin.r (VRes.tmp (t := (T.bool false)) rfl VRes.nil) (Give.bool _))
          show (T.bool false) = (T.bool (decide (a = b)))
          refine congrArg T.bool ?_
          symm; rw [decide_eq_false_iff_not]; exact agree_not hx1 hx2 fhc2
        · have fhc2 : x1 = x2 := ndF hc2
          refine VRun.skip ?_
          refine vinB.n ?_
          refine vthn.n ?_
          refine VRun.region ?_
          refine VRunO.free VWant.always (OF.move (VEv.tmp (t := (T.int .i64 ((i : Nat) : Int))) rfl)) ?_
          refine VRunO.free VWant.always (B.add (n := (((i + 1) : Nat) : Int)) (VEv.tmp (t := (T.int .i64 ((i : Nat) : Int))) rfl) (VEv.int .i64 1) (by first | rfl | (rw [wrap64 (by omega)]; done) | (rw [wrap64 (by omega)]; omega) | (rw [wrap64 (by omega)]; push_cast; omega) | omega)) ?_
          refine VRunO.free VWant.always (OF.assign (VEv.tmp (t := (T.int .i64 (((i + 1) : Nat) : Int))) rfl)) ?_
          refine VRunO.nil ?_
          refine vthn.n ?_
          refine ⟨(i + 1 : Nat), ?_, ?_, Wk.mk (fun k => k) ?_ ?_ ?_⟩
          · exact agree_next hI' hx1 hx2 fhc2
          · first | omega | (simp only []; omega) | (show _ < _; omega) | (simp; omega)
          · exact (ball_cons ⟨rfl, rfl⟩ (ball_cons ⟨rfl, rfl⟩ (ball_cons ⟨rfl, rfl⟩ (ball_nil))))
          · exact (ball_nil)
          · show List.Nodup ([] : List Nat)
            decide
      · have fhc1 : ¬ (i < a.length) := of_decide_eq_false hc1
        refine VRun.exit ?_
        refine vthn.e ?_
        refine vthn.e ?_
        refine vinB.e ?_
        refine vthn.n ?_
        refine VRun.seq ?_
        refine VRun.region ?_
        refine VRunO.free VWant.always (OF.assign (VEv.bool true)) ?_
        refine VRunO.nil ?_
        refine vthn.n ?_
        refine VRun.ret ?_
        refine vfin.eq (r' := (T.bool true)) ?_ (vfin.r (VRes.tmp (t := (T.bool true)) rfl VRes.nil) (Give.bool _))
        show (T.bool true) = (T.bool (decide (a = b)))
        refine congrArg T.bool ?_
        symm; rw [decide_eq_true_eq]; exact agree_all hI' fhc0 fhc1
end Go.Proofs.Ytllkimgecapbgaa.AE
