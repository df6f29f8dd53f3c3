/- Walks of the program's functions over trees. Conditions: as each theorem states. -/
import Derived.Test.YtllkimgecapbgaaKFnExactAreNotesVa
namespace Go.Proofs.Ytllkimgecapbgaa.AE
open Go Go.RowKit
set_option linter.unusedVariables false
set_option linter.unusedSimpArgs false
set_option maxRecDepth 20000
set_option maxHeartbeats 2000000

noncomputable section
def isPat (s : ByteArray) : Prop := (1 ≤ s.size ∧ s.size ≤ 8) ∧ ∀ i, i < s.size → bAt s i = 63 ∨ (97 ≤ bAt s i ∧ bAt s i ≤ 122)
instance (s : ByteArray) : Decidable (isPat s) := Classical.propDecidable _
end
theorem W_spec_IsPattern (n : Nat) (a : ByteArray) (ha : a.size ≤ maxLen) : Pure (acall Try.prog (n + 2)) 46 [(T.str a)] (T.bool (decide (isPat a))) := by
  refine Pure.intro (rs := [ResultVar.tmp 2]) Try.func46 rfl rfl rfl (E0 := [(0, (T.str a))]) rfl ?_
  have hlim : lim = 1099511627776 := rfl
  have hmx : mx = 1048576 := rfl
  have hmax : maxLen = 9223372036854775807 := rfl
  refine VRun.seq ?_
  refine VRun.region ?_
  refine VRunO.free VWant.always (OF.assign (VEv.bool false)) ?_
  refine VRunO.nil ?_
  refine vthn.n ?_
  refine VRun.seq ?_
  refine VRun.seq ?_
  refine VRun.region ?_
  refine VRunO.free VWant.always (OF.move (VEv.tmp (t := (T.str a)) rfl)) ?_
  refine VRunO.look VWant.always (B.lenS (VEv.tmp (t := (T.str a)) rfl) Try.underlying9) ?_
  refine VRunO.chain VWant.always (OC.callF (us := [(T.int .i64 ((a.size : Nat) : Int)), (T.int .i64 1), (T.int .i64 8)]) (r := (T.bool (decide (1 ≤ ((a.size : Nat) : Int) ∧ ((a.size : Nat) : Int) ≤ 8)))) (r' := (T.bool (decide (1 ≤ ((a.size : Nat) : Int) ∧ ((a.size : Nat) : Int) ≤ 8)))) (objs := []) rfl (VEvs.cons (VEv.tmp (t := (T.int .i64 ((a.size : Nat) : Int))) rfl) (VEvs.cons (VEv.int .i64 1) (VEvs.cons (VEv.int .i64 8) VEvs.nil))) (LendL.cons (Lend.pl rfl) (LendL.cons (Lend.pl rfl) (LendL.cons (Lend.pl rfl) (LendL.nil)))) (W_spec_l1In (n + 0) ((a.size : Nat) : Int) 1 8 ) rfl) ?_
  refine VRunO.free VWant.always (B.not (c := (!(decide (1 ≤ ((a.size : Nat) : Int) ∧ ((a.size : Nat) : Int) ≤ 8)))) (VEv.tmp (t := (T.bool (decide (1 ≤ ((a.size : Nat) : Int) ∧ ((a.size : Nat) : Int) ≤ 8)))) rfl) rfl) ?_
  refine VRunO.nil ?_
  refine vthn.n ?_
  refine VRun.cond (VEv.tmp (t := (T.bool (!(decide (1 ≤ ((a.size : Nat) : Int) ∧ ((a.size : Nat) : Int) ≤ 8))))) rfl) (fun hc0 => ?_) (fun hc0 => ?_)
  · have fhc0 : ¬ (1 ≤ ((a.size : Nat) : Int) ∧ ((a.size : Nat) : Int) ≤ 8) := ndT hc0
    refine VRun.seq ?_
    refine VRun.region ?_
    refine VRunO.free VWant.always (OF.assign (VEv.bool false)) ?_
    refine VRunO.nil ?_
    refine vthn.n ?_
    refine VRun.ret ?_
    refine vthn.r ?_
    refine vfin.eq (r' := (T.bool false)) ?_ (vfin.r (VRes.tmp (t := (T.bool false)) rfl VRes.nil) (Give.bool _))
    show (T.bool false) = (T.bool (decide (isPat a)))
    refine congrArg T.bool ?_
    first | (symm; rw [decide_eq_true_eq]; exact ⟨by omega, allEnd hI' fhc1⟩) | (symm; rw [decide_eq_false_iff_not]; rintro ⟨h1, h2⟩; first | omega | (have := h2 i fhc1; omega))
  · have fhc0 : 1 ≤ ((a.size : Nat) : Int) ∧ ((a.size : Nat) : Int) ≤ 8 := ndF hc0
    refine VRun.skip ?_
    refine vthn.n ?_
    refine VRun.seq ?_
    refine VRun.seq ?_
    refine VRun.region ?_
    refine VRunO.free VWant.always (OF.assign (VEv.int .i64 0)) ?_
    refine VRunO.nil ?_
    refine vthn.n ?_
    refine VRun.block ?_
    refine VRun.loop (A := Nat) (fun s_ => [(0, (T.str a)), (3, (T.int .i64 ((s_ : Nat) : Int)))]) (fun s_ => mkO []) 0 (fun s_ => s_ ≤ a.size ∧ ∀ j, j < s_ → bAt a j = 63 ∨ (97 ≤ bAt a j ∧ bAt a j ≤ 122)) (fun s_ => a.size - s_) (0 : Nat) ?_ (Wk.mk (fun k => k) ?_ ?_ ?_) ?_
    · exact ⟨Nat.zero_le _, fun j hj => by omega⟩
    · exact (ball_cons ⟨rfl, rfl⟩ (ball_cons ⟨(congrArg (T.int .i64) (show 0 = ((0 : Nat) : Int) from (by first | rfl | omega | (simp; done) | (push_cast; omega)))), rfl⟩ (ball_nil)))
    · exact (ball_nil)
    · show List.Nodup ([] : List Nat)
      decide
    · rintro i hI
      have hI' : i ≤ a.size ∧ ∀ j, j < i → bAt a j = 63 ∨ (97 ≤ bAt a j ∧ bAt a j ≤ 122) := hI
      clear hI
      show VRun _ _ _ [(0, (T.str a)), (3, (T.int .i64 ((i : Nat) : Int)))] (mkO []) 0 _
      refine VRun.seq ?_
      refine VRun.seq ?_
      refine VRun.region ?_
      refine VRunO.free VWant.always (OF.move (VEv.tmp (t := (T.int .i64 ((i : Nat) : Int))) rfl)) ?_
      refine VRunO.free VWant.always (OF.move (VEv.tmp (t := (T.str a)) rfl)) ?_
      refine VRunO.look VWant.always (B.lenS (VEv.tmp (t := (T.str a)) rfl) Try.underlying9) ?_
      refine VRunO.free VWant.always (B.lss (c := (decide (i < a.size))) (VEv.tmp (t := (T.int .i64 ((i : Nat) : Int))) rfl) (VEv.tmp (t := (T.int .i64 ((a.size : Nat) : Int))) rfl) (by first | (exact decN (by omega)))) ?_
      refine VRunO.nil ?_
      refine vthn.n ?_
      refine VRun.cond (VEv.tmp (t := (T.bool (decide (i < a.size)))) rfl) (fun hc1 => ?_) (fun hc1 => ?_)
      · have fhc1 : i < a.size := of_decide_eq_true hc1
        refine VRun.skip ?_
        refine vthn.n ?_
        refine VRun.seq ?_
        refine VRun.block ?_
        refine VRun.seq ?_
        refine VRun.region ?_
        refine VRunO.free VWant.always (OF.move (VEv.tmp (t := (T.str a)) rfl)) ?_
        refine VRunO.free VWant.always (OF.move (VEv.tmp (t := (T.int .i64 ((i : Nat) : Int))) rfl)) ?_
        have hb1 : i < a.size := (by first | omega | (simp only [List.length_map]; omega) | (simp only [List.length_map, List.length_append, List.length_cons, List.length_nil, List.length_replicate, List.length_set, List.length_drop, List.length_take, lim] at *; omega))
        refine VRunO.free VWant.always (B.index (n := (bAt a i)) (i := i) (VEv.tmp (t := (T.str a)) rfl) (VEv.tmp (t := (T.int .i64 ((i : Nat) : Int))) rfl) rfl hb1 Try.underlying9 (bAt_eq hb1)) ?_
        refine VRunO.free VWant.always (B.neq (c := (!(decide (bAt a i = 63)))) (VEv.tmp (t := (T.int .u8 (bAt a i))) rfl) (VEv.int .u8 63) rfl) ?_
        refine VRunO.free VWant.always (OF.move (VEv.tmp (t := (T.bool (!(decide (bAt a i = 63))))) rfl)) ?_
        refine bool_way (!(decide (bAt a i = 63))) (fun hg18_2 => ?_) (fun hg18_2 => ?_)
        · have fhg18_2 : ¬ (bAt a i = 63) := ndT hg18_2
          refine VRunO.free (VWant.on (b := (!(decide (bAt a i = 63)))) rfl rfl hg18_2) (OF.move (VEv.tmp (t := (T.str a)) rfl)) ?_
          refine VRunO.free (VWant.on (b := (!(decide (bAt a i = 63)))) rfl rfl hg18_2) (OF.move (VEv.tmp (t := (T.int .i64 ((i : Nat) : Int))) rfl)) ?_
          have hb3 : i < a.size := (by first | omega | (simp only [List.length_map]; omega) | (simp only [List.length_map, List.length_append, List.length_cons, List.length_nil, List.length_replicate, List.length_set, List.length_drop, List.length_take, lim] at *; omega))
          refine VRunO.free (VWant.on (b := (!(decide (bAt a i = 63)))) rfl rfl hg18_2) (B.index (n := (bAt a i)) (i := i) (VEv.tmp (t := (T.str a)) rfl) (VEv.tmp (t := (T.int .i64 ((i : Nat) : Int))) rfl) rfl hb3 Try.underlying9 (bAt_eq hb3)) ?_
          refine VRunO.free (VWant.on (b := (!(decide (bAt a i = 63)))) rfl rfl hg18_2) (B.lss (c := (decide (bAt a i < 97))) (VEv.tmp (t := (T.int .u8 (bAt a i))) rfl) (VEv.int .u8 97) rfl) ?_
          refine VRunO.free (VWant.on (b := (!(decide (bAt a i = 63)))) rfl rfl hg18_2) (OF.move (VEv.tmp (t := (T.bool (decide (bAt a i < 97)))) rfl)) ?_
          refine bool_way (decide (bAt a i < 97)) (fun hg23_4 => ?_) (fun hg23_4 => ?_)
          · have fhg23_4 : bAt a i < 97 := of_decide_eq_true hg23_4
            refine VRunO.off (VWant.not (b := (decide (bAt a i < 97))) rfl rfl hg23_4) ?_
            refine VRunO.off (VWant.not (b := (decide (bAt a i < 97))) rfl rfl hg23_4) ?_
            refine VRunO.off (VWant.not (b := (decide (bAt a i < 97))) rfl rfl hg23_4) ?_
            refine VRunO.off (VWant.not (b := (decide (bAt a i < 97))) rfl rfl hg23_4) ?_
            refine VRunO.free (VWant.on (b := (!(decide (bAt a i = 63)))) rfl rfl hg18_2) (OF.pickT (VEv.tmpB (b := (decide (bAt a i < 97))) rfl hg23_4) (VEv.bool true)) ?_
            refine VRunO.free VWant.always (OF.pickT (VEv.tmpB (b := (!(decide (bAt a i = 63)))) rfl hg18_2) (VEv.tmp (t := (T.bool true)) rfl)) ?_
            refine VRunO.nil ?_
            refine vthn.n ?_
            refine VRun.cond (VEv.tmp (t := (T.bool true)) rfl) (fun hk5 => ?_) (fun hk5 => ?_)
            · skip
              refine VRun.seq ?_
              refine VRun.region ?_
              refine VRunO.free VWant.always (OF.assign (VEv.bool false)) ?_
              refine VRunO.nil ?_
              refine vthn.n ?_
              refine VRun.ret ?_
              refine vinB.r ?_
              refine vthn.r ?_
              refine vthn.r ?_
              refine vinB.r ?_
              refine vthn.r ?_
              refine vfin.eq (r' := (T.bool false)) ?_ (vfin.r (VRes.tmp (t := (T.bool false)) rfl VRes.nil) (Give.bool _))
              show (T.bool false) = (T.bool (decide (isPat a)))
              refine congrArg T.bool ?_
              first | (symm; rw [decide_eq_true_eq]; exact ⟨by omega, allEnd hI' fhc1⟩) | (symm; rw [decide_eq_false_iff_not]; rintro ⟨h1, h2⟩; first | omega | (have := h2 i fhc1; omega))
            · exact absurd (rfl.symm.trans hk5) (by decide)
          · have fhg23_4 : ¬ (bAt a i < 97) := of_decide_eq_false hg23_4
            refine VRunO.free (VWant.on (b := (decide (bAt a i < 97))) rfl rfl hg23_4) (OF.move (VEv.tmp (t := (T.str a)) rfl)) ?_
            refine VRunO.free (VWant.on (b := (decide (bAt a i < 97))) rfl rfl hg23_4) (OF.move (VEv.tmp (t := (T.int .i64 ((i : Nat) : Int))) rfl)) ?_
            have hb6 : i < a.size := (by first | omega | (simp only [List.length_map]; omega) | (simp only [List.length_map, List.length_append, List.length_cons, List.length_nil, List.length_replicate, List.length_set, List.length_drop, List.length_take, lim] at *; omega))
            refine VRunO.free (VWant.on (b := (decide (bAt a i < 97))) rfl rfl hg23_4) (B.index (n := (bAt a i)) (i := i) (VEv.tmp (t := (T.str a)) rfl) (VEv.tmp (t := (T.int .i64 ((i : Nat) : Int))) rfl) rfl hb6 Try.underlying9 (bAt_eq hb6)) ?_
            refine VRunO.free (VWant.on (b := (decide (bAt a i < 97))) rfl rfl hg23_4) (B.gtr (c := (decide (122 < bAt a i))) (VEv.tmp (t := (T.int .u8 (bAt a i))) rfl) (VEv.int .u8 122) rfl) ?_
            refine VRunO.free (VWant.on (b := (!(decide (bAt a i = 63)))) rfl rfl hg18_2) (OF.pickF (VEv.tmpB (b := (decide (bAt a i < 97))) rfl hg23_4) (VEv.tmp (t := (T.bool (decide (122 < bAt a i)))) rfl)) ?_
            refine VRunO.free VWant.always (OF.pickT (VEv.tmpB (b := (!(decide (bAt a i = 63)))) rfl hg18_2) (VEv.tmp (t := (T.bool (decide (122 < bAt a i)))) rfl)) ?_
            refine VRunO.nil ?_
            refine vthn.n ?_
            refine VRun.cond (VEv.tmp (t := (T.bool (decide (122 < bAt a i)))) rfl) (fun hc2 => ?_) (fun hc2 => ?_)
            · have fhc2 : 122 < bAt a i := of_decide_eq_true hc2
              refine VRun.seq ?_
              refine VRun.region ?_
              refine VRunO.free VWant.always (OF.assign (VEv.bool false)) ?_
              refine VRunO.nil ?_
              refine vthn.n ?_
              refine VRun.ret ?_
              refine vinB.r ?_
              refine vthn.r ?_
              refine vthn.r ?_
              refine vinB.r ?_
              refine vthn.r ?_
              refine vfin.eq (r' := (T.bool false)) ?_ (vfin.r (VRes.tmp (t := (T.bool false)) rfl VRes.nil) (Give.bool _))
              show (T.bool false) = (T.bool (decide (isPat a)))
              refine congrArg T.bool ?_
              first | (symm; rw [decide_eq_true_eq]; exact ⟨by omega, allEnd hI' fhc1⟩) | (symm; rw [decide_eq_false_iff_not]; rintro ⟨h1, h2⟩; first | omega | (have := h2 i fhc1; omega))
            · have fhc2 : ¬ (122 < bAt a i) := of_decide_eq_false hc2
              refine VRun.skip ?_
              refine vinB.n ?_
              refine vthn.n ?_
              refine VRun.region ?_
              refine VRunO.free VWant.always (OF.move (VEv.tmp (t := (T.int .i64 ((i : Nat) : Int))) rfl)) ?_
              refine VRunO.free VWant.always (B.add (n := (((i + 1) : Nat) : Int)) (VEv.tmp (t := (T.int .i64 ((i : Nat) : Int))) rfl) (VEv.int .i64 1) (by first | rfl | (rw [wrap64 (by omega)]; done) | (rw [wrap64 (by omega)]; omega) | (rw [wrap64 (by omega)]; push_cast; omega) | omega)) ?_
              refine VRunO.free VWant.always (OF.assign (VEv.tmp (t := (T.int .i64 (((i + 1) : Nat) : Int))) rfl)) ?_
              refine VRunO.nil ?_
              refine vthn.n ?_
              refine ⟨(i + 1 : Nat), ?_, ?_, Wk.mk (fun k => k) ?_ ?_ ?_⟩
              · exact allNext (ok := fun j => bAt a j = 63 ∨ (97 ≤ bAt a j ∧ bAt a j ≤ 122)) hI' fhc1 (by omega)
              · first | omega | (simp only []; omega) | (show _ < _; omega) | (simp; omega)
              · exact (ball_cons ⟨rfl, rfl⟩ (ball_cons ⟨rfl, rfl⟩ (ball_nil)))
              · exact (ball_nil)
              · show List.Nodup ([] : List Nat)
                decide
        · have fhg18_2 : bAt a i = 63 := ndF hg18_2
          refine VRunO.off (VWant.not (b := (!(decide (bAt a i = 63)))) rfl rfl hg18_2) ?_
          refine VRunO.off (VWant.not (b := (!(decide (bAt a i = 63)))) rfl rfl hg18_2) ?_
          refine VRunO.off (VWant.not (b := (!(decide (bAt a i = 63)))) rfl rfl hg18_2) ?_
          refine VRunO.off (VWant.not (b := (!(decide (bAt a i = 63)))) rfl rfl hg18_2) ?_
          refine VRunO.off (VWant.not (b := (!(decide (bAt a i = 63)))) rfl rfl hg18_2) ?_
          refine VRunO.off (VWant.undef rfl rfl) ?_
          refine VRunO.off (VWant.undef rfl rfl) ?_
          refine VRunO.off (VWant.undef rfl rfl) ?_
          refine VRunO.off (VWant.undef rfl rfl) ?_
          refine VRunO.off (VWant.not (b := (!(decide (bAt a i = 63)))) rfl rfl hg18_2) ?_
          refine VRunO.free VWant.always (OF.pickF (VEv.tmpB (b := (!(decide (bAt a i = 63)))) rfl hg18_2) (VEv.bool false)) ?_
          refine VRunO.nil ?_
          refine vthn.n ?_
          refine VRun.cond (VEv.tmp (t := (T.bool false)) rfl) (fun hk7 => ?_) (fun hk7 => ?_)
          · exact absurd (rfl.symm.trans hk7) (by decide)
          · skip
            refine VRun.skip ?_
            refine vinB.n ?_
            refine vthn.n ?_
            refine VRun.region ?_
            refine VRunO.free VWant.always (OF.move (VEv.tmp (t := (T.int .i64 ((i : Nat) : Int))) rfl)) ?_
            refine VRunO.free VWant.always (B.add (n := (((i + 1) : Nat) : Int)) (VEv.tmp (t := (T.int .i64 ((i : Nat) : Int))) rfl) (VEv.int .i64 1) (by first | rfl | (rw [wrap64 (by omega)]; done) | (rw [wrap64 (by omega)]; omega) | (rw [wrap64 (by omega)]; push_cast; omega) | omega)) ?_
            refine VRunO.free VWant.always (OF.assign (VEv.tmp (t := (T.int .i64 (((i + 1) : Nat) : Int))) rfl)) ?_
            refine VRunO.nil ?_
            refine vthn.n ?_
            refine ⟨(i + 1 : Nat), ?_, ?_, Wk.mk (fun k => k) ?_ ?_ ?_⟩
            · exact allNext (ok := fun j => bAt a j = 63 ∨ (97 ≤ bAt a j ∧ bAt a j ≤ 122)) hI' fhc1 (by omega)
            · first | omega | (simp only []; omega) | (show _ < _; omega) | (simp; omega)
            · exact (ball_cons ⟨rfl, rfl⟩ (ball_cons ⟨rfl, rfl⟩ (ball_nil)))
            · exact (ball_nil)
            · show List.Nodup ([] : List Nat)
              decide
      · have fhc1 : ¬ (i < a.size) := of_decide_eq_false hc1
        refine VRun.exit ?_
        refine vthn.e ?_
        refine vthn.e ?_
        refine vinB.e ?_
        refine vthn.n ?_
        refine VRun.seq ?_
        refine VRun.region ?_
        refine VRunO.free VWant.always (OF.assign (VEv.bool true)) ?_
        refine VRunO.nil ?_
        refine vthn.n ?_
        refine VRun.ret ?_
        refine vfin.eq (r' := (T.bool true)) ?_ (vfin.r (VRes.tmp (t := (T.bool true)) rfl VRes.nil) (Give.bool _))
        show (T.bool true) = (T.bool (decide (isPat a)))
        refine congrArg T.bool ?_
        first | (symm; rw [decide_eq_true_eq]; exact ⟨by omega, allEnd hI' fhc1⟩) | (symm; rw [decide_eq_false_iff_not]; rintro ⟨h1, h2⟩; first | omega | (have := h2 i fhc1; omega))
theorem W_impl_IsPattern (n : Nat) (a : ByteArray) (ha : a.size ≤ maxLen) : Pure (acall Try.prog (n + 2)) 47 [(T.str a)] (T.bool (decide (isPat a))) := by
  refine Pure.intro (rs := [ResultVar.tmp 2]) Try.func47 rfl rfl rfl (E0 := [(0, (T.str a))]) rfl ?_
  have hlim : lim = 1099511627776 := rfl
  have hmx : mx = 1048576 := rfl
  have hmax : maxLen = 9223372036854775807 := rfl
  refine VRun.seq ?_
  refine VRun.region ?_
  refine VRunO.free VWant.always (OF.assign (VEv.bool false)) ?_
  refine VRunO.nil ?_
  refine vthn.n ?_
  refine VRun.seq ?_
  refine VRun.seq ?_
  refine VRun.region ?_
  refine VRunO.free VWant.always (OF.move (VEv.tmp (t := (T.str a)) rfl)) ?_
  refine VRunO.look VWant.always (B.lenS (VEv.tmp (t := (T.str a)) rfl) Try.underlying9) ?_
  refine VRunO.chain VWant.always (OC.callF (us := [(T.int .i64 ((a.size : Nat) : Int)), (T.int .i64 1), (T.int .i64 8)]) (r := (T.bool (decide (1 ≤ ((a.size : Nat) : Int) ∧ ((a.size : Nat) : Int) ≤ 8)))) (r' := (T.bool (decide (1 ≤ ((a.size : Nat) : Int) ∧ ((a.size : Nat) : Int) ≤ 8)))) (objs := []) rfl (VEvs.cons (VEv.tmp (t := (T.int .i64 ((a.size : Nat) : Int))) rfl) (VEvs.cons (VEv.int .i64 1) (VEvs.cons (VEv.int .i64 8) VEvs.nil))) (LendL.cons (Lend.pl rfl) (LendL.cons (Lend.pl rfl) (LendL.cons (Lend.pl rfl) (LendL.nil)))) (W_impl_InRange (n + 0) ((a.size : Nat) : Int) 1 8 ) rfl) ?_
  refine VRunO.free VWant.always (B.not (c := (!(decide (1 ≤ ((a.size : Nat) : Int) ∧ ((a.size : Nat) : Int) ≤ 8)))) (VEv.tmp (t := (T.bool (decide (1 ≤ ((a.size : Nat) : Int) ∧ ((a.size : Nat) : Int) ≤ 8)))) rfl) rfl) ?_
  refine VRunO.nil ?_
  refine vthn.n ?_
  refine VRun.cond (VEv.tmp (t := (T.bool (!(decide (1 ≤ ((a.size : Nat) : Int) ∧ ((a.size : Nat) : Int) ≤ 8))))) rfl) (fun hc0 => ?_) (fun hc0 => ?_)
  · have fhc0 : ¬ (1 ≤ ((a.size : Nat) : Int) ∧ ((a.size : Nat) : Int) ≤ 8) := ndT hc0
    refine VRun.seq ?_
    refine VRun.region ?_
    refine VRunO.free VWant.always (OF.assign (VEv.bool false)) ?_
    refine VRunO.nil ?_
    refine vthn.n ?_
    refine VRun.ret ?_
    refine vthn.r ?_
    refine vfin.eq (r' := (T.bool false)) ?_ (vfin.r (VRes.tmp (t := (T.bool false)) rfl VRes.nil) (Give.bool _))
    show (T.bool false) = (T.bool (decide (isPat a)))
    refine congrArg T.bool ?_
    first | (symm; rw [decide_eq_true_eq]; exact ⟨by omega, allEnd hI' fhc1⟩) | (symm; rw [decide_eq_false_iff_not]; rintro ⟨h1, h2⟩; first | omega | (have := h2 i fhc1; omega))
  · have fhc0 : 1 ≤ ((a.size : Nat) : Int) ∧ ((a.size : Nat) : Int) ≤ 8 := ndF hc0
    refine VRun.skip ?_
    refine vthn.n ?_
    refine VRun.seq ?_
    refine VRun.seq ?_
    refine VRun.region ?_
    refine VRunO.free VWant.always (OF.move (VEv.tmp (t := (T.str a)) rfl)) ?_
    refine VRunO.look VWant.always (B.lenS (VEv.tmp (t := (T.str a)) rfl) Try.underlying9) ?_
    refine VRunO.free VWant.always (OF.move (VEv.int .i64 0)) ?_
    refine VRunO.nil ?_
    refine vthn.n ?_
    refine VRun.block ?_
    refine VRun.loop (A := Nat) (fun s_ => [(0, (T.str a)), (9, (T.int .i64 ((a.size : Nat) : Int))), (10, (T.int .i64 ((s_ : Nat) : Int)))]) (fun s_ => mkO []) 0 (fun s_ => s_ ≤ a.size ∧ ∀ j, j < s_ → bAt a j = 63 ∨ (97 ≤ bAt a j ∧ bAt a j ≤ 122)) (fun s_ => a.size - s_) (0 : Nat) ?_ (Wk.mk (fun k => k) ?_ ?_ ?_) ?_
    · exact ⟨Nat.zero_le _, fun j hj => by omega⟩
    · exact (ball_cons ⟨rfl, rfl⟩ (ball_cons ⟨rfl, rfl⟩ (ball_cons ⟨(congrArg (T.int .i64) (show 0 = ((0 : Nat) : Int) from (by first | rfl | omega | (simp; done) | (push_cast; omega)))), rfl⟩ (ball_nil))))
    · exact (ball_nil)
    · show List.Nodup ([] : List Nat)
      decide
    · rintro i hI
      have hI' : i ≤ a.size ∧ ∀ j, j < i → bAt a j = 63 ∨ (97 ≤ bAt a j ∧ bAt a j ≤ 122) := hI
      clear hI
      show VRun _ _ _ [(0, (T.str a)), (9, (T.int .i64 ((a.size : Nat) : Int))), (10, (T.int .i64 ((i : Nat) : Int)))] (mkO []) 0 _
      refine VRun.seq ?_
      refine VRun.region ?_
      refine VRunO.free VWant.always (B.lss (c := (decide (i < a.size))) (VEv.tmp (t := (T.int .i64 ((i : Nat) : Int))) rfl) (VEv.tmp (t := (T.int .i64 ((a.size : Nat) : Int))) rfl) (by first | (exact decN (by omega)))) ?_
      refine VRunO.nil ?_
      refine vthn.n ?_
      refine VRun.seq ?_
      refine VRun.cond (VEv.tmp (t := (T.bool (decide (i < a.size)))) rfl) (fun hc1 => ?_) (fun hc1 => ?_)
      · have fhc1 : i < a.size := of_decide_eq_true hc1
        refine VRun.skip ?_
        refine vthn.n ?_
        refine VRun.seq ?_
        refine VRun.block ?_
        refine VRun.seq ?_
        refine VRun.region ?_
        refine VRunO.free VWant.always (OF.move (VEv.tmp (t := (T.int .i64 ((i : Nat) : Int))) rfl)) ?_
        refine VRunO.free VWant.always (OF.assign (VEv.tmp (t := (T.int .i64 ((i : Nat) : Int))) rfl)) ?_
        refine VRunO.nil ?_
        refine vthn.n ?_
        refine VRun.seq ?_
        refine VRun.region ?_
        refine VRunO.free VWant.always (OF.move (VEv.tmp (t := (T.str a)) rfl)) ?_
        refine VRunO.free VWant.always (OF.move (VEv.tmp (t := (T.int .i64 ((i : Nat) : Int))) rfl)) ?_
        have hb1 : i < a.size := (by first | omega | (simp only [List.length_map]; omega) | (simp only [List.length_map, List.length_append, List.length_cons, List.length_nil, List.length_replicate, List.length_set, List.length_drop, List.length_take, lim] at *; omega))
        refine VRunO.free VWant.always (B.index (n := (bAt a i)) (i := i) (VEv.tmp (t := (T.str a)) rfl) (VEv.tmp (t := (T.int .i64 ((i : Nat) : Int))) rfl) rfl hb1 Try.underlying9 (bAt_eq hb1)) ?_
        refine VRunO.free VWant.always (B.neq (c := (!(decide (bAt a i = 63)))) (VEv.tmp (t := (T.int .u8 (bAt a i))) rfl) (VEv.int .u8 63) rfl) ?_
        refine VRunO.free VWant.always (OF.move (VEv.tmp (t := (T.bool (!(decide (bAt a i = 63))))) rfl)) ?_
        refine bool_way (!(decide (bAt a i = 63))) (fun hg17_2 => ?_) (fun hg17_2 => ?_)
        · have fhg17_2 : ¬ (bAt a i = 63) := ndT hg17_2
          refine VRunO.free (VWant.on (b := (!(decide (bAt a i = 63)))) rfl rfl hg17_2) (OF.move (VEv.tmp (t := (T.str a)) rfl)) ?_
          refine VRunO.free (VWant.on (b := (!(decide (bAt a i = 63)))) rfl rfl hg17_2) (OF.move (VEv.tmp (t := (T.int .i64 ((i : Nat) : Int))) rfl)) ?_
          have hb3 : i < a.size := (by first | omega | (simp only [List.length_map]; omega) | (simp only [List.length_map, List.length_append, List.length_cons, List.length_nil, List.length_replicate, List.length_set, List.length_drop, List.length_take, lim] at *; omega))
          refine VRunO.free (VWant.on (b := (!(decide (bAt a i = 63)))) rfl rfl hg17_2) (B.index (n := (bAt a i)) (i := i) (VEv.tmp (t := (T.str a)) rfl) (VEv.tmp (t := (T.int .i64 ((i : Nat) : Int))) rfl) rfl hb3 Try.underlying9 (bAt_eq hb3)) ?_
          refine VRunO.chain (VWant.on (b := (!(decide (bAt a i = 63)))) rfl rfl hg17_2) (OC.callF (us := [(T.int .u8 (bAt a i))]) (r := (T.bool (decide (97 ≤ (bAt a i) ∧ (bAt a i) ≤ 122)))) (r' := (T.bool (decide (97 ≤ (bAt a i) ∧ (bAt a i) ≤ 122)))) (objs := []) rfl (VEvs.cons (VEv.tmp (t := (T.int .u8 (bAt a i))) rfl) VEvs.nil) (LendL.cons (Lend.pl rfl) (LendL.nil)) (W_impl_isLetter (n + 0) (bAt a i) ) rfl) ?_
          refine VRunO.free (VWant.on (b := (!(decide (bAt a i = 63)))) rfl rfl hg17_2) (B.not (c := (!(decide (97 ≤ (bAt a i) ∧ (bAt a i) ≤ 122)))) (VEv.tmp (t := (T.bool (decide (97 ≤ (bAt a i) ∧ (bAt a i) ≤ 122)))) rfl) rfl) ?_
          refine VRunO.free VWant.always (OF.pickT (VEv.tmpB (b := (!(decide (bAt a i = 63)))) rfl hg17_2) (VEv.tmp (t := (T.bool (!(decide (97 ≤ (bAt a i) ∧ (bAt a i) ≤ 122))))) rfl)) ?_
          refine VRunO.nil ?_
          refine vthn.n ?_
          refine VRun.cond (VEv.tmp (t := (T.bool (!(decide (97 ≤ (bAt a i) ∧ (bAt a i) ≤ 122))))) rfl) (fun hc2 => ?_) (fun hc2 => ?_)
          · have fhc2 : ¬ (97 ≤ (bAt a i) ∧ (bAt a i) ≤ 122) := ndT hc2
            refine VRun.seq ?_
            refine VRun.region ?_
            refine VRunO.free VWant.always (OF.assign (VEv.bool false)) ?_
            refine VRunO.nil ?_
            refine vthn.n ?_
            refine VRun.ret ?_
            refine vinB.r ?_
            refine vthn.r ?_
            refine vthn.r ?_
            refine vinB.r ?_
            refine vthn.r ?_
            refine vfin.eq (r' := (T.bool false)) ?_ (vfin.r (VRes.tmp (t := (T.bool false)) rfl VRes.nil) (Give.bool _))
            show (T.bool false) = (T.bool (decide (isPat a)))
            refine congrArg T.bool ?_
            first | (symm; rw [decide_eq_true_eq]; exact ⟨by omega, allEnd hI' fhc1⟩) | (symm; rw [decide_eq_false_iff_not]; rintro ⟨h1, h2⟩; first | omega | (have := h2 i fhc1; omega))
          · have fhc2 : 97 ≤ (bAt a i) ∧ (bAt a i) ≤ 122 := ndF hc2
            refine VRun.skip ?_
            refine vinB.n ?_
            refine vthn.n ?_
            refine VRun.region ?_
            refine VRunO.free VWant.always (B.add (n := (((i + 1) : Nat) : Int)) (VEv.tmp (t := (T.int .i64 ((i : Nat) : Int))) rfl) (VEv.int .i64 1) (by first | rfl | (rw [wrap64 (by omega)]; done) | (rw [wrap64 (by omega)]; omega) | (rw [wrap64 (by omega)]; push_cast; omega) | omega)) ?_
            refine VRunO.free VWant.always (OF.move (VEv.tmp (t := (T.int .i64 (((i + 1) : Nat) : Int))) rfl)) ?_
            refine VRunO.nil ?_
            refine vthn.n ?_
            refine ⟨(i + 1 : Nat), ?_, ?_, Wk.mk (fun k => k) ?_ ?_ ?_⟩
            · exact allNext (ok := fun j => bAt a j = 63 ∨ (97 ≤ bAt a j ∧ bAt a j ≤ 122)) hI' fhc1 (by omega)
            · first | omega | (simp only []; omega) | (show _ < _; omega) | (simp; omega)
            · exact (ball_cons ⟨rfl, rfl⟩ (ball_cons ⟨rfl, rfl⟩ (ball_cons ⟨rfl, rfl⟩ (ball_nil))))
            · exact (ball_nil)
            · show List.Nodup ([] : List Nat)
              decide
        · have fhg17_2 : bAt a i = 63 := ndF hg17_2
          refine VRunO.off (VWant.not (b := (!(decide (bAt a i = 63)))) rfl rfl hg17_2) ?_
          refine VRunO.off (VWant.not (b := (!(decide (bAt a i = 63)))) rfl rfl hg17_2) ?_
          refine VRunO.off (VWant.not (b := (!(decide (bAt a i = 63)))) rfl rfl hg17_2) ?_
          refine VRunO.off (VWant.not (b := (!(decide (bAt a i = 63)))) rfl rfl hg17_2) ?_
          refine VRunO.off (VWant.not (b := (!(decide (bAt a i = 63)))) rfl rfl hg17_2) ?_
          refine VRunO.free VWant.always (OF.pickF (VEv.tmpB (b := (!(decide (bAt a i = 63)))) rfl hg17_2) (VEv.bool false)) ?_
          refine VRunO.nil ?_
          refine vthn.n ?_
          refine VRun.cond (VEv.tmp (t := (T.bool false)) rfl) (fun hk4 => ?_) (fun hk4 => ?_)
          · exact absurd (rfl.symm.trans hk4) (by decide)
          · skip
            refine VRun.skip ?_
            refine vinB.n ?_
            refine vthn.n ?_
            refine VRun.region ?_
            refine VRunO.free VWant.always (B.add (n := (((i + 1) : Nat) : Int)) (VEv.tmp (t := (T.int .i64 ((i : Nat) : Int))) rfl) (VEv.int .i64 1) (by first | rfl | (rw [wrap64 (by omega)]; done) | (rw [wrap64 (by omega)]; omega) | (rw [wrap64 (by omega)]; push_cast; omega) | omega)) ?_
            refine VRunO.free VWant.always (OF.move (VEv.tmp (t := (T.int .i64 (((i + 1) : Nat) : Int))) rfl)) ?_
            refine VRunO.nil ?_
            refine vthn.n ?_
            refine ⟨(i + 1 : Nat), ?_, ?_, Wk.mk (fun k => k) ?_ ?_ ?_⟩
            · exact allNext (ok := fun j => bAt a j = 63 ∨ (97 ≤ bAt a j ∧ bAt a j ≤ 122)) hI' fhc1 (by omega)
            · first | omega | (simp only []; omega) | (show _ < _; omega) | (simp; omega)
            · exact (ball_cons ⟨rfl, rfl⟩ (ball_cons ⟨rfl, rfl⟩ (ball_cons ⟨rfl, rfl⟩ (ball_nil))))
            · exact (ball_nil)
            · show List.Nodup ([] : List Nat)
              decide
      · have fhc1 : ¬ (i < a.size) := of_decide_eq_false hc1
        refine VRun.exit ?_
        refine vthn.e ?_
        refine vthn.e ?_
        refine vinB.e ?_
        refine vthn.n ?_
        refine VRun.seq ?_
        refine VRun.region ?_
        refine VRunO.free VWant.always (OF.assign (VEv.bool true)) ?_
        refine VRunO.nil ?_
        refine vthn.n ?_
        refine VRun.ret ?_
        refine vfin.eq (r' := (T.bool true)) ?_ (vfin.r (VRes.tmp (t := (T.bool true)) rfl VRes.nil) (Give.bool _))
        show (T.bool true) = (T.bool (decide (isPat a)))
        refine congrArg T.bool ?_
        first | (symm; rw [decide_eq_true_eq]; exact ⟨by omega, allEnd hI' fhc1⟩) | (symm; rw [decide_eq_false_iff_not]; rintro ⟨h1, h2⟩; first | omega | (have := h2 i fhc1; omega))
noncomputable section
def laterN (a b : D.Note) : Bool := if a.Tick = b.Tick then (if a.Who = b.Who then !(Op.bytesLess a.Letter.toList b.Letter.toList || decide (a.Letter = b.Letter)) else decide (b.Who < a.Who)) else decide (b.Tick < a.Tick)
def noteOk (l : List D.Note) (j : Nat) : Prop := ∃ x, l[j]? = some x ∧ (0 ≤ x.Cell ∧ x.Cell ≤ 35) ∧ x.Letter.size = 1 ∧ isPat x.Letter ∧ (0 ≤ x.Tick ∧ x.Tick ≤ 1000) ∧ (1 ≤ x.Who ∧ x.Who ≤ 9) ∧ (0 < j → ∃ y, l[j - 1]? = some y ∧ y.Cell < x.Cell)
def areNotes (l : List D.Note) : Prop := l.length ≤ 40 ∧ ∀ j, j < l.length → noteOk l j
instance (l : List D.Note) : Decidable (areNotes l) := Classical.propDecidable _
end
theorem W_spec_AreNotes (n : Nat) (a : List D.Note) (hz : zL zNote a ≤ mx) : Pure (acall Try.prog (n + 3)) 30 [(T.sl false 4 (a.map (eNote false)))] (T.bool (decide (areNotes a))) := by
  refine Pure.intro (rs := [ResultVar.tmp 2]) Try.func30 rfl rfl rfl (E0 := [(0, (T.sl false 4 (a.map (eNote false))))]) rfl ?_
  have hlim : lim = 1099511627776 := rfl
  have hmx : mx = 1048576 := rfl
  have hmax : maxLen = 9223372036854775807 := rfl
  have ha := zL_len (z := zNote) a
  have hw : ∀ x ∈ a, x.Letter.size ≤ maxLen := fun x hx => by have h1 := zL_mem (z := zNote) hx; simp only [zNote] at h1; omega
  refine VRun.seq ?_
  refine VRun.region ?_
  refine VRunO.free VWant.always (OF.assign (VEv.bool false)) ?_
  refine VRunO.nil ?_
  refine vthn.n ?_
  refine VRun.seq ?_
  refine VRun.seq ?_
  refine VRun.region ?_
  refine VRunO.free VWant.always (OF.assign (VEv.int .i64 0)) ?_
  refine VRunO.nil ?_
  refine vthn.n ?_
  refine VRun.block ?_
  refine VRun.loop (A := Nat) (fun s_ => [(0, (T.sl false 4 (a.map (eNote false)))), (3, (T.int .i64 ((s_ : Nat) : Int)))]) (fun s_ => mkO []) 0 (fun s_ => s_ ≤ a.length ∧ ∀ j, j < s_ → noteOk a j) (fun s_ => a.length - s_) (0 : Nat) ?_ (Wk.mk (fun k => k) ?_ ?_ ?_) ?_
  · exact ⟨Nat.zero_le _, fun j hj => by omega⟩
  · exact (ball_cons ⟨rfl, rfl⟩ (ball_cons ⟨(congrArg (T.int .i64) (show 0 = ((0 : Nat) : Int) from (by first | rfl | omega | (simp; done) | (push_cast; omega)))), rfl⟩ (ball_nil)))
  · exact (ball_nil)
  · show List.Nodup ([] : List Nat)
    decide
  · rintro i hI
    have hI' : i ≤ a.length ∧ ∀ j, j < i → noteOk a j := hI
    clear hI
    show VRun _ _ _ [(0, (T.sl false 4 (a.map (eNote false)))), (3, (T.int .i64 ((i : Nat) : Int)))] (mkO []) 0 _
    have hI0 := hI'
    refine VRun.seq ?_
    refine VRun.seq ?_
    refine VRun.region ?_
    refine VRunO.free VWant.always (OF.move (VEv.tmp (t := (T.int .i64 ((i : Nat) : Int))) rfl)) ?_
    refine VRunO.free VWant.always (OF.move (VEv.tmp (t := (T.sl false 4 (a.map (eNote false)))) rfl)) ?_
    refine VRunO.look VWant.always (B.lenR (m := a.length) (VEv.tmp (t := (T.sl false 4 (a.map (eNote false)))) rfl) Try.underlying39 (List.length_map ..)) ?_
    refine VRunO.free VWant.always (B.lss (c := (decide (i < a.length))) (VEv.tmp (t := (T.int .i64 ((i : Nat) : Int))) rfl) (VEv.tmp (t := (T.int .i64 ((a.length : Nat) : Int))) rfl) (by first | exact hw _ (List.mem_of_getElem? hx1) | (exact decN (by omega)))) ?_
    refine VRunO.nil ?_
    refine vthn.n ?_
    refine VRun.cond (VEv.tmp (t := (T.bool (decide (i < a.length)))) rfl) (fun hc0 => ?_) (fun hc0 => ?_)
    · have fhc0 : i < a.length := of_decide_eq_true hc0
      refine VRun.skip ?_
      refine vthn.n ?_
      refine VRun.seq ?_
      refine VRun.block ?_
      refine VRun.seq ?_
      refine VRun.region ?_
      refine VRunO.free VWant.always (OF.move (VEv.tmp (t := (T.sl false 4 (a.map (eNote false)))) rfl)) ?_
      refine VRunO.free VWant.always (OF.move (VEv.tmp (t := (T.int .i64 ((i : Nat) : Int))) rfl)) ?_
      obtain ⟨x1, hx1⟩ : ∃ x, a[i]? = some x := ⟨_, List.getElem?_eq_getElem (by first | exact hw _ (List.mem_of_getElem? hx1) | omega | (simp only [List.length_map]; omega) | (simp only [List.length_map, List.length_append, List.length_cons, List.length_nil, List.length_replicate, List.length_set, List.length_drop, List.length_take, lim] at *; omega))⟩
      refine VRunO.free VWant.always (OF.indexAddrR (row := (eNote false x1)) (i := i) (VEv.tmp (t := (T.sl false 4 (a.map (eNote false)))) rfl) (VEv.tmp (t := (T.int .i64 ((i : Nat) : Int))) rfl) rfl (map_at _ hx1) Try.underlying39 sz26 if26) ?_
      refine VRunO.look VWant.always (OL.loadRn (us := (eNote false x1)) (VEv.tmp (t := (T.rp [(T.int .i64 x1.Cell), (T.str x1.Letter), (T.int .i64 x1.Tick), (T.int .i64 x1.Who)])) rfl) st26 sz26 (Nat.le_of_ble_eq_true rfl) rfl) ?_
      refine VRunO.make VWant.always (B.alloc (t := (T.agg [(T.int .i64 0), (T.str ByteArray.empty), (T.int .i64 0), (T.int .i64 0)])) (ts := [(T.int .i64 0), (T.str ByteArray.empty), (T.int .i64 0), (T.int .i64 0)]) zo26 zc26 nofun (fun _ => .agg _ _ rfl (RLof (RL.cons (.int _ _) (RL.cons (.str _) (RL.cons (.int _ _) (RL.cons (.int _ _) (RL.nil _))))))) rfl) ?_
      refine VRunO.chain VWant.always (B.storeO (us := [(T.int .i64 x1.Cell), (T.str x1.Letter), (T.int .i64 x1.Tick), (T.int .i64 x1.Who)]) (ws := [(T.int .i64 x1.Cell), (T.str x1.Letter), (T.int .i64 x1.Tick), (T.int .i64 x1.Who)]) (VEv.tmp (t := (T.op 0 0)) rfl) (VEv.tmp (t := (T.agg (eNote false x1))) rfl) nofun rfl rfl (Nat.le_of_ble_eq_true rfl) if26 sz26 (ball_cons rfl (ball_cons rfl (ball_cons rfl (ball_cons rfl (ball_nil))))) rfl) ?_
      refine VRunO.nil ?_
      refine vthn.n ?_
      refine VRun.seq ?_
      refine VRun.draw (B := [[], [0], [0, 1], [1, 0, 2], [2, 0, 1, 3], [3, 1, 0, 2, 4], [4, 2, 0, 1, 3, 5], [5, 3, 1, 0, 2, 4, 6], [6, 4, 2, 0, 1, 3, 5, 7], [6, 4, 2, 0, 1, 3, 5, 7], [7, 5, 3, 1, 0, 2, 4, 6, 9], [9, 10, 7, 5, 3, 1, 0, 2, 4, 6, 8], [8, 6, 4, 2, 0, 1, 3, 5, 7, 10, 9, 11], [11, 9, 10, 7, 5, 3, 1, 0, 2, 4, 6, 8, 12], [6, 4, 2, 0, 1, 3, 5, 7], [7, 5, 3, 1, 0, 2, 4, 6, 14], [14, 15, 12, 8, 6, 4, 2, 0, 1, 3, 5, 7, 10, 9, 11, 13], [13, 11, 9, 10, 8, 12, 15, 14, 16, 6, 4, 2, 0, 1, 3, 5, 7], [7, 5, 6, 16, 14, 15, 12, 8, 10, 9, 11, 13, 17, 3, 1, 0, 2, 4], [4, 2, 0, 1, 3, 17, 13, 11, 9, 10, 8, 12, 15, 14, 16, 6, 5, 7, 18], [18, 7, 5, 6, 16, 14, 15, 12, 8, 10, 9, 11, 13, 17, 3, 1, 0, 2, 4, 19], [19, 4, 2, 0, 1, 3, 17, 13, 11, 9, 10, 8, 12, 15, 14, 16, 6, 5, 7, 18, 20], [20, 18, 7, 5, 6, 16, 14, 15, 12, 8, 10, 9, 11, 13, 17, 3, 1, 0, 2, 4, 19, 21], [21, 19, 4, 2, 0, 1, 3, 17, 13, 11, 9, 10, 8, 12, 15, 14, 16, 6, 5, 7, 18, 20, 22], [22, 20, 21, 23, 18, 7, 5, 6, 16, 14, 15, 12, 8, 10, 9, 11, 13, 17, 3, 1, 0, 2, 4, 19], [19, 4, 2, 0, 1, 3, 17, 13, 11, 9, 10, 8, 12, 15, 14, 16, 6, 5, 7, 18, 23, 21, 20, 22, 24], [24, 22, 20, 21, 23, 18, 7, 5, 6, 16, 14, 15, 12, 8, 10, 9, 11, 13, 17, 3, 1, 0, 2, 4, 19, 25], [25, 19, 4, 2, 0, 1, 3, 17, 13, 11, 9, 10, 8, 12, 15, 14, 16, 6, 5, 7, 18, 23, 21, 20, 22, 24, 26], [26, 24, 22, 20, 21, 23, 18, 7, 5, 6, 16, 14, 15, 12, 8, 10, 9, 11, 13, 17, 3, 1, 0, 2, 4, 19, 25, 27], [27, 25, 19, 4, 2, 0, 1, 3, 17, 13, 11, 9, 10, 8, 12, 15, 14, 16, 6, 5, 7, 18, 23, 21, 20, 22, 24, 26, 28], [28, 26, 27, 29, 24, 22, 20, 21, 23, 18, 7, 5, 6, 16, 14, 15, 12, 8, 10, 9, 11, 13, 17, 3, 1, 0, 2, 4, 19, 25], [25, 19, 4, 2, 0, 1, 3, 17, 13, 11, 9, 10, 8, 12, 15, 14, 16, 6, 5, 7, 18, 23, 21, 20, 22, 24, 29, 27, 26, 28, 30], [30, 28, 26, 27, 29, 24, 22, 20, 21, 23, 18, 7, 5, 6, 16, 14, 15, 12, 8, 10, 9, 11, 13, 17, 3, 1, 0, 2, 4, 19, 25, 31], [31, 25, 19, 4, 2, 0, 1, 3, 17, 13, 11, 9, 10, 8, 12, 15, 14, 16, 6, 5, 7, 18, 23, 21, 20, 22, 24, 29, 27, 26, 28, 30, 32], [32, 30, 28, 26, 27, 29, 24, 22, 20, 21, 23, 18, 7, 5, 6, 16, 14, 15, 12, 8, 10, 9, 11, 13, 17, 3, 1, 0, 2, 4, 19, 25, 31, 33], [33, 31, 25, 19, 4, 2, 0, 1, 3, 17, 13, 11, 9, 10, 8, 12, 15, 14, 16, 6, 5, 7, 18, 23, 21, 20, 22, 24, 29, 27, 26, 28, 30, 32, 34], [34, 32, 33, 35, 30, 28, 26, 27, 29, 24, 22, 20, 21, 23, 18, 7, 5, 6, 16, 14, 15, 12, 8, 10, 9, 11, 13, 17, 3, 1, 0, 2, 4, 19, 25, 31], [31, 25, 19, 4, 2, 0, 1, 3, 17, 13, 11, 9, 10, 8, 12, 15, 14, 16, 6, 5, 7, 18, 23, 21, 20, 22, 24, 29, 27, 26, 28, 30, 35, 33, 32, 34, 36], [36, 34, 32, 33, 35, 30, 28, 26, 27, 29, 24, 22, 20, 21, 23, 18, 7, 5, 6, 16, 14, 15, 12, 8, 10, 9, 11, 13, 17, 3, 1, 0, 2, 4, 19, 25, 31, 37], [37, 31, 25, 19, 4, 2, 0, 1, 3, 17, 13, 11, 9, 10, 8, 12, 15, 14, 16, 6, 5, 7, 18, 23, 21, 20, 22, 24, 29, 27, 26, 28, 30, 35, 33, 32, 34, 36, 38], [38, 36, 34, 32, 33, 35, 30, 28, 26, 27, 29, 24, 22, 20, 21, 23, 18, 7, 5, 6, 16, 14, 15, 12, 8, 10, 9, 11, 13, 17, 3, 1, 0, 2, 4, 19, 25, 31, 37, 39], [39, 37, 31, 25, 19, 4, 2, 0, 1, 3, 17, 13, 11, 9, 10, 8, 12, 15, 14, 16, 6, 5, 7, 18, 23, 21, 20, 22, 24, 29, 27, 26, 28, 30, 35, 33, 32, 34, 36, 38, 40], [40, 38, 39, 41, 36, 34, 32, 33, 35, 30, 28, 26, 27, 29, 24, 22, 20, 21, 23, 18, 7, 5, 6, 16, 14, 15, 12, 8, 10, 9, 11, 13, 17, 3, 1, 0, 2, 4, 19, 25, 31, 37]]) (by kernel_rfl) (by kernel_rfl) ?_
      refine VRunD.free rfl VWant.always rfl (OF.fieldAddrO (VEv.tmp (t := (T.op 0 0)) rfl) fa26_0) ?_
      refine VRunD.look rfl VWant.always rfl (OL.loadO1 (t := (T.int .i64 x1.Cell)) (VEv.tmp (t := (T.op 0 0)) rfl) rfl rfl st3) ?_
      refine VRunD.quiet (bi := [0, 1]) rfl VWant.always rfl rfl rfl (ball_nil) (OC.callF (us := [(T.int .i64 x1.Cell), (T.int .i64 0), (T.int .i64 35)]) (r := (T.bool (decide (0 ≤ x1.Cell ∧ x1.Cell ≤ 35)))) (r' := (T.bool (decide (0 ≤ x1.Cell ∧ x1.Cell ≤ 35)))) (objs := []) rfl (VEvs.cons (VEv.tmp (t := (T.int .i64 x1.Cell)) rfl) (VEvs.cons (VEv.int .i64 0) (VEvs.cons (VEv.int .i64 35) VEvs.nil))) (LendL.cons (Lend.pl rfl) (LendL.cons (Lend.pl rfl) (LendL.cons (Lend.pl rfl) (LendL.nil)))) (W_spec_l1In (n + 1) x1.Cell 0 35 ) rfl) ?_
      refine VRunD.free rfl VWant.always rfl (B.not (c := (!(decide (0 ≤ x1.Cell ∧ x1.Cell ≤ 35)))) (VEv.tmp (t := (T.bool (decide (0 ≤ x1.Cell ∧ x1.Cell ≤ 35)))) rfl) rfl) ?_
      refine VRunD.free rfl VWant.always rfl (OF.move (VEv.tmp (t := (T.bool (!(decide (0 ≤ x1.Cell ∧ x1.Cell ≤ 35))))) rfl)) ?_
      refine bool_way (!(decide (0 ≤ x1.Cell ∧ x1.Cell ≤ 35))) (fun hg19_1 => ?_) (fun hg19_1 => ?_)
      · have fhg19_1 : ¬ (0 ≤ x1.Cell ∧ x1.Cell ≤ 35) := ndT hg19_1
        refine VRunD.off rfl (VWant.not (b := (!(decide (0 ≤ x1.Cell ∧ x1.Cell ≤ 35)))) rfl rfl hg19_1) ?_
        refine VRunD.off rfl (VWant.not (b := (!(decide (0 ≤ x1.Cell ∧ x1.Cell ≤ 35)))) rfl rfl hg19_1) ?_
        refine VRunD.off rfl (VWant.not (b := (!(decide (0 ≤ x1.Cell ∧ x1.Cell ≤ 35)))) rfl rfl hg19_1) ?_
        refine VRunD.off rfl (VWant.undef rfl rfl) ?_
        refine VRunD.off rfl (VWant.undef rfl rfl) ?_
        refine VRunD.off rfl (VWant.undef rfl rfl) ?_
        refine VRunD.off rfl (VWant.undef rfl rfl) ?_
        refine VRunD.off rfl (VWant.undef rfl rfl) ?_
        refine VRunD.off rfl (VWant.undef rfl rfl) ?_
        refine VRunD.off rfl (VWant.undef rfl rfl) ?_
        refine VRunD.off rfl (VWant.undef rfl rfl) ?_
        refine VRunD.off rfl (VWant.undef rfl rfl) ?_
        refine VRunD.off rfl (VWant.not (b := (!(decide (0 ≤ x1.Cell ∧ x1.Cell ≤ 35)))) rfl rfl hg19_1) ?_
        refine VRunD.free rfl VWant.always rfl (OF.pickT (VEv.tmpB (b := (!(decide (0 ≤ x1.Cell ∧ x1.Cell ≤ 35)))) rfl hg19_1) (VEv.bool true)) ?_
        refine VRunD.free rfl VWant.always rfl (OF.move (VEv.tmp (t := (T.bool true)) rfl)) ?_
        refine VRunD.off rfl (VWant.not (b := true) rfl rfl rfl) ?_
        refine VRunD.off rfl (VWant.not (b := true) rfl rfl rfl) ?_
        refine VRunD.off rfl (VWant.not (b := true) rfl rfl rfl) ?_
        refine VRunD.off rfl (VWant.not (b := true) rfl rfl rfl) ?_
        refine VRunD.free rfl VWant.always rfl (OF.pickT (VEv.tmp (t := (T.bool true)) rfl) (VEv.bool true)) ?_
        refine VRunD.free rfl VWant.always rfl (OF.move (VEv.tmp (t := (T.bool true)) rfl)) ?_
        refine VRunD.off rfl (VWant.not (b := true) rfl rfl rfl) ?_
        refine VRunD.off rfl (VWant.not (b := true) rfl rfl rfl) ?_
        refine VRunD.off rfl (VWant.not (b := true) rfl rfl rfl) ?_
        refine VRunD.off rfl (VWant.not (b := true) rfl rfl rfl) ?_
        refine VRunD.free rfl VWant.always rfl (OF.pickT (VEv.tmp (t := (T.bool true)) rfl) (VEv.bool true)) ?_
        refine VRunD.free rfl VWant.always rfl (OF.move (VEv.tmp (t := (T.bool true)) rfl)) ?_
        refine VRunD.off rfl (VWant.not (b := true) rfl rfl rfl) ?_
        refine VRunD.off rfl (VWant.not (b := true) rfl rfl rfl) ?_
        refine VRunD.off rfl (VWant.not (b := true) rfl rfl rfl) ?_
        refine VRunD.off rfl (VWant.not (b := true) rfl rfl rfl) ?_
        refine VRunD.free rfl VWant.always rfl (OF.pickT (VEv.tmp (t := (T.bool true)) rfl) (VEv.bool true)) ?_
        refine VRunD.free rfl VWant.always rfl (OF.move (VEv.tmp (t := (T.bool true)) rfl)) ?_
        refine VRunD.off rfl (VWant.not (b := true) rfl rfl rfl) ?_
        refine VRunD.off rfl (VWant.not (b := true) rfl rfl rfl) ?_
        refine VRunD.off rfl (VWant.not (b := true) rfl rfl rfl) ?_
        refine VRunD.off rfl (VWant.not (b := true) rfl rfl rfl) ?_
        refine VRunD.free rfl VWant.always rfl (OF.pickT (VEv.tmp (t := (T.bool true)) rfl) (VEv.bool true)) ?_
        refine VRunD.nil ?_
        refine vthn.n ?_
        refine VRun.cond (VEv.tmp (t := (T.bool true)) rfl) (fun hk2 => ?_) (fun hk2 => ?_)
        · skip
          refine VRun.seq ?_
          refine VRun.region ?_
          refine VRunO.free VWant.always (OF.assign (VEv.bool false)) ?_
          refine VRunO.nil ?_
          refine vthn.n ?_
          refine VRun.ret ?_
          refine vinB.r ?_
          refine vthn.r ?_
          refine vthn.r ?_
          refine vinB.r ?_
          refine vthn.r ?_
          refine vfin.eq (r' := (T.bool false)) ?_ (vfin.r (VRes.tmp (t := (T.bool false)) rfl VRes.nil) (Give.bool _))
          show (T.bool false) = (T.bool (decide (areNotes a)))
          refine congrArg T.bool ?_
          first | (refine decN ⟨fun h => ⟨by omega, allEnd hI' fhc0⟩, fun h => by have := h.1; omega⟩) | (symm; rw [decide_eq_false_iff_not]; rintro ⟨_, h2⟩; obtain ⟨y, hy, h3, h4, h5, h6, h7, h8⟩ := h2 i fhc0; obtain rfl := same_at hx1 hy; first | omega | contradiction | (obtain ⟨z, hz, h9⟩ := h8 (by omega); obtain rfl := same_at hx2 hz; omega) | (simp_all; done))
        · exact absurd (rfl.symm.trans hk2) (by decide)
      · have fhg19_1 : 0 ≤ x1.Cell ∧ x1.Cell ≤ 35 := ndF hg19_1
        refine VRunD.free rfl (VWant.on (b := (!(decide (0 ≤ x1.Cell ∧ x1.Cell ≤ 35)))) rfl rfl hg19_1) rfl (OF.move (VEv.tmp (t := (T.int .i64 ((i : Nat) : Int))) rfl)) ?_
        refine VRunD.free rfl (VWant.on (b := (!(decide (0 ≤ x1.Cell ∧ x1.Cell ≤ 35)))) rfl rfl hg19_1) rfl (B.gtr (c := (decide (0 < i))) (VEv.tmp (t := (T.int .i64 ((i : Nat) : Int))) rfl) (VEv.int .i64 0) (by first | exact hw _ (List.mem_of_getElem? hx1) | (exact decN (by omega)))) ?_
        refine VRunD.free rfl (VWant.on (b := (!(decide (0 ≤ x1.Cell ∧ x1.Cell ≤ 35)))) rfl rfl hg19_1) rfl (OF.move (VEv.tmp (t := (T.bool (decide (0 < i)))) rfl)) ?_
        refine bool_way (decide (0 < i)) (fun hg22_3 => ?_) (fun hg22_3 => ?_)
        · have fhg22_3 : 0 < i := of_decide_eq_true hg22_3
          refine VRunD.free rfl (VWant.on (b := (decide (0 < i))) rfl rfl hg22_3) rfl (OF.move (VEv.tmp (t := (T.sl false 4 (a.map (eNote false)))) rfl)) ?_
          refine VRunD.free rfl (VWant.on (b := (decide (0 < i))) rfl rfl hg22_3) rfl (OF.move (VEv.tmp (t := (T.int .i64 ((i : Nat) : Int))) rfl)) ?_
          refine VRunD.free rfl (VWant.on (b := (decide (0 < i))) rfl rfl hg22_3) rfl (B.sub (n := ((i - 1 : Nat) : Int)) (VEv.tmp (t := (T.int .i64 ((i : Nat) : Int))) rfl) (VEv.int .i64 1) (by first | exact hw _ (List.mem_of_getElem? hx1) | rfl | (rw [wrap64 (by omega)]; done) | (rw [wrap64 (by omega)]; omega) | (rw [wrap64 (by omega)]; push_cast; omega) | omega)) ?_
          obtain ⟨x2, hx2⟩ : ∃ x, a[i - 1]? = some x := ⟨_, List.getElem?_eq_getElem (by first | exact hw _ (List.mem_of_getElem? hx1) | omega | (simp only [List.length_map]; omega) | (simp only [List.length_map, List.length_append, List.length_cons, List.length_nil, List.length_replicate, List.length_set, List.length_drop, List.length_take, lim] at *; omega))⟩
          refine VRunD.free rfl (VWant.on (b := (decide (0 < i))) rfl rfl hg22_3) rfl (OF.indexAddrR (row := (eNote false x2)) (i := i - 1) (VEv.tmp (t := (T.sl false 4 (a.map (eNote false)))) rfl) (VEv.tmp (t := (T.int .i64 ((i - 1 : Nat) : Int))) rfl) rfl (map_at _ hx2) Try.underlying39 sz26 if26) ?_
          refine VRunD.free rfl (VWant.on (b := (decide (0 < i))) rfl rfl hg22_3) rfl (B.fieldAddrR (us := [(T.int .i64 x2.Cell), (T.str x2.Letter), (T.int .i64 x2.Tick), (T.int .i64 x2.Who)]) (VEv.tmp (t := (T.rp [(T.int .i64 x2.Cell), (T.str x2.Letter), (T.int .i64 x2.Tick), (T.int .i64 x2.Who)])) rfl) (Nat.le_of_ble_eq_true rfl) fa26_0 rfl) ?_
          refine VRunD.look rfl (VWant.on (b := (decide (0 < i))) rfl rfl hg22_3) rfl (OL.loadR1 (t := (T.int .i64 x2.Cell)) (VEv.tmp (t := (T.rp [(T.int .i64 x2.Cell), (T.str x2.Letter), (T.int .i64 x2.Tick), (T.int .i64 x2.Who)])) rfl) rfl st3) ?_
          refine VRunD.free rfl (VWant.on (b := (decide (0 < i))) rfl rfl hg22_3) rfl (OF.fieldAddrO (VEv.tmp (t := (T.op 0 0)) rfl) fa26_0) ?_
          refine VRunD.look rfl (VWant.on (b := (decide (0 < i))) rfl rfl hg22_3) rfl (OL.loadO1 (t := (T.int .i64 x1.Cell)) (VEv.tmp (t := (T.op 0 0)) rfl) rfl rfl st3) ?_
          refine VRunD.free rfl (VWant.on (b := (decide (0 < i))) rfl rfl hg22_3) rfl (B.geq (c := (decide (x1.Cell ≤ x2.Cell))) (VEv.tmp (t := (T.int .i64 x2.Cell)) rfl) (VEv.tmp (t := (T.int .i64 x1.Cell)) rfl) rfl) ?_
          refine VRunD.free rfl (VWant.on (b := (!(decide (0 ≤ x1.Cell ∧ x1.Cell ≤ 35)))) rfl rfl hg19_1) rfl (OF.pickT (VEv.tmpB (b := (decide (0 < i))) rfl hg22_3) (VEv.tmp (t := (T.bool (decide (x1.Cell ≤ x2.Cell)))) rfl)) ?_
          refine VRunD.free rfl VWant.always rfl (OF.pickF (VEv.tmpB (b := (!(decide (0 ≤ x1.Cell ∧ x1.Cell ≤ 35)))) rfl hg19_1) (VEv.tmp (t := (T.bool (decide (x1.Cell ≤ x2.Cell)))) rfl)) ?_
          refine VRunD.free rfl VWant.always rfl (OF.move (VEv.tmp (t := (T.bool (decide (x1.Cell ≤ x2.Cell)))) rfl)) ?_
          refine bool_way (decide (x1.Cell ≤ x2.Cell)) (fun hg34_4 => ?_) (fun hg34_4 => ?_)
          · have fhg34_4 : x1.Cell ≤ x2.Cell := of_decide_eq_true hg34_4
            refine VRunD.off rfl (VWant.not (b := (decide (x1.Cell ≤ x2.Cell))) rfl rfl hg34_4) ?_
            refine VRunD.off rfl (VWant.not (b := (decide (x1.Cell ≤ x2.Cell))) rfl rfl hg34_4) ?_
            refine VRunD.off rfl (VWant.not (b := (decide (x1.Cell ≤ x2.Cell))) rfl rfl hg34_4) ?_
            refine VRunD.off rfl (VWant.not (b := (decide (x1.Cell ≤ x2.Cell))) rfl rfl hg34_4) ?_
            refine VRunD.free rfl VWant.always rfl (OF.pickT (VEv.tmpB (b := (decide (x1.Cell ≤ x2.Cell))) rfl hg34_4) (VEv.bool true)) ?_
            refine VRunD.free rfl VWant.always rfl (OF.move (VEv.tmp (t := (T.bool true)) rfl)) ?_
            refine VRunD.off rfl (VWant.not (b := true) rfl rfl rfl) ?_
            refine VRunD.off rfl (VWant.not (b := true) rfl rfl rfl) ?_
            refine VRunD.off rfl (VWant.not (b := true) rfl rfl rfl) ?_
            refine VRunD.off rfl (VWant.not (b := true) rfl rfl rfl) ?_
            refine VRunD.free rfl VWant.always rfl (OF.pickT (VEv.tmp (t := (T.bool true)) rfl) (VEv.bool true)) ?_
            refine VRunD.free rfl VWant.always rfl (OF.move (VEv.tmp (t := (T.bool true)) rfl)) ?_
            refine VRunD.off rfl (VWant.not (b := true) rfl rfl rfl) ?_
            refine VRunD.off rfl (VWant.not (b := true) rfl rfl rfl) ?_
            refine VRunD.off rfl (VWant.not (b := true) rfl rfl rfl) ?_
            refine VRunD.off rfl (VWant.not (b := true) rfl rfl rfl) ?_
            refine VRunD.free rfl VWant.always rfl (OF.pickT (VEv.tmp (t := (T.bool true)) rfl) (VEv.bool true)) ?_
            refine VRunD.free rfl VWant.always rfl (OF.move (VEv.tmp (t := (T.bool true)) rfl)) ?_
            refine VRunD.off rfl (VWant.not (b := true) rfl rfl rfl) ?_
            refine VRunD.off rfl (VWant.not (b := true) rfl rfl rfl) ?_
            refine VRunD.off rfl (VWant.not (b := true) rfl rfl rfl) ?_
            refine VRunD.off rfl (VWant.not (b := true) rfl rfl rfl) ?_
            refine VRunD.free rfl VWant.always rfl (OF.pickT (VEv.tmp (t := (T.bool true)) rfl) (VEv.bool true)) ?_
            refine VRunD.nil ?_
            refine vthn.n ?_
            refine VRun.cond (VEv.tmp (t := (T.bool true)) rfl) (fun hk5 => ?_) (fun hk5 => ?_)
            · skip
              refine VRun.seq ?_
              refine VRun.region ?_
              refine VRunO.free VWant.always (OF.assign (VEv.bool false)) ?_
              refine VRunO.nil ?_
              refine vthn.n ?_
              refine VRun.ret ?_
              refine vinB.r ?_
              refine vthn.r ?_
              refine vthn.r ?_
              refine vinB.r ?_
              refine vthn.r ?_
              refine vfin.eq (r' := (T.bool false)) ?_ (vfin.r (VRes.tmp (t := (T.bool false)) rfl VRes.nil) (Give.bool _))
              show (T.bool false) = (T.bool (decide (areNotes a)))
              refine congrArg T.bool ?_
              first | (refine decN ⟨fun h => ⟨by omega, allEnd hI' fhc0⟩, fun h => by have := h.1; omega⟩) | (symm; rw [decide_eq_false_iff_not]; rintro ⟨_, h2⟩; obtain ⟨y, hy, h3, h4, h5, h6, h7, h8⟩ := h2 i fhc0; obtain rfl := same_at hx1 hy; first | omega | contradiction | (obtain ⟨z, hz, h9⟩ := h8 (by omega); obtain rfl := same_at hx2 hz; omega) | (simp_all; done))
            · exact absurd (rfl.symm.trans hk5) (by decide)
          · have fhg34_4 : ¬ (x1.Cell ≤ x2.Cell) := of_decide_eq_false hg34_4
            refine VRunD.free rfl (VWant.on (b := (decide (x1.Cell ≤ x2.Cell))) rfl rfl hg34_4) rfl (OF.fieldAddrO (VEv.tmp (t := (T.op 0 0)) rfl) fa26_1) ?_
            refine VRunD.look rfl (VWant.on (b := (decide (x1.Cell ≤ x2.Cell))) rfl rfl hg34_4) rfl (OL.loadO1 (t := (T.str x1.Letter)) (VEv.tmp (t := (T.op 0 1)) rfl) rfl rfl st9) ?_
            refine VRunD.look rfl (VWant.on (b := (decide (x1.Cell ≤ x2.Cell))) rfl rfl hg34_4) rfl (B.lenS (VEv.tmp (t := (T.str x1.Letter)) rfl) Try.underlying9) ?_
            refine VRunD.free rfl (VWant.on (b := (decide (x1.Cell ≤ x2.Cell))) rfl rfl hg34_4) rfl (B.neq (c := (!(decide (x1.Letter.size = 1)))) (VEv.tmp (t := (T.int .i64 ((x1.Letter.size : Nat) : Int))) rfl) (VEv.int .i64 1) (by first | exact hw _ (List.mem_of_getElem? hx1) | (exact decNn (by omega)))) ?_
            refine VRunD.free rfl VWant.always rfl (OF.pickF (VEv.tmpB (b := (decide (x1.Cell ≤ x2.Cell))) rfl hg34_4) (VEv.tmp (t := (T.bool (!(decide (x1.Letter.size = 1))))) rfl)) ?_
            refine VRunD.free rfl VWant.always rfl (OF.move (VEv.tmp (t := (T.bool (!(decide (x1.Letter.size = 1))))) rfl)) ?_
            refine bool_way (!(decide (x1.Letter.size = 1))) (fun hg40_6 => ?_) (fun hg40_6 => ?_)
            · have fhg40_6 : ¬ (x1.Letter.size = 1) := ndT hg40_6
              refine VRunD.off rfl (VWant.not (b := (!(decide (x1.Letter.size = 1)))) rfl rfl hg40_6) ?_
              refine VRunD.off rfl (VWant.not (b := (!(decide (x1.Letter.size = 1)))) rfl rfl hg40_6) ?_
              refine VRunD.off rfl (VWant.not (b := (!(decide (x1.Letter.size = 1)))) rfl rfl hg40_6) ?_
              refine VRunD.off rfl (VWant.not (b := (!(decide (x1.Letter.size = 1)))) rfl rfl hg40_6) ?_
              refine VRunD.free rfl VWant.always rfl (OF.pickT (VEv.tmpB (b := (!(decide (x1.Letter.size = 1)))) rfl hg40_6) (VEv.bool true)) ?_
              refine VRunD.free rfl VWant.always rfl (OF.move (VEv.tmp (t := (T.bool true)) rfl)) ?_
              refine VRunD.off rfl (VWant.not (b := true) rfl rfl rfl) ?_
              refine VRunD.off rfl (VWant.not (b := true) rfl rfl rfl) ?_
              refine VRunD.off rfl (VWant.not (b := true) rfl rfl rfl) ?_
              refine VRunD.off rfl (VWant.not (b := true) rfl rfl rfl) ?_
              refine VRunD.free rfl VWant.always rfl (OF.pickT (VEv.tmp (t := (T.bool true)) rfl) (VEv.bool true)) ?_
              refine VRunD.free rfl VWant.always rfl (OF.move (VEv.tmp (t := (T.bool true)) rfl)) ?_
              refine VRunD.off rfl (VWant.not (b := true) rfl rfl rfl) ?_
              refine VRunD.off rfl (VWant.not (b := true) rfl rfl rfl) ?_
              refine VRunD.off rfl (VWant.not (b := true) rfl rfl rfl) ?_
              refine VRunD.off rfl (VWant.not (b := true) rfl rfl rfl) ?_
              refine VRunD.free rfl VWant.always rfl (OF.pickT (VEv.tmp (t := (T.bool true)) rfl) (VEv.bool true)) ?_
              refine VRunD.nil ?_
              refine vthn.n ?_
              refine VRun.cond (VEv.tmp (t := (T.bool true)) rfl) (fun hk7 => ?_) (fun hk7 => ?_)
              · skip
                refine VRun.seq ?_
                refine VRun.region ?_
                refine VRunO.free VWant.always (OF.assign (VEv.bool false)) ?_
                refine VRunO.nil ?_
                refine vthn.n ?_
                refine VRun.ret ?_
                refine vinB.r ?_
                refine vthn.r ?_
                refine vthn.r ?_
                refine vinB.r ?_
                refine vthn.r ?_
                refine vfin.eq (r' := (T.bool false)) ?_ (vfin.r (VRes.tmp (t := (T.bool false)) rfl VRes.nil) (Give.bool _))
                show (T.bool false) = (T.bool (decide (areNotes a)))
                refine congrArg T.bool ?_
                first | (refine decN ⟨fun h => ⟨by omega, allEnd hI' fhc0⟩, fun h => by have := h.1; omega⟩) | (symm; rw [decide_eq_false_iff_not]; rintro ⟨_, h2⟩; obtain ⟨y, hy, h3, h4, h5, h6, h7, h8⟩ := h2 i fhc0; obtain rfl := same_at hx1 hy; first | omega | contradiction | (obtain ⟨z, hz, h9⟩ := h8 (by omega); obtain rfl := same_at hx2 hz; omega) | (simp_all; done))
              · exact absurd (rfl.symm.trans hk7) (by decide)
            · have fhg40_6 : x1.Letter.size = 1 := ndF hg40_6
              refine VRunD.free rfl (VWant.on (b := (!(decide (x1.Letter.size = 1)))) rfl rfl hg40_6) rfl (OF.fieldAddrO (VEv.tmp (t := (T.op 0 0)) rfl) fa26_1) ?_
              refine VRunD.look rfl (VWant.on (b := (!(decide (x1.Letter.size = 1)))) rfl rfl hg40_6) rfl (OL.loadO1 (t := (T.str x1.Letter)) (VEv.tmp (t := (T.op 0 1)) rfl) rfl rfl st9) ?_
              refine VRunD.quiet (bi := [26, 24, 22, 20, 21, 23, 18, 7, 5, 6, 16, 14, 15, 12, 8, 10, 9, 11, 13, 17, 3, 1, 0, 2, 4, 19, 25, 27]) rfl (VWant.on (b := (!(decide (x1.Letter.size = 1)))) rfl rfl hg40_6) rfl rfl rfl (ball_nil) (OC.callF (us := [(T.str x1.Letter)]) (r := (T.bool (decide (isPat x1.Letter)))) (r' := (T.bool (decide (isPat x1.Letter)))) (objs := []) rfl (VEvs.cons (VEv.tmp (t := (T.str x1.Letter)) rfl) VEvs.nil) (LendL.cons (Lend.pl rfl) (LendL.nil)) (W_spec_IsPattern (n + 0) x1.Letter (by first | exact hw _ (List.mem_of_getElem? hx1) | assumption | omega | (simp only [List.length_map]; omega) | (simp only [List.length_map, List.length_append, List.length_cons, List.length_nil, List.length_replicate, List.length_set, List.length_drop, List.length_take, lim] at *; omega))) rfl) ?_
              refine VRunD.free rfl (VWant.on (b := (!(decide (x1.Letter.size = 1)))) rfl rfl hg40_6) rfl (B.not (c := (!(decide (isPat x1.Letter)))) (VEv.tmp (t := (T.bool (decide (isPat x1.Letter)))) rfl) rfl) ?_
              refine VRunD.free rfl VWant.always rfl (OF.pickF (VEv.tmpB (b := (!(decide (x1.Letter.size = 1)))) rfl hg40_6) (VEv.tmp (t := (T.bool (!(decide (isPat x1.Letter))))) rfl)) ?_
              refine VRunD.free rfl VWant.always rfl (OF.move (VEv.tmp (t := (T.bool (!(decide (isPat x1.Letter))))) rfl)) ?_
              refine bool_way (!(decide (isPat x1.Letter))) (fun hg46_8 => ?_) (fun hg46_8 => ?_)
              · have fhg46_8 : ¬ (isPat x1.Letter) := ndT hg46_8
                refine VRunD.off rfl (VWant.not (b := (!(decide (isPat x1.Letter)))) rfl rfl hg46_8) ?_
                refine VRunD.off rfl (VWant.not (b := (!(decide (isPat x1.Letter)))) rfl rfl hg46_8) ?_
                refine VRunD.off rfl (VWant.not (b := (!(decide (isPat x1.Letter)))) rfl rfl hg46_8) ?_
                refine VRunD.off rfl (VWant.not (b := (!(decide (isPat x1.Letter)))) rfl rfl hg46_8) ?_
                refine VRunD.free rfl VWant.always rfl (OF.pickT (VEv.tmpB (b := (!(decide (isPat x1.Letter)))) rfl hg46_8) (VEv.bool true)) ?_
                refine VRunD.free rfl VWant.always rfl (OF.move (VEv.tmp (t := (T.bool true)) rfl)) ?_
                refine VRunD.off rfl (VWant.not (b := true) rfl rfl rfl) ?_
                refine VRunD.off rfl (VWant.not (b := true) rfl rfl rfl) ?_
                refine VRunD.off rfl (VWant.not (b := true) rfl rfl rfl) ?_
                refine VRunD.off rfl (VWant.not (b := true) rfl rfl rfl) ?_
                refine VRunD.free rfl VWant.always rfl (OF.pickT (VEv.tmp (t := (T.bool true)) rfl) (VEv.bool true)) ?_
                refine VRunD.nil ?_
                refine vthn.n ?_
                refine VRun.cond (VEv.tmp (t := (T.bool true)) rfl) (fun hk9 => ?_) (fun hk9 => ?_)
                · skip
                  refine VRun.seq ?_
                  refine VRun.region ?_
                  refine VRunO.free VWant.always (OF.assign (VEv.bool false)) ?_
                  refine VRunO.nil ?_
                  refine vthn.n ?_
                  refine VRun.ret ?_
                  refine vinB.r ?_
                  refine vthn.r ?_
                  refine vthn.r ?_
                  refine vinB.r ?_
                  refine vthn.r ?_
                  refine vfin.eq (r' := (T.bool false)) ?_ (vfin.r (VRes.tmp (t := (T.bool false)) rfl VRes.nil) (Give.bool _))
                  show (T.bool false) = (T.bool (decide (areNotes a)))
                  refine congrArg T.bool ?_
                  first | (refine decN ⟨fun h => ⟨by omega, allEnd hI' fhc0⟩, fun h => by have := h.1; omega⟩) | (symm; rw [decide_eq_false_iff_not]; rintro ⟨_, h2⟩; obtain ⟨y, hy, h3, h4, h5, h6, h7, h8⟩ := h2 i fhc0; obtain rfl := same_at hx1 hy; first | omega | contradiction | (obtain ⟨z, hz, h9⟩ := h8 (by omega); obtain rfl := same_at hx2 hz; omega) | (simp_all; done))
                · exact absurd (rfl.symm.trans hk9) (by decide)
              · have fhg46_8 : isPat x1.Letter := ndF hg46_8
                refine VRunD.free rfl (VWant.on (b := (!(decide (isPat x1.Letter)))) rfl rfl hg46_8) rfl (OF.fieldAddrO (VEv.tmp (t := (T.op 0 0)) rfl) fa26_2) ?_
                refine VRunD.look rfl (VWant.on (b := (!(decide (isPat x1.Letter)))) rfl rfl hg46_8) rfl (OL.loadO1 (t := (T.int .i64 x1.Tick)) (VEv.tmp (t := (T.op 0 2)) rfl) rfl rfl st3) ?_
                refine VRunD.quiet (bi := [32, 30, 28, 26, 27, 29, 24, 22, 20, 21, 23, 18, 7, 5, 6, 16, 14, 15, 12, 8, 10, 9, 11, 13, 17, 3, 1, 0, 2, 4, 19, 25, 31, 33]) rfl (VWant.on (b := (!(decide (isPat x1.Letter)))) rfl rfl hg46_8) rfl rfl rfl (ball_nil) (OC.callF (us := [(T.int .i64 x1.Tick), (T.int .i64 0), (T.int .i64 1000)]) (r := (T.bool (decide (0 ≤ x1.Tick ∧ x1.Tick ≤ 1000)))) (r' := (T.bool (decide (0 ≤ x1.Tick ∧ x1.Tick ≤ 1000)))) (objs := []) rfl (VEvs.cons (VEv.tmp (t := (T.int .i64 x1.Tick)) rfl) (VEvs.cons (VEv.int .i64 0) (VEvs.cons (VEv.int .i64 1000) VEvs.nil))) (LendL.cons (Lend.pl rfl) (LendL.cons (Lend.pl rfl) (LendL.cons (Lend.pl rfl) (LendL.nil)))) (W_spec_l1In (n + 1) x1.Tick 0 1000 ) rfl) ?_
                refine VRunD.free rfl (VWant.on (b := (!(decide (isPat x1.Letter)))) rfl rfl hg46_8) rfl (B.not (c := (!(decide (0 ≤ x1.Tick ∧ x1.Tick ≤ 1000)))) (VEv.tmp (t := (T.bool (decide (0 ≤ x1.Tick ∧ x1.Tick ≤ 1000)))) rfl) rfl) ?_
                refine VRunD.free rfl VWant.always rfl (OF.pickF (VEv.tmpB (b := (!(decide (isPat x1.Letter)))) rfl hg46_8) (VEv.tmp (t := (T.bool (!(decide (0 ≤ x1.Tick ∧ x1.Tick ≤ 1000))))) rfl)) ?_
                refine VRunD.free rfl VWant.always rfl (OF.move (VEv.tmp (t := (T.bool (!(decide (0 ≤ x1.Tick ∧ x1.Tick ≤ 1000))))) rfl)) ?_
                refine bool_way (!(decide (0 ≤ x1.Tick ∧ x1.Tick ≤ 1000))) (fun hg52_10 => ?_) (fun hg52_10 => ?_)
                · have fhg52_10 : ¬ (0 ≤ x1.Tick ∧ x1.Tick ≤ 1000) := ndT hg52_10
                  refine VRunD.off rfl (VWant.not (b := (!(decide (0 ≤ x1.Tick ∧ x1.Tick ≤ 1000)))) rfl rfl hg52_10) ?_
                  refine VRunD.off rfl (VWant.not (b := (!(decide (0 ≤ x1.Tick ∧ x1.Tick ≤ 1000)))) rfl rfl hg52_10) ?_
                  refine VRunD.off rfl (VWant.not (b := (!(decide (0 ≤ x1.Tick ∧ x1.Tick ≤ 1000)))) rfl rfl hg52_10) ?_
                  refine VRunD.off rfl (VWant.not (b := (!(decide (0 ≤ x1.Tick ∧ x1.Tick ≤ 1000)))) rfl rfl hg52_10) ?_
                  refine VRunD.free rfl VWant.always rfl (OF.pickT (VEv.tmpB (b := (!(decide (0 ≤ x1.Tick ∧ x1.Tick ≤ 1000)))) rfl hg52_10) (VEv.bool true)) ?_
                  refine VRunD.nil ?_
                  refine vthn.n ?_
                  refine VRun.cond (VEv.tmp (t := (T.bool true)) rfl) (fun hk11 => ?_) (fun hk11 => ?_)
                  · skip
                    refine VRun.seq ?_
                    refine VRun.region ?_
                    refine VRunO.free VWant.always (OF.assign (VEv.bool false)) ?_
                    refine VRunO.nil ?_
                    refine vthn.n ?_
                    refine VRun.ret ?_
                    refine vinB.r ?_
                    refine vthn.r ?_
                    refine vthn.r ?_
                    refine vinB.r ?_
                    refine vthn.r ?_
                    refine vfin.eq (r' := (T.bool false)) ?_ (vfin.r (VRes.tmp (t := (T.bool false)) rfl VRes.nil) (Give.bool _))
                    show (T.bool false) = (T.bool (decide (areNotes a)))
                    refine congrArg T.bool ?_
                    first | (refine decN ⟨fun h => ⟨by omega, allEnd hI' fhc0⟩, fun h => by have := h.1; omega⟩) | (symm; rw [decide_eq_false_iff_not]; rintro ⟨_, h2⟩; obtain ⟨y, hy, h3, h4, h5, h6, h7, h8⟩ := h2 i fhc0; obtain rfl := same_at hx1 hy; first | omega | contradiction | (obtain ⟨z, hz, h9⟩ := h8 (by omega); obtain rfl := same_at hx2 hz; omega) | (simp_all; done))
                  · exact absurd (rfl.symm.trans hk11) (by decide)
                · have fhg52_10 : 0 ≤ x1.Tick ∧ x1.Tick ≤ 1000 := ndF hg52_10
                  refine VRunD.free rfl (VWant.on (b := (!(decide (0 ≤ x1.Tick ∧ x1.Tick ≤ 1000)))) rfl rfl hg52_10) rfl (OF.fieldAddrO (VEv.tmp (t := (T.op 0 0)) rfl) fa26_3) ?_
                  refine VRunD.look rfl (VWant.on (b := (!(decide (0 ≤ x1.Tick ∧ x1.Tick ≤ 1000)))) rfl rfl hg52_10) rfl (OL.loadO1 (t := (T.int .i64 x1.Who)) (VEv.tmp (t := (T.op 0 3)) rfl) rfl rfl st3) ?_
                  refine VRunD.quiet (bi := [38, 36, 34, 32, 33, 35, 30, 28, 26, 27, 29, 24, 22, 20, 21, 23, 18, 7, 5, 6, 16, 14, 15, 12, 8, 10, 9, 11, 13, 17, 3, 1, 0, 2, 4, 19, 25, 31, 37, 39]) rfl (VWant.on (b := (!(decide (0 ≤ x1.Tick ∧ x1.Tick ≤ 1000)))) rfl rfl hg52_10) rfl rfl rfl (ball_nil) (OC.callF (us := [(T.int .i64 x1.Who), (T.int .i64 1), (T.int .i64 9)]) (r := (T.bool (decide (1 ≤ x1.Who ∧ x1.Who ≤ 9)))) (r' := (T.bool (decide (1 ≤ x1.Who ∧ x1.Who ≤ 9)))) (objs := []) rfl (VEvs.cons (VEv.tmp (t := (T.int .i64 x1.Who)) rfl) (VEvs.cons (VEv.int .i64 1) (VEvs.cons (VEv.int .i64 9) VEvs.nil))) (LendL.cons (Lend.pl rfl) (LendL.cons (Lend.pl rfl) (LendL.cons (Lend.pl rfl) (LendL.nil)))) (W_spec_l1In (n + 1) x1.Who 1 9 ) rfl) ?_
                  refine VRunD.free rfl (VWant.on (b := (!(decide (0 ≤ x1.Tick ∧ x1.Tick ≤ 1000)))) rfl rfl hg52_10) rfl (B.not (c := (!(decide (1 ≤ x1.Who ∧ x1.Who ≤ 9)))) (VEv.tmp (t := (T.bool (decide (1 ≤ x1.Who ∧ x1.Who ≤ 9)))) rfl) rfl) ?_
                  refine VRunD.free rfl VWant.always rfl (OF.pickF (VEv.tmpB (b := (!(decide (0 ≤ x1.Tick ∧ x1.Tick ≤ 1000)))) rfl hg52_10) (VEv.tmp (t := (T.bool (!(decide (1 ≤ x1.Who ∧ x1.Who ≤ 9))))) rfl)) ?_
                  refine VRunD.nil ?_
                  refine vthn.n ?_
                  refine VRun.cond (VEv.tmp (t := (T.bool (!(decide (1 ≤ x1.Who ∧ x1.Who ≤ 9))))) rfl) (fun hc1 => ?_) (fun hc1 => ?_)
                  · have fhc1 : ¬ (1 ≤ x1.Who ∧ x1.Who ≤ 9) := ndT hc1
                    refine VRun.seq ?_
                    refine VRun.region ?_
                    refine VRunO.free VWant.always (OF.assign (VEv.bool false)) ?_
                    refine VRunO.nil ?_
                    refine vthn.n ?_
                    refine VRun.ret ?_
                    refine vinB.r ?_
                    refine vthn.r ?_
                    refine vthn.r ?_
                    refine vinB.r ?_
                    refine vthn.r ?_
                    refine vfin.eq (r' := (T.bool false)) ?_ (vfin.r (VRes.tmp (t := (T.bool false)) rfl VRes.nil) (Give.bool _))
                    show (T.bool false) = (T.bool (decide (areNotes a)))
                    refine congrArg T.bool ?_
                    first | (refine decN ⟨fun h => ⟨by omega, allEnd hI' fhc0⟩, fun h => by have := h.1; omega⟩) | (symm; rw [decide_eq_false_iff_not]; rintro ⟨_, h2⟩; obtain ⟨y, hy, h3, h4, h5, h6, h7, h8⟩ := h2 i fhc0; obtain rfl := same_at hx1 hy; first | omega | contradiction | (obtain ⟨z, hz, h9⟩ := h8 (by omega); obtain rfl := same_at hx2 hz; omega) | (simp_all; done))
                  · have fhc1 : 1 ≤ x1.Who ∧ x1.Who ≤ 9 := ndF hc1
                    refine VRun.skip ?_
                    refine vinB.n ?_
                    refine vthn.n ?_
                    refine VRun.region ?_
                    refine VRunO.free VWant.always (OF.move (VEv.tmp (t := (T.int .i64 ((i : Nat) : Int))) rfl)) ?_
                    refine VRunO.free VWant.always (B.add (n := (((i + 1) : Nat) : Int)) (VEv.tmp (t := (T.int .i64 ((i : Nat) : Int))) rfl) (VEv.int .i64 1) (by first | exact hw _ (List.mem_of_getElem? hx1) | rfl | (rw [wrap64 (by omega)]; done) | (rw [wrap64 (by omega)]; omega) | (rw [wrap64 (by omega)]; push_cast; omega) | omega)) ?_
                    refine VRunO.free VWant.always (OF.assign (VEv.tmp (t := (T.int .i64 (((i + 1) : Nat) : Int))) rfl)) ?_
                    refine VRunO.nil ?_
                    refine vthn.n ?_
                    refine ⟨(i + 1 : Nat), ?_, ?_, Wk.mk (fun k => k) ?_ ?_ ?_⟩
                    · refine allNext hI0 fhc0 ⟨x1, hx1, by omega, by omega, by assumption, by omega, by omega, fun h0 => ?_⟩
                      first | (exact absurd h0 (by omega)) | (exact ⟨x2, hx2, by omega⟩)
                    · first | omega | (simp only []; omega) | (show _ < _; omega) | (simp; omega)
                    · exact (ball_cons ⟨rfl, rfl⟩ (ball_cons ⟨rfl, rfl⟩ (ball_nil)))
                    · exact (ball_nil)
                    · show List.Nodup ([] : List Nat)
                      decide
        · have fhg22_3 : ¬ (0 < i) := of_decide_eq_false hg22_3
          refine VRunD.off rfl (VWant.not (b := (decide (0 < i))) rfl rfl hg22_3) ?_
          refine VRunD.off rfl (VWant.not (b := (decide (0 < i))) rfl rfl hg22_3) ?_
          refine VRunD.off rfl (VWant.not (b := (decide (0 < i))) rfl rfl hg22_3) ?_
          refine VRunD.off rfl (VWant.not (b := (decide (0 < i))) rfl rfl hg22_3) ?_
          refine VRunD.off rfl (VWant.not (b := (decide (0 < i))) rfl rfl hg22_3) ?_
          refine VRunD.off rfl (VWant.not (b := (decide (0 < i))) rfl rfl hg22_3) ?_
          refine VRunD.off rfl (VWant.not (b := (decide (0 < i))) rfl rfl hg22_3) ?_
          refine VRunD.off rfl (VWant.not (b := (decide (0 < i))) rfl rfl hg22_3) ?_
          refine VRunD.off rfl (VWant.not (b := (decide (0 < i))) rfl rfl hg22_3) ?_
          refine VRunD.free rfl (VWant.on (b := (!(decide (0 ≤ x1.Cell ∧ x1.Cell ≤ 35)))) rfl rfl hg19_1) rfl (OF.pickF (VEv.tmpB (b := (decide (0 < i))) rfl hg22_3) (VEv.bool false)) ?_
          refine VRunD.free rfl VWant.always rfl (OF.pickF (VEv.tmpB (b := (!(decide (0 ≤ x1.Cell ∧ x1.Cell ≤ 35)))) rfl hg19_1) (VEv.tmp (t := (T.bool false)) rfl)) ?_
          refine VRunD.free rfl VWant.always rfl (OF.move (VEv.tmp (t := (T.bool false)) rfl)) ?_
          refine VRunD.free rfl (VWant.on (b := false) rfl rfl rfl) rfl (OF.fieldAddrO (VEv.tmp (t := (T.op 0 0)) rfl) fa26_1) ?_
          refine VRunD.look rfl (VWant.on (b := false) rfl rfl rfl) rfl (OL.loadO1 (t := (T.str x1.Letter)) (VEv.tmp (t := (T.op 0 1)) rfl) rfl rfl st9) ?_
          refine VRunD.look rfl (VWant.on (b := false) rfl rfl rfl) rfl (B.lenS (VEv.tmp (t := (T.str x1.Letter)) rfl) Try.underlying9) ?_
          refine VRunD.free rfl (VWant.on (b := false) rfl rfl rfl) rfl (B.neq (c := (!(decide (x1.Letter.size = 1)))) (VEv.tmp (t := (T.int .i64 ((x1.Letter.size : Nat) : Int))) rfl) (VEv.int .i64 1) (by first | exact hw _ (List.mem_of_getElem? hx1) | (exact decNn (by omega)))) ?_
          refine VRunD.free rfl VWant.always rfl (OF.pickF (VEv.tmp (t := (T.bool false)) rfl) (VEv.tmp (t := (T.bool (!(decide (x1.Letter.size = 1))))) rfl)) ?_
          refine VRunD.free rfl VWant.always rfl (OF.move (VEv.tmp (t := (T.bool (!(decide (x1.Letter.size = 1))))) rfl)) ?_
          refine bool_way (!(decide (x1.Letter.size = 1))) (fun hg40_12 => ?_) (fun hg40_12 => ?_)
          · have fhg40_12 : ¬ (x1.Letter.size = 1) := ndT hg40_12
            refine VRunD.off rfl (VWant.not (b := (!(decide (x1.Letter.size = 1)))) rfl rfl hg40_12) ?_
            refine VRunD.off rfl (VWant.not (b := (!(decide (x1.Letter.size = 1)))) rfl rfl hg40_12) ?_
            refine VRunD.off rfl (VWant.not (b := (!(decide (x1.Letter.size = 1)))) rfl rfl hg40_12) ?_
            refine VRunD.off rfl (VWant.not (b := (!(decide (x1.Letter.size = 1)))) rfl rfl hg40_12) ?_
            refine VRunD.free rfl VWant.always rfl (OF.pickT (VEv.tmpB (b := (!(decide (x1.Letter.size = 1)))) rfl hg40_12) (VEv.bool true)) ?_
            refine VRunD.free rfl VWant.always rfl (OF.move (VEv.tmp (t := (T.bool true)) rfl)) ?_
            refine VRunD.off rfl (VWant.not (b := true) rfl rfl rfl) ?_
            refine VRunD.off rfl (VWant.not (b := true) rfl rfl rfl) ?_
            refine VRunD.off rfl (VWant.not (b := true) rfl rfl rfl) ?_
            refine VRunD.off rfl (VWant.not (b := true) rfl rfl rfl) ?_
            refine VRunD.free rfl VWant.always rfl (OF.pickT (VEv.tmp (t := (T.bool true)) rfl) (VEv.bool true)) ?_
            refine VRunD.free rfl VWant.always rfl (OF.move (VEv.tmp (t := (T.bool true)) rfl)) ?_
            refine VRunD.off rfl (VWant.not (b := true) rfl rfl rfl) ?_
            refine VRunD.off rfl (VWant.not (b := true) rfl rfl rfl) ?_
            refine VRunD.off rfl (VWant.not (b := true) rfl rfl rfl) ?_
            refine VRunD.off rfl (VWant.not (b := true) rfl rfl rfl) ?_
            refine VRunD.free rfl VWant.always rfl (OF.pickT (VEv.tmp (t := (T.bool true)) rfl) (VEv.bool true)) ?_
            refine VRunD.nil ?_
            refine vthn.n ?_
            refine VRun.cond (VEv.tmp (t := (T.bool true)) rfl) (fun hk13 => ?_) (fun hk13 => ?_)
            · skip
              refine VRun.seq ?_
              refine VRun.region ?_
              refine VRunO.free VWant.always (OF.assign (VEv.bool false)) ?_
              refine VRunO.nil ?_
              refine vthn.n ?_
              refine VRun.ret ?_
              refine vinB.r ?_
              refine vthn.r ?_
              refine vthn.r ?_
              refine vinB.r ?_
              refine vthn.r ?_
              refine vfin.eq (r' := (T.bool false)) ?_ (vfin.r (VRes.tmp (t := (T.bool false)) rfl VRes.nil) (Give.bool _))
              show (T.bool false) = (T.bool (decide (areNotes a)))
              refine congrArg T.bool ?_
              first | (refine decN ⟨fun h => ⟨by omega, allEnd hI' fhc0⟩, fun h => by have := h.1; omega⟩) | (symm; rw [decide_eq_false_iff_not]; rintro ⟨_, h2⟩; obtain ⟨y, hy, h3, h4, h5, h6, h7, h8⟩ := h2 i fhc0; obtain rfl := same_at hx1 hy; first | omega | contradiction | (obtain ⟨z, hz, h9⟩ := h8 (by omega); obtain rfl := same_at hx2 hz; omega) | (simp_all; done))
            · exact absurd (rfl.symm.trans hk13) (by decide)
          · have fhg40_12 : x1.Letter.size = 1 := ndF hg40_12
            refine VRunD.free rfl (VWant.on (b := (!(decide (x1.Letter.size = 1)))) rfl rfl hg40_12) rfl (OF.fieldAddrO (VEv.tmp (t := (T.op 0 0)) rfl) fa26_1) ?_
            refine VRunD.look rfl (VWant.on (b := (!(decide (x1.Letter.size = 1)))) rfl rfl hg40_12) rfl (OL.loadO1 (t := (T.str x1.Letter)) (VEv.tmp (t := (T.op 0 1)) rfl) rfl rfl st9) ?_
            refine VRunD.quiet (bi := [26, 24, 22, 20, 21, 23, 18, 7, 5, 6, 16, 14, 15, 12, 8, 10, 9, 11, 13, 17, 3, 1, 0, 2, 4, 19, 25, 27]) rfl (VWant.on (b := (!(decide (x1.Letter.size = 1)))) rfl rfl hg40_12) rfl rfl rfl (ball_nil) (OC.callF (us := [(T.str x1.Letter)]) (r := (T.bool (decide (isPat x1.Letter)))) (r' := (T.bool (decide (isPat x1.Letter)))) (objs := []) rfl (VEvs.cons (VEv.tmp (t := (T.str x1.Letter)) rfl) VEvs.nil) (LendL.cons (Lend.pl rfl) (LendL.nil)) (W_spec_IsPattern (n + 0) x1.Letter (by first | exact hw _ (List.mem_of_getElem? hx1) | assumption | omega | (simp only [List.length_map]; omega) | (simp only [List.length_map, List.length_append, List.length_cons, List.length_nil, List.length_replicate, List.length_set, List.length_drop, List.length_take, lim] at *; omega))) rfl) ?_
            refine VRunD.free rfl (VWant.on (b := (!(decide (x1.Letter.size = 1)))) rfl rfl hg40_12) rfl (B.not (c := (!(decide (isPat x1.Letter)))) (VEv.tmp (t := (T.bool (decide (isPat x1.Letter)))) rfl) rfl) ?_
            refine VRunD.free rfl VWant.always rfl (OF.pickF (VEv.tmpB (b := (!(decide (x1.Letter.size = 1)))) rfl hg40_12) (VEv.tmp (t := (T.bool (!(decide (isPat x1.Letter))))) rfl)) ?_
            refine VRunD.free rfl VWant.always rfl (OF.move (VEv.tmp (t := (T.bool (!(decide (isPat x1.Letter))))) rfl)) ?_
            refine bool_way (!(decide (isPat x1.Letter))) (fun hg46_14 => ?_) (fun hg46_14 => ?_)
            · have fhg46_14 : ¬ (isPat x1.Letter) := ndT hg46_14
              refine VRunD.off rfl (VWant.not (b := (!(decide (isPat x1.Letter)))) rfl rfl hg46_14) ?_
              refine VRunD.off rfl (VWant.not (b := (!(decide (isPat x1.Letter)))) rfl rfl hg46_14) ?_
              refine VRunD.off rfl (VWant.not (b := (!(decide (isPat x1.Letter)))) rfl rfl hg46_14) ?_
              refine VRunD.off rfl (VWant.not (b := (!(decide (isPat x1.Letter)))) rfl rfl hg46_14) ?_
              refine VRunD.free rfl VWant.always rfl (OF.pickT (VEv.tmpB (b := (!(decide (isPat x1.Letter)))) rfl hg46_14) (VEv.bool true)) ?_
              refine VRunD.free rfl VWant.always rfl (OF.move (VEv.tmp (t := (T.bool true)) rfl)) ?_
              refine VRunD.off rfl (VWant.not (b := true) rfl rfl rfl) ?_
              refine VRunD.off rfl (VWant.not (b := true) rfl rfl rfl) ?_
              refine VRunD.off rfl (VWant.not (b := true) rfl rfl rfl) ?_
              refine VRunD.off rfl (VWant.not (b := true) rfl rfl rfl) ?_
              refine VRunD.free rfl VWant.always rfl (OF.pickT (VEv.tmp (t := (T.bool true)) rfl) (VEv.bool true)) ?_
              refine VRunD.nil ?_
              refine vthn.n ?_
              refine VRun.cond (VEv.tmp (t := (T.bool true)) rfl) (fun hk15 => ?_) (fun hk15 => ?_)
              · skip
                refine VRun.seq ?_
                refine VRun.region ?_
                refine VRunO.free VWant.always (OF.assign (VEv.bool false)) ?_
                refine VRunO.nil ?_
                refine vthn.n ?_
                refine VRun.ret ?_
                refine vinB.r ?_
                refine vthn.r ?_
                refine vthn.r ?_
                refine vinB.r ?_
                refine vthn.r ?_
                refine vfin.eq (r' := (T.bool false)) ?_ (vfin.r (VRes.tmp (t := (T.bool false)) rfl VRes.nil) (Give.bool _))
                show (T.bool false) = (T.bool (decide (areNotes a)))
                refine congrArg T.bool ?_
                first | (refine decN ⟨fun h => ⟨by omega, allEnd hI' fhc0⟩, fun h => by have := h.1; omega⟩) | (symm; rw [decide_eq_false_iff_not]; rintro ⟨_, h2⟩; obtain ⟨y, hy, h3, h4, h5, h6, h7, h8⟩ := h2 i fhc0; obtain rfl := same_at hx1 hy; first | omega | contradiction | (obtain ⟨z, hz, h9⟩ := h8 (by omega); obtain rfl := same_at hx2 hz; omega) | (simp_all; done))
              · exact absurd (rfl.symm.trans hk15) (by decide)
            · have fhg46_14 : isPat x1.Letter := ndF hg46_14
              refine VRunD.free rfl (VWant.on (b := (!(decide (isPat x1.Letter)))) rfl rfl hg46_14) rfl (OF.fieldAddrO (VEv.tmp (t := (T.op 0 0)) rfl) fa26_2) ?_
              refine VRunD.look rfl (VWant.on (b := (!(decide (isPat x1.Letter)))) rfl rfl hg46_14) rfl (OL.loadO1 (t := (T.int .i64 x1.Tick)) (VEv.tmp (t := (T.op 0 2)) rfl) rfl rfl st3) ?_
              refine VRunD.quiet (bi := [32, 30, 28, 26, 27, 29, 24, 22, 20, 21, 23, 18, 7, 5, 6, 16, 14, 15, 12, 8, 10, 9, 11, 13, 17, 3, 1, 0, 2, 4, 19, 25, 31, 33]) rfl (VWant.on (b := (!(decide (isPat x1.Letter)))) rfl rfl hg46_14) rfl rfl rfl (ball_nil) (OC.callF (us := [(T.int .i64 x1.Tick), (T.int .i64 0), (T.int .i64 1000)]) (r := (T.bool (decide (0 ≤ x1.Tick ∧ x1.Tick ≤ 1000)))) (r' := (T.bool (decide (0 ≤ x1.Tick ∧ x1.Tick ≤ 1000)))) (objs := []) rfl (VEvs.cons (VEv.tmp (t := (T.int .i64 x1.Tick)) rfl) (VEvs.cons (VEv.int .i64 0) (VEvs.cons (VEv.int .i64 1000) VEvs.nil))) (LendL.cons (Lend.pl rfl) (LendL.cons (Lend.pl rfl) (LendL.cons (Lend.pl rfl) (LendL.nil)))) (W_spec_l1In (n + 1) x1.Tick 0 1000 ) rfl) ?_
              refine VRunD.free rfl (VWant.on (b := (!(decide (isPat x1.Letter)))) rfl rfl hg46_14) rfl (B.not (c := (!(decide (0 ≤ x1.Tick ∧ x1.Tick ≤ 1000)))) (VEv.tmp (t := (T.bool (decide (0 ≤ x1.Tick ∧ x1.Tick ≤ 1000)))) rfl) rfl) ?_
              refine VRunD.free rfl VWant.always rfl (OF.pickF (VEv.tmpB (b := (!(decide (isPat x1.Letter)))) rfl hg46_14) (VEv.tmp (t := (T.bool (!(decide (0 ≤ x1.Tick ∧ x1.Tick ≤ 1000))))) rfl)) ?_
              refine VRunD.free rfl VWant.always rfl (OF.move (VEv.tmp (t := (T.bool (!(decide (0 ≤ x1.Tick ∧ x1.Tick ≤ 1000))))) rfl)) ?_
              refine bool_way (!(decide (0 ≤ x1.Tick ∧ x1.Tick ≤ 1000))) (fun hg52_16 => ?_) (fun hg52_16 => ?_)
              · have fhg52_16 : ¬ (0 ≤ x1.Tick ∧ x1.Tick ≤ 1000) := ndT hg52_16
                refine VRunD.off rfl (VWant.not (b := (!(decide (0 ≤ x1.Tick ∧ x1.Tick ≤ 1000)))) rfl rfl hg52_16) ?_
                refine VRunD.off rfl (VWant.not (b := (!(decide (0 ≤ x1.Tick ∧ x1.Tick ≤ 1000)))) rfl rfl hg52_16) ?_
                refine VRunD.off rfl (VWant.not (b := (!(decide (0 ≤ x1.Tick ∧ x1.Tick ≤ 1000)))) rfl rfl hg52_16) ?_
                refine VRunD.off rfl (VWant.not (b := (!(decide (0 ≤ x1.Tick ∧ x1.Tick ≤ 1000)))) rfl rfl hg52_16) ?_
                refine VRunD.free rfl VWant.always rfl (OF.pickT (VEv.tmpB (b := (!(decide (0 ≤ x1.Tick ∧ x1.Tick ≤ 1000)))) rfl hg52_16) (VEv.bool true)) ?_
                refine VRunD.nil ?_
                refine vthn.n ?_
                refine VRun.cond (VEv.tmp (t := (T.bool true)) rfl) (fun hk17 => ?_) (fun hk17 => ?_)
                · skip
                  refine VRun.seq ?_
                  refine VRun.region ?_
                  refine VRunO.free VWant.always (OF.assign (VEv.bool false)) ?_
                  refine VRunO.nil ?_
                  refine vthn.n ?_
                  refine VRun.ret ?_
                  refine vinB.r ?_
                  refine vthn.r ?_
                  refine vthn.r ?_
                  refine vinB.r ?_
                  refine vthn.r ?_
                  refine vfin.eq (r' := (T.bool false)) ?_ (vfin.r (VRes.tmp (t := (T.bool false)) rfl VRes.nil) (Give.bool _))
                  show (T.bool false) = (T.bool (decide (areNotes a)))
                  refine congrArg T.bool ?_
                  first | (refine decN ⟨fun h => ⟨by omega, allEnd hI' fhc0⟩, fun h => by have := h.1; omega⟩) | (symm; rw [decide_eq_false_iff_not]; rintro ⟨_, h2⟩; obtain ⟨y, hy, h3, h4, h5, h6, h7, h8⟩ := h2 i fhc0; obtain rfl := same_at hx1 hy; first | omega | contradiction | (obtain ⟨z, hz, h9⟩ := h8 (by omega); obtain rfl := same_at hx2 hz; omega) | (simp_all; done))
                · exact absurd (rfl.symm.trans hk17) (by decide)
              · have fhg52_16 : 0 ≤ x1.Tick ∧ x1.Tick ≤ 1000 := ndF hg52_16
                refine VRunD.free rfl (VWant.on (b := (!(decide (0 ≤ x1.Tick ∧ x1.Tick ≤ 1000)))) rfl rfl hg52_16) rfl (OF.fieldAddrO (VEv.tmp (t := (T.op 0 0)) rfl) fa26_3) ?_
                refine VRunD.look rfl (VWant.on (b := (!(decide (0 ≤ x1.Tick ∧ x1.Tick ≤ 1000)))) rfl rfl hg52_16) rfl (OL.loadO1 (t := (T.int .i64 x1.Who)) (VEv.tmp (t := (T.op 0 3)) rfl) rfl rfl st3) ?_
                refine VRunD.quiet (bi := [38, 36, 34, 32, 33, 35, 30, 28, 26, 27, 29, 24, 22, 20, 21, 23, 18, 7, 5, 6, 16, 14, 15, 12, 8, 10, 9, 11, 13, 17, 3, 1, 0, 2, 4, 19, 25, 31, 37, 39]) rfl (VWant.on (b := (!(decide (0 ≤ x1.Tick ∧ x1.Tick ≤ 1000)))) rfl rfl hg52_16) rfl rfl rfl (ball_nil) (OC.callF (us := [(T.int .i64 x1.Who), (T.int .i64 1), (T.int .i64 9)]) (r := (T.bool (decide (1 ≤ x1.Who ∧ x1.Who ≤ 9)))) (r' := (T.bool (decide (1 ≤ x1.Who ∧ x1.Who ≤ 9)))) (objs := []) rfl (VEvs.cons (VEv.tmp (t := (T.int .i64 x1.Who)) rfl) (VEvs.cons (VEv.int .i64 1) (VEvs.cons (VEv.int .i64 9) VEvs.nil))) (LendL.cons (Lend.pl rfl) (LendL.cons (Lend.pl rfl) (LendL.cons (Lend.pl rfl) (LendL.nil)))) (W_spec_l1In (n + 1) x1.Who 1 9 ) rfl) ?_
                refine VRunD.free rfl (VWant.on (b := (!(decide (0 ≤ x1.Tick ∧ x1.Tick ≤ 1000)))) rfl rfl hg52_16) rfl (B.not (c := (!(decide (1 ≤ x1.Who ∧ x1.Who ≤ 9)))) (VEv.tmp (t := (T.bool (decide (1 ≤ x1.Who ∧ x1.Who ≤ 9)))) rfl) rfl) ?_
                refine VRunD.free rfl VWant.always rfl (OF.pickF (VEv.tmpB (b := (!(decide (0 ≤ x1.Tick ∧ x1.Tick ≤ 1000)))) rfl hg52_16) (VEv.tmp (t := (T.bool (!(decide (1 ≤ x1.Who ∧ x1.Who ≤ 9))))) rfl)) ?_
                refine VRunD.nil ?_
                refine vthn.n ?_
                refine VRun.cond (VEv.tmp (t := (T.bool (!(decide (1 ≤ x1.Who ∧ x1.Who ≤ 9))))) rfl) (fun hc1 => ?_) (fun hc1 => ?_)
                · have fhc1 : ¬ (1 ≤ x1.Who ∧ x1.Who ≤ 9) := ndT hc1
                  refine VRun.seq ?_
                  refine VRun.region ?_
                  refine VRunO.free VWant.always (OF.assign (VEv.bool false)) ?_
                  refine VRunO.nil ?_
                  refine vthn.n ?_
                  refine VRun.ret ?_
                  refine vinB.r ?_
                  refine vthn.r ?_
                  refine vthn.r ?_
                  refine vinB.r ?_
                  refine vthn.r ?_
                  refine vfin.eq (r' := (T.bool false)) ?_ (vfin.r (VRes.tmp (t := (T.bool false)) rfl VRes.nil) (Give.bool _))
                  show (T.bool false) = (T.bool (decide (areNotes a)))
                  refine congrArg T.bool ?_
                  first | (refine decN ⟨fun h => ⟨by omega, allEnd hI' fhc0⟩, fun h => by have := h.1; omega⟩) | (symm; rw [decide_eq_false_iff_not]; rintro ⟨_, h2⟩; obtain ⟨y, hy, h3, h4, h5, h6, h7, h8⟩ := h2 i fhc0; obtain rfl := same_at hx1 hy; first | omega | contradiction | (obtain ⟨z, hz, h9⟩ := h8 (by omega); obtain rfl := same_at hx2 hz; omega) | (simp_all; done))
                · have fhc1 : 1 ≤ x1.Who ∧ x1.Who ≤ 9 := ndF hc1
                  refine VRun.skip ?_
                  refine vinB.n ?_
                  refine vthn.n ?_
                  refine VRun.region ?_
                  refine VRunO.free VWant.always (OF.move (VEv.tmp (t := (T.int .i64 ((i : Nat) : Int))) rfl)) ?_
                  refine VRunO.free VWant.always (B.add (n := (((i + 1) : Nat) : Int)) (VEv.tmp (t := (T.int .i64 ((i : Nat) : Int))) rfl) (VEv.int .i64 1) (by first | exact hw _ (List.mem_of_getElem? hx1) | rfl | (rw [wrap64 (by omega)]; done) | (rw [wrap64 (by omega)]; omega) | (rw [wrap64 (by omega)]; push_cast; omega) | omega)) ?_
                  refine VRunO.free VWant.always (OF.assign (VEv.tmp (t := (T.int .i64 (((i + 1) : Nat) : Int))) rfl)) ?_
                  refine VRunO.nil ?_
                  refine vthn.n ?_
                  refine ⟨(i + 1 : Nat), ?_, ?_, Wk.mk (fun k => k) ?_ ?_ ?_⟩
                  · refine allNext hI0 fhc0 ⟨x1, hx1, by omega, by omega, by assumption, by omega, by omega, fun h0 => ?_⟩
                    first | (exact absurd h0 (by omega)) | (exact ⟨x2, hx2, by omega⟩)
                  · first | omega | (simp only []; omega) | (show _ < _; omega) | (simp; omega)
                  · exact (ball_cons ⟨rfl, rfl⟩ (ball_cons ⟨rfl, rfl⟩ (ball_nil)))
                  · exact (ball_nil)
                  · show List.Nodup ([] : List Nat)
                    decide
    · have fhc0 : ¬ (i < a.length) := of_decide_eq_false hc0
      refine VRun.exit ?_
      refine vthn.e ?_
      refine vthn.e ?_
      refine vinB.e ?_
      refine vthn.n ?_
      refine VRun.seq ?_
      refine VRun.region ?_
      refine VRunO.free VWant.always (OF.move (VEv.tmp (t := (T.sl false 4 (a.map (eNote false)))) rfl)) ?_
      refine VRunO.look VWant.always (B.lenR (m := a.length) (VEv.tmp (t := (T.sl false 4 (a.map (eNote false)))) rfl) Try.underlying39 (List.length_map ..)) ?_
      refine VRunO.free VWant.always (B.leq (c := (decide (a.length ≤ 40))) (VEv.tmp (t := (T.int .i64 ((a.length : Nat) : Int))) rfl) (VEv.int .i64 40) (by first | exact hw _ (List.mem_of_getElem? hx1) | (exact decN (by omega)))) ?_
      refine VRunO.free VWant.always (OF.assign (VEv.tmp (t := (T.bool (decide (a.length ≤ 40)))) rfl)) ?_
      refine VRunO.nil ?_
      refine vthn.n ?_
      refine VRun.ret ?_
      refine vfin.eq (r' := (T.bool (decide (a.length ≤ 40)))) ?_ (vfin.r (VRes.tmp (t := (T.bool (decide (a.length ≤ 40)))) rfl VRes.nil) (Give.bool _))
      show (T.bool (decide (a.length ≤ 40))) = (T.bool (decide (areNotes a)))
      refine congrArg T.bool ?_
      first | (refine decN ⟨fun h => ⟨by omega, allEnd hI' fhc0⟩, fun h => by have := h.1; omega⟩) | (symm; rw [decide_eq_false_iff_not]; rintro ⟨_, h2⟩; obtain ⟨y, hy, h3, h4, h5, h6, h7, h8⟩ := h2 i fhc0; obtain rfl := same_at hx1 hy; first | omega | contradiction | (obtain ⟨z, hz, h9⟩ := h8 (by omega); obtain rfl := same_at hx2 hz; omega) | (simp_all; done))
theorem W_impl_AreNotes (n : Nat) (a : List D.Note) (hz : zL zNote a ≤ mx) : Pure (acall Try.prog (n + 3)) 31 [(T.sl false 4 (a.map (eNote false)))] (T.bool (decide (areNotes a))) := by
  refine Pure.intro (rs := [ResultVar.tmp 2]) Try.func31 rfl rfl rfl (E0 := [(0, (T.sl false 4 (a.map (eNote false))))]) rfl ?_
  have hlim : lim = 1099511627776 := rfl
  have hmx : mx = 1048576 := rfl
  have hmax : maxLen = 9223372036854775807 := rfl
  have ha := zL_len (z := zNote) a
  have hw : ∀ x ∈ a, x.Letter.size ≤ maxLen := fun x hx => by have h1 := zL_mem (z := zNote) hx; simp only [zNote] at h1; omega
  refine VRun.seq ?_
  refine VRun.region ?_
  refine VRunO.free VWant.always (OF.assign (VEv.bool false)) ?_
  refine VRunO.nil ?_
  refine vthn.n ?_
  refine VRun.seq ?_
  refine VRun.seq ?_
  refine VRun.region ?_
  refine VRunO.free VWant.always (OF.move (VEv.tmp (t := (T.sl false 4 (a.map (eNote false)))) rfl)) ?_
  refine VRunO.look VWant.always (B.lenR (m := a.length) (VEv.tmp (t := (T.sl false 4 (a.map (eNote false)))) rfl) Try.underlying39 (List.length_map ..)) ?_
  refine VRunO.free VWant.always (B.gtr (c := (decide (40 < a.length))) (VEv.tmp (t := (T.int .i64 ((a.length : Nat) : Int))) rfl) (VEv.int .i64 40) (by first | exact hw _ (List.mem_of_getElem? hx1) | (exact decN (by omega)))) ?_
  refine VRunO.nil ?_
  refine vthn.n ?_
  refine VRun.cond (VEv.tmp (t := (T.bool (decide (40 < a.length)))) rfl) (fun hc0 => ?_) (fun hc0 => ?_)
  · have fhc0 : 40 < a.length := of_decide_eq_true hc0
    refine VRun.seq ?_
    refine VRun.region ?_
    refine VRunO.free VWant.always (OF.assign (VEv.bool false)) ?_
    refine VRunO.nil ?_
    refine vthn.n ?_
    refine VRun.ret ?_
    refine vthn.r ?_
    refine vfin.eq (r' := (T.bool false)) ?_ (vfin.r (VRes.tmp (t := (T.bool false)) rfl VRes.nil) (Give.bool _))
    show (T.bool false) = (T.bool (decide (areNotes a)))
    refine congrArg T.bool ?_
    first | (symm; rw [decide_eq_false_iff_not]; rintro ⟨h2, _⟩; omega) | (symm; rw [decide_eq_true_eq]; exact ⟨by omega, allEnd hI' fhc1⟩) | (symm; rw [decide_eq_false_iff_not]; rintro ⟨_, h2⟩; obtain ⟨y, hy, h3, h4, h5, h6, h7, h8⟩ := h2 i fhc1; obtain rfl := same_at hx1 hy; first | omega | contradiction | (obtain ⟨z, hz, h9⟩ := h8 (by omega); obtain rfl := same_at hx2 hz; omega) | (simp_all; done))
  · have fhc0 : ¬ (40 < a.length) := of_decide_eq_false hc0
    refine VRun.skip ?_
    refine vthn.n ?_
    refine VRun.seq ?_
    refine VRun.seq ?_
    refine VRun.region ?_
    refine VRunO.free VWant.always (OF.move (VEv.tmp (t := (T.sl false 4 (a.map (eNote false)))) rfl)) ?_
    refine VRunO.look VWant.always (B.lenR (m := a.length) (VEv.tmp (t := (T.sl false 4 (a.map (eNote false)))) rfl) Try.underlying39 (List.length_map ..)) ?_
    refine VRunO.free VWant.always (OF.move (VEv.int .i64 0)) ?_
    refine VRunO.nil ?_
    refine vthn.n ?_
    refine VRun.block ?_
    refine VRun.loop (A := Nat) (fun s_ => [(0, (T.sl false 4 (a.map (eNote false)))), (8, (T.sl false 4 (a.map (eNote false)))), (9, (T.int .i64 ((a.length : Nat) : Int))), (10, (T.int .i64 ((s_ : Nat) : Int)))]) (fun s_ => mkO []) 0 (fun s_ => s_ ≤ a.length ∧ ∀ j, j < s_ → noteOk a j) (fun s_ => a.length - s_) (0 : Nat) ?_ (Wk.mk (fun k => k) ?_ ?_ ?_) ?_
    · exact ⟨Nat.zero_le _, fun j hj => by omega⟩
    · exact (ball_cons ⟨rfl, rfl⟩ (ball_cons ⟨rfl, rfl⟩ (ball_cons ⟨rfl, rfl⟩ (ball_cons ⟨(congrArg (T.int .i64) (show 0 = ((0 : Nat) : Int) from (by first | rfl | omega | (simp; done) | (push_cast; omega)))), rfl⟩ (ball_nil)))))
    · exact (ball_nil)
    · show List.Nodup ([] : List Nat)
      decide
    · rintro i hI
      have hI' : i ≤ a.length ∧ ∀ j, j < i → noteOk a j := hI
      clear hI
      show VRun _ _ _ [(0, (T.sl false 4 (a.map (eNote false)))), (8, (T.sl false 4 (a.map (eNote false)))), (9, (T.int .i64 ((a.length : Nat) : Int))), (10, (T.int .i64 ((i : Nat) : Int)))] (mkO []) 0 _
      have hI0 := hI'
      refine VRun.seq ?_
      refine VRun.region ?_
      refine VRunO.free VWant.always (B.lss (c := (decide (i < a.length))) (VEv.tmp (t := (T.int .i64 ((i : Nat) : Int))) rfl) (VEv.tmp (t := (T.int .i64 ((a.length : Nat) : Int))) rfl) (by first | exact hw _ (List.mem_of_getElem? hx1) | (exact decN (by omega)))) ?_
      refine VRunO.nil ?_
      refine vthn.n ?_
      refine VRun.seq ?_
      refine VRun.cond (VEv.tmp (t := (T.bool (decide (i < a.length)))) rfl) (fun hc1 => ?_) (fun hc1 => ?_)
      · have fhc1 : i < a.length := of_decide_eq_true hc1
        refine VRun.skip ?_
        refine vthn.n ?_
        refine VRun.seq ?_
        refine VRun.block ?_
        refine VRun.seq ?_
        refine VRun.region ?_
        refine VRunO.free VWant.always (OF.move (VEv.tmp (t := (T.int .i64 ((i : Nat) : Int))) rfl)) ?_
        obtain ⟨x1, hx1⟩ : ∃ x, a[i]? = some x := ⟨_, List.getElem?_eq_getElem (by first | exact hw _ (List.mem_of_getElem? hx1) | omega | (simp only [List.length_map]; omega) | (simp only [List.length_map, List.length_append, List.length_cons, List.length_nil, List.length_replicate, List.length_set, List.length_drop, List.length_take, lim] at *; omega))⟩
        refine VRunO.free VWant.always (OF.indexAddrR (row := (eNote false x1)) (i := i) (VEv.tmp (t := (T.sl false 4 (a.map (eNote false)))) rfl) (VEv.tmp (t := (T.int .i64 ((i : Nat) : Int))) rfl) rfl (map_at _ hx1) Try.underlying39 sz26 if26) ?_
        refine VRunO.look VWant.always (OL.loadRn (us := (eNote false x1)) (VEv.tmp (t := (T.rp [(T.int .i64 x1.Cell), (T.str x1.Letter), (T.int .i64 x1.Tick), (T.int .i64 x1.Who)])) rfl) st26 sz26 (Nat.le_of_ble_eq_true rfl) rfl) ?_
        refine VRunO.make VWant.always (B.alloc (t := (T.agg [(T.int .i64 0), (T.str ByteArray.empty), (T.int .i64 0), (T.int .i64 0)])) (ts := [(T.int .i64 0), (T.str ByteArray.empty), (T.int .i64 0), (T.int .i64 0)]) zo26 zc26 nofun (fun _ => .agg _ _ rfl (RLof (RL.cons (.int _ _) (RL.cons (.str _) (RL.cons (.int _ _) (RL.cons (.int _ _) (RL.nil _))))))) rfl) ?_
        refine VRunO.free VWant.always (OF.assign (VEv.tmp (t := (T.int .i64 ((i : Nat) : Int))) rfl)) ?_
        refine VRunO.chain VWant.always (B.storeO (us := [(T.int .i64 x1.Cell), (T.str x1.Letter), (T.int .i64 x1.Tick), (T.int .i64 x1.Who)]) (ws := [(T.int .i64 x1.Cell), (T.str x1.Letter), (T.int .i64 x1.Tick), (T.int .i64 x1.Who)]) (VEv.tmp (t := (T.op 0 0)) rfl) (VEv.tmp (t := (T.agg (eNote false x1))) rfl) nofun rfl rfl (Nat.le_of_ble_eq_true rfl) if26 sz26 (ball_cons rfl (ball_cons rfl (ball_cons rfl (ball_cons rfl (ball_nil))))) rfl) ?_
        refine VRunO.nil ?_
        refine vthn.n ?_
        refine VRun.seq ?_
        refine VRun.draw (B := [[], [0], [0, 1], [1, 0, 2], [1, 0, 2], [2, 0, 1, 4], [4, 5, 2, 0, 1, 3], [3, 1, 0, 2, 5, 4, 6], [6, 4, 5, 2, 0, 1, 3, 7], [1, 0, 2], [2, 0, 1, 9], [9, 10, 7, 3, 1, 0, 2, 5, 4, 6, 8], [8, 6, 4, 5, 3, 7, 10, 9, 11, 1, 0, 2], [2, 0, 1, 11, 9, 10, 7, 3, 5, 4, 6, 8, 12], [12, 8, 6, 4, 5, 3, 7, 10, 9, 11, 1, 0, 2, 13], [13, 2, 0, 1, 11, 9, 10, 7, 3, 5, 4, 6, 8, 12, 14], [14, 12, 8, 6, 4, 5, 3, 7, 10, 9, 11, 1, 0, 2, 13, 15], [15, 13, 2, 0, 1, 11, 9, 10, 7, 3, 5, 4, 6, 8, 12, 14, 16], [16, 14, 15, 17, 12, 8, 6, 4, 5, 3, 7, 10, 9, 11, 1, 0, 2, 13], [13, 2, 0, 1, 11, 9, 10, 7, 3, 5, 4, 6, 8, 12, 17, 15, 14, 16, 18], [18, 16, 14, 15, 17, 12, 8, 6, 4, 5, 3, 7, 10, 9, 11, 1, 0, 2, 13, 19], [19, 13, 2, 0, 1, 11, 9, 10, 7, 3, 5, 4, 6, 8, 12, 17, 15, 14, 16, 18, 20], [20, 18, 16, 14, 15, 17, 12, 8, 6, 4, 5, 3, 7, 10, 9, 11, 1, 0, 2, 13, 19, 21], [21, 19, 13, 2, 0, 1, 11, 9, 10, 7, 3, 5, 4, 6, 8, 12, 17, 15, 14, 16, 18, 20, 22], [22, 20, 21, 23, 18, 16, 14, 15, 17, 12, 8, 6, 4, 5, 3, 7, 10, 9, 11, 1, 0, 2, 13, 19], [19, 13, 2, 0, 1, 11, 9, 10, 7, 3, 5, 4, 6, 8, 12, 17, 15, 14, 16, 18, 23, 21, 20, 22, 24], [24, 22, 20, 21, 23, 18, 16, 14, 15, 17, 12, 8, 6, 4, 5, 3, 7, 10, 9, 11, 1, 0, 2, 13, 19, 25], [25, 19, 13, 2, 0, 1, 11, 9, 10, 7, 3, 5, 4, 6, 8, 12, 17, 15, 14, 16, 18, 23, 21, 20, 22, 24, 26], [26, 24, 22, 20, 21, 23, 18, 16, 14, 15, 17, 12, 8, 6, 4, 5, 3, 7, 10, 9, 11, 1, 0, 2, 13, 19, 25, 27], [27, 25, 19, 13, 2, 0, 1, 11, 9, 10, 7, 3, 5, 4, 6, 8, 12, 17, 15, 14, 16, 18, 23, 21, 20, 22, 24, 26, 28], [28, 26, 27, 29, 24, 22, 20, 21, 23, 18, 16, 14, 15, 17, 12, 8, 6, 4, 5, 3, 7, 10, 9, 11, 1, 0, 2, 13, 19, 25], [25, 19, 13, 2, 0, 1, 11, 9, 10, 7, 3, 5, 4, 6, 8, 12, 17, 15, 14, 16, 18, 23, 21, 20, 22, 24, 29, 27, 26, 28, 30], [30, 28, 26, 27, 29, 24, 22, 20, 21, 23, 18, 16, 14, 15, 17, 12, 8, 6, 4, 5, 3, 7, 10, 9, 11, 1, 0, 2, 13, 19, 25, 31], [31, 25, 19, 13, 2, 0, 1, 11, 9, 10, 7, 3, 5, 4, 6, 8, 12, 17, 15, 14, 16, 18, 23, 21, 20, 22, 24, 29, 27, 26, 28, 30, 32], [32, 30, 28, 26, 27, 29, 24, 22, 20, 21, 23, 18, 16, 14, 15, 17, 12, 8, 6, 4, 5, 3, 7, 10, 9, 11, 1, 0, 2, 13, 19, 25, 31, 33], [33, 31, 25, 19, 13, 2, 0, 1, 11, 9, 10, 7, 3, 5, 4, 6, 8, 12, 17, 15, 14, 16, 18, 23, 21, 20, 22, 24, 29, 27, 26, 28, 30, 32, 34], [34, 32, 33, 35, 30, 28, 26, 27, 29, 24, 22, 20, 21, 23, 18, 16, 14, 15, 17, 12, 8, 6, 4, 5, 3, 7, 10, 9, 11, 1, 0, 2, 13, 19, 25, 31], [31, 25, 19, 13, 2, 0, 1, 11, 9, 10, 7, 3, 5, 4, 6, 8, 12, 17, 15, 14, 16, 18, 23, 21, 20, 22, 24, 29, 27, 26, 28, 30, 35, 33, 32, 34, 36], [36, 34, 32, 33, 35, 30, 28, 26, 27, 29, 24, 22, 20, 21, 23, 18, 16, 14, 15, 17, 12, 8, 6, 4, 5, 3, 7, 10, 9, 11, 1, 0, 2, 13, 19, 25, 31, 37], [37, 31, 25, 19, 13, 2, 0, 1, 11, 9, 10, 7, 3, 5, 4, 6, 8, 12, 17, 15, 14, 16, 18, 23, 21, 20, 22, 24, 29, 27, 26, 28, 30, 35, 33, 32, 34, 36, 38], [38, 36, 34, 32, 33, 35, 30, 28, 26, 27, 29, 24, 22, 20, 21, 23, 18, 16, 14, 15, 17, 12, 8, 6, 4, 5, 3, 7, 10, 9, 11, 1, 0, 2, 13, 19, 25, 31, 37, 39], [39, 37, 31, 25, 19, 13, 2, 0, 1, 11, 9, 10, 7, 3, 5, 4, 6, 8, 12, 17, 15, 14, 16, 18, 23, 21, 20, 22, 24, 29, 27, 26, 28, 30, 35, 33, 32, 34, 36, 38, 40], [40, 38, 39, 41, 36, 34, 32, 33, 35, 30, 28, 26, 27, 29, 24, 22, 20, 21, 23, 18, 16, 14, 15, 17, 12, 8, 6, 4, 5, 3, 7, 10, 9, 11, 1, 0, 2, 13, 19, 25, 31, 37]]) (by kernel_rfl) (by kernel_rfl) ?_
        refine VRunD.free rfl VWant.always rfl (OF.move (VEv.tmp (t := (T.int .i64 ((i : Nat) : Int))) rfl)) ?_
        refine VRunD.free rfl VWant.always rfl (B.gtr (c := (decide (0 < i))) (VEv.tmp (t := (T.int .i64 ((i : Nat) : Int))) rfl) (VEv.int .i64 0) (by first | exact hw _ (List.mem_of_getElem? hx1) | (exact decN (by omega)))) ?_
        refine VRunD.free rfl VWant.always rfl (OF.move (VEv.tmp (t := (T.bool (decide (0 < i)))) rfl)) ?_
        refine bool_way (decide (0 < i)) (fun hg17_1 => ?_) (fun hg17_1 => ?_)
        · have fhg17_1 : 0 < i := of_decide_eq_true hg17_1
          refine VRunD.free rfl (VWant.on (b := (decide (0 < i))) rfl rfl hg17_1) rfl (OF.move (VEv.tmp (t := (T.sl false 4 (a.map (eNote false)))) rfl)) ?_
          refine VRunD.free rfl (VWant.on (b := (decide (0 < i))) rfl rfl hg17_1) rfl (OF.move (VEv.tmp (t := (T.int .i64 ((i : Nat) : Int))) rfl)) ?_
          refine VRunD.free rfl (VWant.on (b := (decide (0 < i))) rfl rfl hg17_1) rfl (B.sub (n := ((i - 1 : Nat) : Int)) (VEv.tmp (t := (T.int .i64 ((i : Nat) : Int))) rfl) (VEv.int .i64 1) (by first | exact hw _ (List.mem_of_getElem? hx1) | rfl | (rw [wrap64 (by omega)]; done) | (rw [wrap64 (by omega)]; omega) | (rw [wrap64 (by omega)]; push_cast; omega) | omega)) ?_
          obtain ⟨x2, hx2⟩ : ∃ x, a[i - 1]? = some x := ⟨_, List.getElem?_eq_getElem (by first | exact hw _ (List.mem_of_getElem? hx1) | omega | (simp only [List.length_map]; omega) | (simp only [List.length_map, List.length_append, List.length_cons, List.length_nil, List.length_replicate, List.length_set, List.length_drop, List.length_take, lim] at *; omega))⟩
          refine VRunD.free rfl (VWant.on (b := (decide (0 < i))) rfl rfl hg17_1) rfl (OF.indexAddrR (row := (eNote false x2)) (i := i - 1) (VEv.tmp (t := (T.sl false 4 (a.map (eNote false)))) rfl) (VEv.tmp (t := (T.int .i64 ((i - 1 : Nat) : Int))) rfl) rfl (map_at _ hx2) Try.underlying39 sz26 if26) ?_
          refine VRunD.free rfl (VWant.on (b := (decide (0 < i))) rfl rfl hg17_1) rfl (B.fieldAddrR (us := [(T.int .i64 x2.Cell), (T.str x2.Letter), (T.int .i64 x2.Tick), (T.int .i64 x2.Who)]) (VEv.tmp (t := (T.rp [(T.int .i64 x2.Cell), (T.str x2.Letter), (T.int .i64 x2.Tick), (T.int .i64 x2.Who)])) rfl) (Nat.le_of_ble_eq_true rfl) fa26_0 rfl) ?_
          refine VRunD.look rfl (VWant.on (b := (decide (0 < i))) rfl rfl hg17_1) rfl (OL.loadR1 (t := (T.int .i64 x2.Cell)) (VEv.tmp (t := (T.rp [(T.int .i64 x2.Cell), (T.str x2.Letter), (T.int .i64 x2.Tick), (T.int .i64 x2.Who)])) rfl) rfl st3) ?_
          refine VRunD.free rfl (VWant.on (b := (decide (0 < i))) rfl rfl hg17_1) rfl (OF.fieldAddrO (VEv.tmp (t := (T.op 0 0)) rfl) fa26_0) ?_
          refine VRunD.look rfl (VWant.on (b := (decide (0 < i))) rfl rfl hg17_1) rfl (OL.loadO1 (t := (T.int .i64 x1.Cell)) (VEv.tmp (t := (T.op 0 0)) rfl) rfl rfl st3) ?_
          refine VRunD.free rfl (VWant.on (b := (decide (0 < i))) rfl rfl hg17_1) rfl (B.geq (c := (decide (x1.Cell ≤ x2.Cell))) (VEv.tmp (t := (T.int .i64 x2.Cell)) rfl) (VEv.tmp (t := (T.int .i64 x1.Cell)) rfl) rfl) ?_
          refine VRunD.free rfl VWant.always rfl (OF.pickT (VEv.tmpB (b := (decide (0 < i))) rfl hg17_1) (VEv.tmp (t := (T.bool (decide (x1.Cell ≤ x2.Cell)))) rfl)) ?_
          refine VRunD.free rfl VWant.always rfl (OF.move (VEv.tmp (t := (T.bool (decide (x1.Cell ≤ x2.Cell)))) rfl)) ?_
          refine bool_way (decide (x1.Cell ≤ x2.Cell)) (fun hg28_2 => ?_) (fun hg28_2 => ?_)
          · have fhg28_2 : x1.Cell ≤ x2.Cell := of_decide_eq_true hg28_2
            refine VRunD.off rfl (VWant.not (b := (decide (x1.Cell ≤ x2.Cell))) rfl rfl hg28_2) ?_
            refine VRunD.off rfl (VWant.not (b := (decide (x1.Cell ≤ x2.Cell))) rfl rfl hg28_2) ?_
            refine VRunD.off rfl (VWant.not (b := (decide (x1.Cell ≤ x2.Cell))) rfl rfl hg28_2) ?_
            refine VRunD.off rfl (VWant.not (b := (decide (x1.Cell ≤ x2.Cell))) rfl rfl hg28_2) ?_
            refine VRunD.free rfl VWant.always rfl (OF.pickT (VEv.tmpB (b := (decide (x1.Cell ≤ x2.Cell))) rfl hg28_2) (VEv.bool true)) ?_
            refine VRunD.free rfl VWant.always rfl (OF.move (VEv.tmp (t := (T.bool true)) rfl)) ?_
            refine VRunD.off rfl (VWant.not (b := true) rfl rfl rfl) ?_
            refine VRunD.off rfl (VWant.not (b := true) rfl rfl rfl) ?_
            refine VRunD.off rfl (VWant.not (b := true) rfl rfl rfl) ?_
            refine VRunD.off rfl (VWant.not (b := true) rfl rfl rfl) ?_
            refine VRunD.free rfl VWant.always rfl (OF.pickT (VEv.tmp (t := (T.bool true)) rfl) (VEv.bool true)) ?_
            refine VRunD.free rfl VWant.always rfl (OF.move (VEv.tmp (t := (T.bool true)) rfl)) ?_
            refine VRunD.off rfl (VWant.not (b := true) rfl rfl rfl) ?_
            refine VRunD.off rfl (VWant.not (b := true) rfl rfl rfl) ?_
            refine VRunD.off rfl (VWant.not (b := true) rfl rfl rfl) ?_
            refine VRunD.off rfl (VWant.not (b := true) rfl rfl rfl) ?_
            refine VRunD.free rfl VWant.always rfl (OF.pickT (VEv.tmp (t := (T.bool true)) rfl) (VEv.bool true)) ?_
            refine VRunD.free rfl VWant.always rfl (OF.move (VEv.tmp (t := (T.bool true)) rfl)) ?_
            refine VRunD.off rfl (VWant.not (b := true) rfl rfl rfl) ?_
            refine VRunD.off rfl (VWant.not (b := true) rfl rfl rfl) ?_
            refine VRunD.off rfl (VWant.not (b := true) rfl rfl rfl) ?_
            refine VRunD.off rfl (VWant.not (b := true) rfl rfl rfl) ?_
            refine VRunD.free rfl VWant.always rfl (OF.pickT (VEv.tmp (t := (T.bool true)) rfl) (VEv.bool true)) ?_
            refine VRunD.free rfl VWant.always rfl (OF.move (VEv.tmp (t := (T.bool true)) rfl)) ?_
            refine VRunD.off rfl (VWant.not (b := true) rfl rfl rfl) ?_
            refine VRunD.off rfl (VWant.not (b := true) rfl rfl rfl) ?_
            refine VRunD.off rfl (VWant.not (b := true) rfl rfl rfl) ?_
            refine VRunD.off rfl (VWant.not (b := true) rfl rfl rfl) ?_
            refine VRunD.free rfl VWant.always rfl (OF.pickT (VEv.tmp (t := (T.bool true)) rfl) (VEv.bool true)) ?_
            refine VRunD.nil ?_
            refine vthn.n ?_
            refine VRun.cond (VEv.tmp (t := (T.bool true)) rfl) (fun hk3 => ?_) (fun hk3 => ?_)
            · skip
              refine VRun.seq ?_
              refine VRun.region ?_
              refine VRunO.free VWant.always (OF.assign (VEv.bool false)) ?_
              refine VRunO.nil ?_
              refine vthn.n ?_
              refine VRun.ret ?_
              refine vinB.r ?_
              refine vthn.r ?_
              refine vthn.r ?_
              refine vinB.r ?_
              refine vthn.r ?_
              refine vfin.eq (r' := (T.bool false)) ?_ (vfin.r (VRes.tmp (t := (T.bool false)) rfl VRes.nil) (Give.bool _))
              show (T.bool false) = (T.bool (decide (areNotes a)))
              refine congrArg T.bool ?_
              first | (symm; rw [decide_eq_false_iff_not]; rintro ⟨h2, _⟩; omega) | (symm; rw [decide_eq_true_eq]; exact ⟨by omega, allEnd hI' fhc1⟩) | (symm; rw [decide_eq_false_iff_not]; rintro ⟨_, h2⟩; obtain ⟨y, hy, h3, h4, h5, h6, h7, h8⟩ := h2 i fhc1; obtain rfl := same_at hx1 hy; first | omega | contradiction | (obtain ⟨z, hz, h9⟩ := h8 (by omega); obtain rfl := same_at hx2 hz; omega) | (simp_all; done))
            · exact absurd (rfl.symm.trans hk3) (by decide)
          · have fhg28_2 : ¬ (x1.Cell ≤ x2.Cell) := of_decide_eq_false hg28_2
            refine VRunD.free rfl (VWant.on (b := (decide (x1.Cell ≤ x2.Cell))) rfl rfl hg28_2) rfl (OF.fieldAddrO (VEv.tmp (t := (T.op 0 0)) rfl) fa26_0) ?_
            refine VRunD.look rfl (VWant.on (b := (decide (x1.Cell ≤ x2.Cell))) rfl rfl hg28_2) rfl (OL.loadO1 (t := (T.int .i64 x1.Cell)) (VEv.tmp (t := (T.op 0 0)) rfl) rfl rfl st3) ?_
            refine VRunD.quiet (bi := [14, 12, 8, 6, 4, 5, 3, 7, 10, 9, 11, 1, 0, 2, 13, 15]) rfl (VWant.on (b := (decide (x1.Cell ≤ x2.Cell))) rfl rfl hg28_2) rfl rfl rfl (ball_nil) (OC.callF (us := [(T.int .i64 x1.Cell), (T.int .i64 0), (T.int .i64 35)]) (r := (T.bool (decide (0 ≤ x1.Cell ∧ x1.Cell ≤ 35)))) (r' := (T.bool (decide (0 ≤ x1.Cell ∧ x1.Cell ≤ 35)))) (objs := []) rfl (VEvs.cons (VEv.tmp (t := (T.int .i64 x1.Cell)) rfl) (VEvs.cons (VEv.int .i64 0) (VEvs.cons (VEv.int .i64 35) VEvs.nil))) (LendL.cons (Lend.pl rfl) (LendL.cons (Lend.pl rfl) (LendL.cons (Lend.pl rfl) (LendL.nil)))) (W_impl_InRange (n + 1) x1.Cell 0 35 ) rfl) ?_
            refine VRunD.free rfl (VWant.on (b := (decide (x1.Cell ≤ x2.Cell))) rfl rfl hg28_2) rfl (B.not (c := (!(decide (0 ≤ x1.Cell ∧ x1.Cell ≤ 35)))) (VEv.tmp (t := (T.bool (decide (0 ≤ x1.Cell ∧ x1.Cell ≤ 35)))) rfl) rfl) ?_
            refine VRunD.free rfl VWant.always rfl (OF.pickF (VEv.tmpB (b := (decide (x1.Cell ≤ x2.Cell))) rfl hg28_2) (VEv.tmp (t := (T.bool (!(decide (0 ≤ x1.Cell ∧ x1.Cell ≤ 35))))) rfl)) ?_
            refine VRunD.free rfl VWant.always rfl (OF.move (VEv.tmp (t := (T.bool (!(decide (0 ≤ x1.Cell ∧ x1.Cell ≤ 35))))) rfl)) ?_
            refine bool_way (!(decide (0 ≤ x1.Cell ∧ x1.Cell ≤ 35))) (fun hg34_4 => ?_) (fun hg34_4 => ?_)
            · have fhg34_4 : ¬ (0 ≤ x1.Cell ∧ x1.Cell ≤ 35) := ndT hg34_4
              refine VRunD.off rfl (VWant.not (b := (!(decide (0 ≤ x1.Cell ∧ x1.Cell ≤ 35)))) rfl rfl hg34_4) ?_
              refine VRunD.off rfl (VWant.not (b := (!(decide (0 ≤ x1.Cell ∧ x1.Cell ≤ 35)))) rfl rfl hg34_4) ?_
              refine VRunD.off rfl (VWant.not (b := (!(decide (0 ≤ x1.Cell ∧ x1.Cell ≤ 35)))) rfl rfl hg34_4) ?_
              refine VRunD.off rfl (VWant.not (b := (!(decide (0 ≤ x1.Cell ∧ x1.Cell ≤ 35)))) rfl rfl hg34_4) ?_
              refine VRunD.free rfl VWant.always rfl (OF.pickT (VEv.tmpB (b := (!(decide (0 ≤ x1.Cell ∧ x1.Cell ≤ 35)))) rfl hg34_4) (VEv.bool true)) ?_
              refine VRunD.free rfl VWant.always rfl (OF.move (VEv.tmp (t := (T.bool true)) rfl)) ?_
              refine VRunD.off rfl (VWant.not (b := true) rfl rfl rfl) ?_
              refine VRunD.off rfl (VWant.not (b := true) rfl rfl rfl) ?_
              refine VRunD.off rfl (VWant.not (b := true) rfl rfl rfl) ?_
              refine VRunD.off rfl (VWant.not (b := true) rfl rfl rfl) ?_
              refine VRunD.free rfl VWant.always rfl (OF.pickT (VEv.tmp (t := (T.bool true)) rfl) (VEv.bool true)) ?_
              refine VRunD.free rfl VWant.always rfl (OF.move (VEv.tmp (t := (T.bool true)) rfl)) ?_
              refine VRunD.off rfl (VWant.not (b := true) rfl rfl rfl) ?_
              refine VRunD.off rfl (VWant.not (b := true) rfl rfl rfl) ?_
              refine VRunD.off rfl (VWant.not (b := true) rfl rfl rfl) ?_
              refine VRunD.off rfl (VWant.not (b := true) rfl rfl rfl) ?_
              refine VRunD.free rfl VWant.always rfl (OF.pickT (VEv.tmp (t := (T.bool true)) rfl) (VEv.bool true)) ?_
              refine VRunD.free rfl VWant.always rfl (OF.move (VEv.tmp (t := (T.bool true)) rfl)) ?_
              refine VRunD.off rfl (VWant.not (b := true) rfl rfl rfl) ?_
              refine VRunD.off rfl (VWant.not (b := true) rfl rfl rfl) ?_
              refine VRunD.off rfl (VWant.not (b := true) rfl rfl rfl) ?_
              refine VRunD.off rfl (VWant.not (b := true) rfl rfl rfl) ?_
              refine VRunD.free rfl VWant.always rfl (OF.pickT (VEv.tmp (t := (T.bool true)) rfl) (VEv.bool true)) ?_
              refine VRunD.nil ?_
              refine vthn.n ?_
              refine VRun.cond (VEv.tmp (t := (T.bool true)) rfl) (fun hk5 => ?_) (fun hk5 => ?_)
              · skip
                refine VRun.seq ?_
                refine VRun.region ?_
                refine VRunO.free VWant.always (OF.assign (VEv.bool false)) ?_
                refine VRunO.nil ?_
                refine vthn.n ?_
                refine VRun.ret ?_
                refine vinB.r ?_
                refine vthn.r ?_
                refine vthn.r ?_
                refine vinB.r ?_
                refine vthn.r ?_
                refine vfin.eq (r' := (T.bool false)) ?_ (vfin.r (VRes.tmp (t := (T.bool false)) rfl VRes.nil) (Give.bool _))
                show (T.bool false) = (T.bool (decide (areNotes a)))
                refine congrArg T.bool ?_
                first | (symm; rw [decide_eq_false_iff_not]; rintro ⟨h2, _⟩; omega) | (symm; rw [decide_eq_true_eq]; exact ⟨by omega, allEnd hI' fhc1⟩) | (symm; rw [decide_eq_false_iff_not]; rintro ⟨_, h2⟩; obtain ⟨y, hy, h3, h4, h5, h6, h7, h8⟩ := h2 i fhc1; obtain rfl := same_at hx1 hy; first | omega | contradiction | (obtain ⟨z, hz, h9⟩ := h8 (by omega); obtain rfl := same_at hx2 hz; omega) | (simp_all; done))
              · exact absurd (rfl.symm.trans hk5) (by decide)
            · have fhg34_4 : 0 ≤ x1.Cell ∧ x1.Cell ≤ 35 := ndF hg34_4
              refine VRunD.free rfl (VWant.on (b := (!(decide (0 ≤ x1.Cell ∧ x1.Cell ≤ 35)))) rfl rfl hg34_4) rfl (OF.fieldAddrO (VEv.tmp (t := (T.op 0 0)) rfl) fa26_1) ?_
              refine VRunD.look rfl (VWant.on (b := (!(decide (0 ≤ x1.Cell ∧ x1.Cell ≤ 35)))) rfl rfl hg34_4) rfl (OL.loadO1 (t := (T.str x1.Letter)) (VEv.tmp (t := (T.op 0 1)) rfl) rfl rfl st9) ?_
              refine VRunD.look rfl (VWant.on (b := (!(decide (0 ≤ x1.Cell ∧ x1.Cell ≤ 35)))) rfl rfl hg34_4) rfl (B.lenS (VEv.tmp (t := (T.str x1.Letter)) rfl) Try.underlying9) ?_
              refine VRunD.free rfl (VWant.on (b := (!(decide (0 ≤ x1.Cell ∧ x1.Cell ≤ 35)))) rfl rfl hg34_4) rfl (B.neq (c := (!(decide (x1.Letter.size = 1)))) (VEv.tmp (t := (T.int .i64 ((x1.Letter.size : Nat) : Int))) rfl) (VEv.int .i64 1) (by first | exact hw _ (List.mem_of_getElem? hx1) | (exact decNn (by omega)))) ?_
              refine VRunD.free rfl VWant.always rfl (OF.pickF (VEv.tmpB (b := (!(decide (0 ≤ x1.Cell ∧ x1.Cell ≤ 35)))) rfl hg34_4) (VEv.tmp (t := (T.bool (!(decide (x1.Letter.size = 1))))) rfl)) ?_
              refine VRunD.free rfl VWant.always rfl (OF.move (VEv.tmp (t := (T.bool (!(decide (x1.Letter.size = 1))))) rfl)) ?_
              refine bool_way (!(decide (x1.Letter.size = 1))) (fun hg40_6 => ?_) (fun hg40_6 => ?_)
              · have fhg40_6 : ¬ (x1.Letter.size = 1) := ndT hg40_6
                refine VRunD.off rfl (VWant.not (b := (!(decide (x1.Letter.size = 1)))) rfl rfl hg40_6) ?_
                refine VRunD.off rfl (VWant.not (b := (!(decide (x1.Letter.size = 1)))) rfl rfl hg40_6) ?_
                refine VRunD.off rfl (VWant.not (b := (!(decide (x1.Letter.size = 1)))) rfl rfl hg40_6) ?_
                refine VRunD.off rfl (VWant.not (b := (!(decide (x1.Letter.size = 1)))) rfl rfl hg40_6) ?_
                refine VRunD.free rfl VWant.always rfl (OF.pickT (VEv.tmpB (b := (!(decide (x1.Letter.size = 1)))) rfl hg40_6) (VEv.bool true)) ?_
                refine VRunD.free rfl VWant.always rfl (OF.move (VEv.tmp (t := (T.bool true)) rfl)) ?_
                refine VRunD.off rfl (VWant.not (b := true) rfl rfl rfl) ?_
                refine VRunD.off rfl (VWant.not (b := true) rfl rfl rfl) ?_
                refine VRunD.off rfl (VWant.not (b := true) rfl rfl rfl) ?_
                refine VRunD.off rfl (VWant.not (b := true) rfl rfl rfl) ?_
                refine VRunD.free rfl VWant.always rfl (OF.pickT (VEv.tmp (t := (T.bool true)) rfl) (VEv.bool true)) ?_
                refine VRunD.free rfl VWant.always rfl (OF.move (VEv.tmp (t := (T.bool true)) rfl)) ?_
                refine VRunD.off rfl (VWant.not (b := true) rfl rfl rfl) ?_
                refine VRunD.off rfl (VWant.not (b := true) rfl rfl rfl) ?_
                refine VRunD.off rfl (VWant.not (b := true) rfl rfl rfl) ?_
                refine VRunD.off rfl (VWant.not (b := true) rfl rfl rfl) ?_
                refine VRunD.free rfl VWant.always rfl (OF.pickT (VEv.tmp (t := (T.bool true)) rfl) (VEv.bool true)) ?_
                refine VRunD.nil ?_
                refine vthn.n ?_
                refine VRun.cond (VEv.tmp (t := (T.bool true)) rfl) (fun hk7 => ?_) (fun hk7 => ?_)
                · skip
                  refine VRun.seq ?_
                  refine VRun.region ?_
                  refine VRunO.free VWant.always (OF.assign (VEv.bool false)) ?_
                  refine VRunO.nil ?_
                  refine vthn.n ?_
                  refine VRun.ret ?_
                  refine vinB.r ?_
                  refine vthn.r ?_
                  refine vthn.r ?_
                  refine vinB.r ?_
                  refine vthn.r ?_
                  refine vfin.eq (r' := (T.bool false)) ?_ (vfin.r (VRes.tmp (t := (T.bool false)) rfl VRes.nil) (Give.bool _))
                  show (T.bool false) = (T.bool (decide (areNotes a)))
                  refine congrArg T.bool ?_
                  first | (symm; rw [decide_eq_false_iff_not]; rintro ⟨h2, _⟩; omega) | (symm; rw [decide_eq_true_eq]; exact ⟨by omega, allEnd hI' fhc1⟩) | (symm; rw [decide_eq_false_iff_not]; rintro ⟨_, h2⟩; obtain ⟨y, hy, h3, h4, h5, h6, h7, h8⟩ := h2 i fhc1; obtain rfl := same_at hx1 hy; first | omega | contradiction | (obtain ⟨z, hz, h9⟩ := h8 (by omega); obtain rfl := same_at hx2 hz; omega) | (simp_all; done))
                · exact absurd (rfl.symm.trans hk7) (by decide)
              · have fhg40_6 : x1.Letter.size = 1 := ndF hg40_6
                refine VRunD.free rfl (VWant.on (b := (!(decide (x1.Letter.size = 1)))) rfl rfl hg40_6) rfl (OF.fieldAddrO (VEv.tmp (t := (T.op 0 0)) rfl) fa26_1) ?_
                refine VRunD.look rfl (VWant.on (b := (!(decide (x1.Letter.size = 1)))) rfl rfl hg40_6) rfl (OL.loadO1 (t := (T.str x1.Letter)) (VEv.tmp (t := (T.op 0 1)) rfl) rfl rfl st9) ?_
                refine VRunD.quiet (bi := [26, 24, 22, 20, 21, 23, 18, 16, 14, 15, 17, 12, 8, 6, 4, 5, 3, 7, 10, 9, 11, 1, 0, 2, 13, 19, 25, 27]) rfl (VWant.on (b := (!(decide (x1.Letter.size = 1)))) rfl rfl hg40_6) rfl rfl rfl (ball_nil) (OC.callF (us := [(T.str x1.Letter)]) (r := (T.bool (decide (isPat x1.Letter)))) (r' := (T.bool (decide (isPat x1.Letter)))) (objs := []) rfl (VEvs.cons (VEv.tmp (t := (T.str x1.Letter)) rfl) VEvs.nil) (LendL.cons (Lend.pl rfl) (LendL.nil)) (W_impl_IsPattern (n + 0) x1.Letter (by first | exact hw _ (List.mem_of_getElem? hx1) | assumption | omega | (simp only [List.length_map]; omega) | (simp only [List.length_map, List.length_append, List.length_cons, List.length_nil, List.length_replicate, List.length_set, List.length_drop, List.length_take, lim] at *; omega))) rfl) ?_
                refine VRunD.free rfl (VWant.on (b := (!(decide (x1.Letter.size = 1)))) rfl rfl hg40_6) rfl (B.not (c := (!(decide (isPat x1.Letter)))) (VEv.tmp (t := (T.bool (decide (isPat x1.Letter)))) rfl) rfl) ?_
                refine VRunD.free rfl VWant.always rfl (OF.pickF (VEv.tmpB (b := (!(decide (x1.Letter.size = 1)))) rfl hg40_6) (VEv.tmp (t := (T.bool (!(decide (isPat x1.Letter))))) rfl)) ?_
                refine VRunD.free rfl VWant.always rfl (OF.move (VEv.tmp (t := (T.bool (!(decide (isPat x1.Letter))))) rfl)) ?_
                refine bool_way (!(decide (isPat x1.Letter))) (fun hg46_8 => ?_) (fun hg46_8 => ?_)
                · have fhg46_8 : ¬ (isPat x1.Letter) := ndT hg46_8
                  refine VRunD.off rfl (VWant.not (b := (!(decide (isPat x1.Letter)))) rfl rfl hg46_8) ?_
                  refine VRunD.off rfl (VWant.not (b := (!(decide (isPat x1.Letter)))) rfl rfl hg46_8) ?_
                  refine VRunD.off rfl (VWant.not (b := (!(decide (isPat x1.Letter)))) rfl rfl hg46_8) ?_
                  refine VRunD.off rfl (VWant.not (b := (!(decide (isPat x1.Letter)))) rfl rfl hg46_8) ?_
                  refine VRunD.free rfl VWant.always rfl (OF.pickT (VEv.tmpB (b := (!(decide (isPat x1.Letter)))) rfl hg46_8) (VEv.bool true)) ?_
                  refine VRunD.free rfl VWant.always rfl (OF.move (VEv.tmp (t := (T.bool true)) rfl)) ?_
                  refine VRunD.off rfl (VWant.not (b := true) rfl rfl rfl) ?_
                  refine VRunD.off rfl (VWant.not (b := true) rfl rfl rfl) ?_
                  refine VRunD.off rfl (VWant.not (b := true) rfl rfl rfl) ?_
                  refine VRunD.off rfl (VWant.not (b := true) rfl rfl rfl) ?_
                  refine VRunD.free rfl VWant.always rfl (OF.pickT (VEv.tmp (t := (T.bool true)) rfl) (VEv.bool true)) ?_
                  refine VRunD.nil ?_
                  refine vthn.n ?_
                  refine VRun.cond (VEv.tmp (t := (T.bool true)) rfl) (fun hk9 => ?_) (fun hk9 => ?_)
                  · skip
                    refine VRun.seq ?_
                    refine VRun.region ?_
                    refine VRunO.free VWant.always (OF.assign (VEv.bool false)) ?_
                    refine VRunO.nil ?_
                    refine vthn.n ?_
                    refine VRun.ret ?_
                    refine vinB.r ?_
                    refine vthn.r ?_
                    refine vthn.r ?_
                    refine vinB.r ?_
                    refine vthn.r ?_
                    refine vfin.eq (r' := (T.bool false)) ?_ (vfin.r (VRes.tmp (t := (T.bool false)) rfl VRes.nil) (Give.bool _))
                    show (T.bool false) = (T.bool (decide (areNotes a)))
                    refine congrArg T.bool ?_
                    first | (symm; rw [decide_eq_false_iff_not]; rintro ⟨h2, _⟩; omega) | (symm; rw [decide_eq_true_eq]; exact ⟨by omega, allEnd hI' fhc1⟩) | (symm; rw [decide_eq_false_iff_not]; rintro ⟨_, h2⟩; obtain ⟨y, hy, h3, h4, h5, h6, h7, h8⟩ := h2 i fhc1; obtain rfl := same_at hx1 hy; first | omega | contradiction | (obtain ⟨z, hz, h9⟩ := h8 (by omega); obtain rfl := same_at hx2 hz; omega) | (simp_all; done))
                  · exact absurd (rfl.symm.trans hk9) (by decide)
                · have fhg46_8 : isPat x1.Letter := ndF hg46_8
                  refine VRunD.free rfl (VWant.on (b := (!(decide (isPat x1.Letter)))) rfl rfl hg46_8) rfl (OF.fieldAddrO (VEv.tmp (t := (T.op 0 0)) rfl) fa26_2) ?_
                  refine VRunD.look rfl (VWant.on (b := (!(decide (isPat x1.Letter)))) rfl rfl hg46_8) rfl (OL.loadO1 (t := (T.int .i64 x1.Tick)) (VEv.tmp (t := (T.op 0 2)) rfl) rfl rfl st3) ?_
                  refine VRunD.quiet (bi := [32, 30, 28, 26, 27, 29, 24, 22, 20, 21, 23, 18, 16, 14, 15, 17, 12, 8, 6, 4, 5, 3, 7, 10, 9, 11, 1, 0, 2, 13, 19, 25, 31, 33]) rfl (VWant.on (b := (!(decide (isPat x1.Letter)))) rfl rfl hg46_8) rfl rfl rfl (ball_nil) (OC.callF (us := [(T.int .i64 x1.Tick), (T.int .i64 0), (T.int .i64 1000)]) (r := (T.bool (decide (0 ≤ x1.Tick ∧ x1.Tick ≤ 1000)))) (r' := (T.bool (decide (0 ≤ x1.Tick ∧ x1.Tick ≤ 1000)))) (objs := []) rfl (VEvs.cons (VEv.tmp (t := (T.int .i64 x1.Tick)) rfl) (VEvs.cons (VEv.int .i64 0) (VEvs.cons (VEv.int .i64 1000) VEvs.nil))) (LendL.cons (Lend.pl rfl) (LendL.cons (Lend.pl rfl) (LendL.cons (Lend.pl rfl) (LendL.nil)))) (W_impl_InRange (n + 1) x1.Tick 0 1000 ) rfl) ?_
                  refine VRunD.free rfl (VWant.on (b := (!(decide (isPat x1.Letter)))) rfl rfl hg46_8) rfl (B.not (c := (!(decide (0 ≤ x1.Tick ∧ x1.Tick ≤ 1000)))) (VEv.tmp (t := (T.bool (decide (0 ≤ x1.Tick ∧ x1.Tick ≤ 1000)))) rfl) rfl) ?_
                  refine VRunD.free rfl VWant.always rfl (OF.pickF (VEv.tmpB (b := (!(decide (isPat x1.Letter)))) rfl hg46_8) (VEv.tmp (t := (T.bool (!(decide (0 ≤ x1.Tick ∧ x1.Tick ≤ 1000))))) rfl)) ?_
                  refine VRunD.free rfl VWant.always rfl (OF.move (VEv.tmp (t := (T.bool (!(decide (0 ≤ x1.Tick ∧ x1.Tick ≤ 1000))))) rfl)) ?_
                  refine bool_way (!(decide (0 ≤ x1.Tick ∧ x1.Tick ≤ 1000))) (fun hg52_10 => ?_) (fun hg52_10 => ?_)
                  · have fhg52_10 : ¬ (0 ≤ x1.Tick ∧ x1.Tick ≤ 1000) := ndT hg52_10
                    refine VRunD.off rfl (VWant.not (b := (!(decide (0 ≤ x1.Tick ∧ x1.Tick ≤ 1000)))) rfl rfl hg52_10) ?_
                    refine VRunD.off rfl (VWant.not (b := (!(decide (0 ≤ x1.Tick ∧ x1.Tick ≤ 1000)))) rfl rfl hg52_10) ?_
                    refine VRunD.off rfl (VWant.not (b := (!(decide (0 ≤ x1.Tick ∧ x1.Tick ≤ 1000)))) rfl rfl hg52_10) ?_
                    refine VRunD.off rfl (VWant.not (b := (!(decide (0 ≤ x1.Tick ∧ x1.Tick ≤ 1000)))) rfl rfl hg52_10) ?_
                    refine VRunD.free rfl VWant.always rfl (OF.pickT (VEv.tmpB (b := (!(decide (0 ≤ x1.Tick ∧ x1.Tick ≤ 1000)))) rfl hg52_10) (VEv.bool true)) ?_
                    refine VRunD.nil ?_
                    refine vthn.n ?_
                    refine VRun.cond (VEv.tmp (t := (T.bool true)) rfl) (fun hk11 => ?_) (fun hk11 => ?_)
                    · skip
                      refine VRun.seq ?_
                      refine VRun.region ?_
                      refine VRunO.free VWant.always (OF.assign (VEv.bool false)) ?_
                      refine VRunO.nil ?_
                      refine vthn.n ?_
                      refine VRun.ret ?_
                      refine vinB.r ?_
                      refine vthn.r ?_
                      refine vthn.r ?_
                      refine vinB.r ?_
                      refine vthn.r ?_
                      refine vfin.eq (r' := (T.bool false)) ?_ (vfin.r (VRes.tmp (t := (T.bool false)) rfl VRes.nil) (Give.bool _))
                      show (T.bool false) = (T.bool (decide (areNotes a)))
                      refine congrArg T.bool ?_
                      first | (symm; rw [decide_eq_false_iff_not]; rintro ⟨h2, _⟩; omega) | (symm; rw [decide_eq_true_eq]; exact ⟨by omega, allEnd hI' fhc1⟩) | (symm; rw [decide_eq_false_iff_not]; rintro ⟨_, h2⟩; obtain ⟨y, hy, h3, h4, h5, h6, h7, h8⟩ := h2 i fhc1; obtain rfl := same_at hx1 hy; first | omega | contradiction | (obtain ⟨z, hz, h9⟩ := h8 (by omega); obtain rfl := same_at hx2 hz; omega) | (simp_all; done))
                    · exact absurd (rfl.symm.trans hk11) (by decide)
                  · have fhg52_10 : 0 ≤ x1.Tick ∧ x1.Tick ≤ 1000 := ndF hg52_10
                    refine VRunD.free rfl (VWant.on (b := (!(decide (0 ≤ x1.Tick ∧ x1.Tick ≤ 1000)))) rfl rfl hg52_10) rfl (OF.fieldAddrO (VEv.tmp (t := (T.op 0 0)) rfl) fa26_3) ?_
                    refine VRunD.look rfl (VWant.on (b := (!(decide (0 ≤ x1.Tick ∧ x1.Tick ≤ 1000)))) rfl rfl hg52_10) rfl (OL.loadO1 (t := (T.int .i64 x1.Who)) (VEv.tmp (t := (T.op 0 3)) rfl) rfl rfl st3) ?_
                    refine VRunD.quiet (bi := [38, 36, 34, 32, 33, 35, 30, 28, 26, 27, 29, 24, 22, 20, 21, 23, 18, 16, 14, 15, 17, 12, 8, 6, 4, 5, 3, 7, 10, 9, 11, 1, 0, 2, 13, 19, 25, 31, 37, 39]) rfl (VWant.on (b := (!(decide (0 ≤ x1.Tick ∧ x1.Tick ≤ 1000)))) rfl rfl hg52_10) rfl rfl rfl (ball_nil) (OC.callF (us := [(T.int .i64 x1.Who), (T.int .i64 1), (T.int .i64 9)]) (r := (T.bool (decide (1 ≤ x1.Who ∧ x1.Who ≤ 9)))) (r' := (T.bool (decide (1 ≤ x1.Who ∧ x1.Who ≤ 9)))) (objs := []) rfl (VEvs.cons (VEv.tmp (t := (T.int .i64 x1.Who)) rfl) (VEvs.cons (VEv.int .i64 1) (VEvs.cons (VEv.int .i64 9) VEvs.nil))) (LendL.cons (Lend.pl rfl) (LendL.cons (Lend.pl rfl) (LendL.cons (Lend.pl rfl) (LendL.nil)))) (W_impl_InRange (n + 1) x1.Who 1 9 ) rfl) ?_
                    refine VRunD.free rfl (VWant.on (b := (!(decide (0 ≤ x1.Tick ∧ x1.Tick ≤ 1000)))) rfl rfl hg52_10) rfl (B.not (c := (!(decide (1 ≤ x1.Who ∧ x1.Who ≤ 9)))) (VEv.tmp (t := (T.bool (decide (1 ≤ x1.Who ∧ x1.Who ≤ 9)))) rfl) rfl) ?_
                    refine VRunD.free rfl VWant.always rfl (OF.pickF (VEv.tmpB (b := (!(decide (0 ≤ x1.Tick ∧ x1.Tick ≤ 1000)))) rfl hg52_10) (VEv.tmp (t := (T.bool (!(decide (1 ≤ x1.Who ∧ x1.Who ≤ 9))))) rfl)) ?_
                    refine VRunD.nil ?_
                    refine vthn.n ?_
                    refine VRun.cond (VEv.tmp (t := (T.bool (!(decide (1 ≤ x1.Who ∧ x1.Who ≤ 9))))) rfl) (fun hc2 => ?_) (fun hc2 => ?_)
                    · have fhc2 : ¬ (1 ≤ x1.Who ∧ x1.Who ≤ 9) := ndT hc2
                      refine VRun.seq ?_
                      refine VRun.region ?_
                      refine VRunO.free VWant.always (OF.assign (VEv.bool false)) ?_
                      refine VRunO.nil ?_
                      refine vthn.n ?_
                      refine VRun.ret ?_
                      refine vinB.r ?_
                      refine vthn.r ?_
                      refine vthn.r ?_
                      refine vinB.r ?_
                      refine vthn.r ?_
                      refine vfin.eq (r' := (T.bool false)) ?_ (vfin.r (VRes.tmp (t := (T.bool false)) rfl VRes.nil) (Give.bool _))
                      show (T.bool false) = (T.bool (decide (areNotes a)))
                      refine congrArg T.bool ?_
                      first | (symm; rw [decide_eq_false_iff_not]; rintro ⟨h2, _⟩; omega) | (symm; rw [decide_eq_true_eq]; exact ⟨by omega, allEnd hI' fhc1⟩) | (symm; rw [decide_eq_false_iff_not]; rintro ⟨_, h2⟩; obtain ⟨y, hy, h3, h4, h5, h6, h7, h8⟩ := h2 i fhc1; obtain rfl := same_at hx1 hy; first | omega | contradiction | (obtain ⟨z, hz, h9⟩ := h8 (by omega); obtain rfl := same_at hx2 hz; omega) | (simp_all; done))
                    · have fhc2 : 1 ≤ x1.Who ∧ x1.Who ≤ 9 := ndF hc2
                      refine VRun.skip ?_
                      refine vinB.n ?_
                      refine vthn.n ?_
                      refine VRun.region ?_
                      refine VRunO.free VWant.always (B.add (n := (((i + 1) : Nat) : Int)) (VEv.tmp (t := (T.int .i64 ((i : Nat) : Int))) rfl) (VEv.int .i64 1) (by first | exact hw _ (List.mem_of_getElem? hx1) | rfl | (rw [wrap64 (by omega)]; done) | (rw [wrap64 (by omega)]; omega) | (rw [wrap64 (by omega)]; push_cast; omega) | omega)) ?_
                      refine VRunO.free VWant.always (OF.move (VEv.tmp (t := (T.int .i64 (((i + 1) : Nat) : Int))) rfl)) ?_
                      refine VRunO.nil ?_
                      refine vthn.n ?_
                      refine ⟨(i + 1 : Nat), ?_, ?_, Wk.mk (fun k => k) ?_ ?_ ?_⟩
                      · refine allNext hI0 fhc1 ⟨x1, hx1, by omega, by omega, by assumption, by omega, by omega, fun h0 => ?_⟩
                        first | (exact absurd h0 (by omega)) | (exact ⟨x2, hx2, by omega⟩)
                      · first | omega | (simp only []; omega) | (show _ < _; omega) | (simp; omega)
                      · exact (ball_cons ⟨rfl, rfl⟩ (ball_cons ⟨rfl, rfl⟩ (ball_cons ⟨rfl, rfl⟩ (ball_cons ⟨rfl, rfl⟩ (ball_nil)))))
                      · exact (ball_nil)
                      · show List.Nodup ([] : List Nat)
                        decide
        · have fhg17_1 : ¬ (0 < i) := of_decide_eq_false hg17_1
          refine VRunD.off rfl (VWant.not (b := (decide (0 < i))) rfl rfl hg17_1) ?_
          refine VRunD.off rfl (VWant.not (b := (decide (0 < i))) rfl rfl hg17_1) ?_
          refine VRunD.off rfl (VWant.not (b := (decide (0 < i))) rfl rfl hg17_1) ?_
          refine VRunD.off rfl (VWant.not (b := (decide (0 < i))) rfl rfl hg17_1) ?_
          refine VRunD.off rfl (VWant.not (b := (decide (0 < i))) rfl rfl hg17_1) ?_
          refine VRunD.off rfl (VWant.not (b := (decide (0 < i))) rfl rfl hg17_1) ?_
          refine VRunD.off rfl (VWant.not (b := (decide (0 < i))) rfl rfl hg17_1) ?_
          refine VRunD.off rfl (VWant.not (b := (decide (0 < i))) rfl rfl hg17_1) ?_
          refine VRunD.off rfl (VWant.not (b := (decide (0 < i))) rfl rfl hg17_1) ?_
          refine VRunD.free rfl VWant.always rfl (OF.pickF (VEv.tmpB (b := (decide (0 < i))) rfl hg17_1) (VEv.bool false)) ?_
          refine VRunD.free rfl VWant.always rfl (OF.move (VEv.tmp (t := (T.bool false)) rfl)) ?_
          refine VRunD.free rfl (VWant.on (b := false) rfl rfl rfl) rfl (OF.fieldAddrO (VEv.tmp (t := (T.op 0 0)) rfl) fa26_0) ?_
          refine VRunD.look rfl (VWant.on (b := false) rfl rfl rfl) rfl (OL.loadO1 (t := (T.int .i64 x1.Cell)) (VEv.tmp (t := (T.op 0 0)) rfl) rfl rfl st3) ?_
          refine VRunD.quiet (bi := [14, 12, 8, 6, 4, 5, 3, 7, 10, 9, 11, 1, 0, 2, 13, 15]) rfl (VWant.on (b := false) rfl rfl rfl) rfl rfl rfl (ball_nil) (OC.callF (us := [(T.int .i64 x1.Cell), (T.int .i64 0), (T.int .i64 35)]) (r := (T.bool (decide (0 ≤ x1.Cell ∧ x1.Cell ≤ 35)))) (r' := (T.bool (decide (0 ≤ x1.Cell ∧ x1.Cell ≤ 35)))) (objs := []) rfl (VEvs.cons (VEv.tmp (t := (T.int .i64 x1.Cell)) rfl) (VEvs.cons (VEv.int .i64 0) (VEvs.cons (VEv.int .i64 35) VEvs.nil))) (LendL.cons (Lend.pl rfl) (LendL.cons (Lend.pl rfl) (LendL.cons (Lend.pl rfl) (LendL.nil)))) (W_impl_InRange (n + 1) x1.Cell 0 35 ) rfl) ?_
          refine VRunD.free rfl (VWant.on (b := false) rfl rfl rfl) rfl (B.not (c := (!(decide (0 ≤ x1.Cell ∧ x1.Cell ≤ 35)))) (VEv.tmp (t := (T.bool (decide (0 ≤ x1.Cell ∧ x1.Cell ≤ 35)))) rfl) rfl) ?_
          refine VRunD.free rfl VWant.always rfl (OF.pickF (VEv.tmp (t := (T.bool false)) rfl) (VEv.tmp (t := (T.bool (!(decide (0 ≤ x1.Cell ∧ x1.Cell ≤ 35))))) rfl)) ?_
          refine VRunD.free rfl VWant.always rfl (OF.move (VEv.tmp (t := (T.bool (!(decide (0 ≤ x1.Cell ∧ x1.Cell ≤ 35))))) rfl)) ?_
          refine bool_way (!(decide (0 ≤ x1.Cell ∧ x1.Cell ≤ 35))) (fun hg34_12 => ?_) (fun hg34_12 => ?_)
          · have fhg34_12 : ¬ (0 ≤ x1.Cell ∧ x1.Cell ≤ 35) := ndT hg34_12
            refine VRunD.off rfl (VWant.not (b := (!(decide (0 ≤ x1.Cell ∧ x1.Cell ≤ 35)))) rfl rfl hg34_12) ?_
            refine VRunD.off rfl (VWant.not (b := (!(decide (0 ≤ x1.Cell ∧ x1.Cell ≤ 35)))) rfl rfl hg34_12) ?_
            refine VRunD.off rfl (VWant.not (b := (!(decide (0 ≤ x1.Cell ∧ x1.Cell ≤ 35)))) rfl rfl hg34_12) ?_
            refine VRunD.off rfl (VWant.not (b := (!(decide (0 ≤ x1.Cell ∧ x1.Cell ≤ 35)))) rfl rfl hg34_12) ?_
            refine VRunD.free rfl VWant.always rfl (OF.pickT (VEv.tmpB (b := (!(decide (0 ≤ x1.Cell ∧ x1.Cell ≤ 35)))) rfl hg34_12) (VEv.bool true)) ?_
            refine VRunD.free rfl VWant.always rfl (OF.move (VEv.tmp (t := (T.bool true)) rfl)) ?_
            refine VRunD.off rfl (VWant.not (b := true) rfl rfl rfl) ?_
            refine VRunD.off rfl (VWant.not (b := true) rfl rfl rfl) ?_
            refine VRunD.off rfl (VWant.not (b := true) rfl rfl rfl) ?_
            refine VRunD.off rfl (VWant.not (b := true) rfl rfl rfl) ?_
            refine VRunD.free rfl VWant.always rfl (OF.pickT (VEv.tmp (t := (T.bool true)) rfl) (VEv.bool true)) ?_
            refine VRunD.free rfl VWant.always rfl (OF.move (VEv.tmp (t := (T.bool true)) rfl)) ?_
            refine VRunD.off rfl (VWant.not (b := true) rfl rfl rfl) ?_
            refine VRunD.off rfl (VWant.not (b := true) rfl rfl rfl) ?_
            refine VRunD.off rfl (VWant.not (b := true) rfl rfl rfl) ?_
            refine VRunD.off rfl (VWant.not (b := true) rfl rfl rfl) ?_
            refine VRunD.free rfl VWant.always rfl (OF.pickT (VEv.tmp (t := (T.bool true)) rfl) (VEv.bool true)) ?_
            refine VRunD.free rfl VWant.always rfl (OF.move (VEv.tmp (t := (T.bool true)) rfl)) ?_
            refine VRunD.off rfl (VWant.not (b := true) rfl rfl rfl) ?_
            refine VRunD.off rfl (VWant.not (b := true) rfl rfl rfl) ?_
            refine VRunD.off rfl (VWant.not (b := true) rfl rfl rfl) ?_
            refine VRunD.off rfl (VWant.not (b := true) rfl rfl rfl) ?_
            refine VRunD.free rfl VWant.always rfl (OF.pickT (VEv.tmp (t := (T.bool true)) rfl) (VEv.bool true)) ?_
            refine VRunD.nil ?_
            refine vthn.n ?_
            refine VRun.cond (VEv.tmp (t := (T.bool true)) rfl) (fun hk13 => ?_) (fun hk13 => ?_)
            · skip
              refine VRun.seq ?_
              refine VRun.region ?_
              refine VRunO.free VWant.always (OF.assign (VEv.bool false)) ?_
              refine VRunO.nil ?_
              refine vthn.n ?_
              refine VRun.ret ?_
              refine vinB.r ?_
              refine vthn.r ?_
              refine vthn.r ?_
              refine vinB.r ?_
              refine vthn.r ?_
              refine vfin.eq (r' := (T.bool false)) ?_ (vfin.r (VRes.tmp (t := (T.bool false)) rfl VRes.nil) (Give.bool _))
              show (T.bool false) = (T.bool (decide (areNotes a)))
              refine congrArg T.bool ?_
              first | (symm; rw [decide_eq_false_iff_not]; rintro ⟨h2, _⟩; omega) | (symm; rw [decide_eq_true_eq]; exact ⟨by omega, allEnd hI' fhc1⟩) | (symm; rw [decide_eq_false_iff_not]; rintro ⟨_, h2⟩; obtain ⟨y, hy, h3, h4, h5, h6, h7, h8⟩ := h2 i fhc1; obtain rfl := same_at hx1 hy; first | omega | contradiction | (obtain ⟨z, hz, h9⟩ := h8 (by omega); obtain rfl := same_at hx2 hz; omega) | (simp_all; done))
            · exact absurd (rfl.symm.trans hk13) (by decide)
          · have fhg34_12 : 0 ≤ x1.Cell ∧ x1.Cell ≤ 35 := ndF hg34_12
            refine VRunD.free rfl (VWant.on (b := (!(decide (0 ≤ x1.Cell ∧ x1.Cell ≤ 35)))) rfl rfl hg34_12) rfl (OF.fieldAddrO (VEv.tmp (t := (T.op 0 0)) rfl) fa26_1) ?_
            refine VRunD.look rfl (VWant.on (b := (!(decide (0 ≤ x1.Cell ∧ x1.Cell ≤ 35)))) rfl rfl hg34_12) rfl (OL.loadO1 (t := (T.str x1.Letter)) (VEv.tmp (t := (T.op 0 1)) rfl) rfl rfl st9) ?_
            refine VRunD.look rfl (VWant.on (b := (!(decide (0 ≤ x1.Cell ∧ x1.Cell ≤ 35)))) rfl rfl hg34_12) rfl (B.lenS (VEv.tmp (t := (T.str x1.Letter)) rfl) Try.underlying9) ?_
            refine VRunD.free rfl (VWant.on (b := (!(decide (0 ≤ x1.Cell ∧ x1.Cell ≤ 35)))) rfl rfl hg34_12) rfl (B.neq (c := (!(decide (x1.Letter.size = 1)))) (VEv.tmp (t := (T.int .i64 ((x1.Letter.size : Nat) : Int))) rfl) (VEv.int .i64 1) (by first | exact hw _ (List.mem_of_getElem? hx1) | (exact decNn (by omega)))) ?_
            refine VRunD.free rfl VWant.always rfl (OF.pickF (VEv.tmpB (b := (!(decide (0 ≤ x1.Cell ∧ x1.Cell ≤ 35)))) rfl hg34_12) (VEv.tmp (t := (T.bool (!(decide (x1.Letter.size = 1))))) rfl)) ?_
            refine VRunD.free rfl VWant.always rfl (OF.move (VEv.tmp (t := (T.bool (!(decide (x1.Letter.size = 1))))) rfl)) ?_
            refine bool_way (!(decide (x1.Letter.size = 1))) (fun hg40_14 => ?_) (fun hg40_14 => ?_)
            · have fhg40_14 : ¬ (x1.Letter.size = 1) := ndT hg40_14
              refine VRunD.off rfl (VWant.not (b := (!(decide (x1.Letter.size = 1)))) rfl rfl hg40_14) ?_
              refine VRunD.off rfl (VWant.not (b := (!(decide (x1.Letter.size = 1)))) rfl rfl hg40_14) ?_
              refine VRunD.off rfl (VWant.not (b := (!(decide (x1.Letter.size = 1)))) rfl rfl hg40_14) ?_
              refine VRunD.off rfl (VWant.not (b := (!(decide (x1.Letter.size = 1)))) rfl rfl hg40_14) ?_
              refine VRunD.free rfl VWant.always rfl (OF.pickT (VEv.tmpB (b := (!(decide (x1.Letter.size = 1)))) rfl hg40_14) (VEv.bool true)) ?_
              refine VRunD.free rfl VWant.always rfl (OF.move (VEv.tmp (t := (T.bool true)) rfl)) ?_
              refine VRunD.off rfl (VWant.not (b := true) rfl rfl rfl) ?_
              refine VRunD.off rfl (VWant.not (b := true) rfl rfl rfl) ?_
              refine VRunD.off rfl (VWant.not (b := true) rfl rfl rfl) ?_
              refine VRunD.off rfl (VWant.not (b := true) rfl rfl rfl) ?_
              refine VRunD.free rfl VWant.always rfl (OF.pickT (VEv.tmp (t := (T.bool true)) rfl) (VEv.bool true)) ?_
              refine VRunD.free rfl VWant.always rfl (OF.move (VEv.tmp (t := (T.bool true)) rfl)) ?_
              refine VRunD.off rfl (VWant.not (b := true) rfl rfl rfl) ?_
              refine VRunD.off rfl (VWant.not (b := true) rfl rfl rfl) ?_
              refine VRunD.off rfl (VWant.not (b := true) rfl rfl rfl) ?_
              refine VRunD.off rfl (VWant.not (b := true) rfl rfl rfl) ?_
              refine VRunD.free rfl VWant.always rfl (OF.pickT (VEv.tmp (t := (T.bool true)) rfl) (VEv.bool true)) ?_
              refine VRunD.nil ?_
              refine vthn.n ?_
              refine VRun.cond (VEv.tmp (t := (T.bool true)) rfl) (fun hk15 => ?_) (fun hk15 => ?_)
              · skip
                refine VRun.seq ?_
                refine VRun.region ?_
                refine VRunO.free VWant.always (OF.assign (VEv.bool false)) ?_
                refine VRunO.nil ?_
                refine vthn.n ?_
                refine VRun.ret ?_
                refine vinB.r ?_
                refine vthn.r ?_
                refine vthn.r ?_
                refine vinB.r ?_
                refine vthn.r ?_
                refine vfin.eq (r' := (T.bool false)) ?_ (vfin.r (VRes.tmp (t := (T.bool false)) rfl VRes.nil) (Give.bool _))
                show (T.bool false) = (T.bool (decide (areNotes a)))
                refine congrArg T.bool ?_
                first | (symm; rw [decide_eq_false_iff_not]; rintro ⟨h2, _⟩; omega) | (symm; rw [decide_eq_true_eq]; exact ⟨by omega, allEnd hI' fhc1⟩) | (symm; rw [decide_eq_false_iff_not]; rintro ⟨_, h2⟩; obtain ⟨y, hy, h3, h4, h5, h6, h7, h8⟩ := h2 i fhc1; obtain rfl := same_at hx1 hy; first | omega | contradiction | (obtain ⟨z, hz, h9⟩ := h8 (by omega); obtain rfl := same_at hx2 hz; omega) | (simp_all; done))
              · exact absurd (rfl.symm.trans hk15) (by decide)
            · have fhg40_14 : x1.Letter.size = 1 := ndF hg40_14
              refine VRunD.free rfl (VWant.on (b := (!(decide (x1.Letter.size = 1)))) rfl rfl hg40_14) rfl (OF.fieldAddrO (VEv.tmp (t := (T.op 0 0)) rfl) fa26_1) ?_
              refine VRunD.look rfl (VWant.on (b := (!(decide (x1.Letter.size = 1)))) rfl rfl hg40_14) rfl (OL.loadO1 (t := (T.str x1.Letter)) (VEv.tmp (t := (T.op 0 1)) rfl) rfl rfl st9) ?_
              refine VRunD.quiet (bi := [26, 24, 22, 20, 21, 23, 18, 16, 14, 15, 17, 12, 8, 6, 4, 5, 3, 7, 10, 9, 11, 1, 0, 2, 13, 19, 25, 27]) rfl (VWant.on (b := (!(decide (x1.Letter.size = 1)))) rfl rfl hg40_14) rfl rfl rfl (ball_nil) (OC.callF (us := [(T.str x1.Letter)]) (r := (T.bool (decide (isPat x1.Letter)))) (r' := (T.bool (decide (isPat x1.Letter)))) (objs := []) rfl (VEvs.cons (VEv.tmp (t := (T.str x1.Letter)) rfl) VEvs.nil) (LendL.cons (Lend.pl rfl) (LendL.nil)) (W_impl_IsPattern (n + 0) x1.Letter (by first | exact hw _ (List.mem_of_getElem? hx1) | assumption | omega | (simp only [List.length_map]; omega) | (simp only [List.length_map, List.length_append, List.length_cons, List.length_nil, List.length_replicate, List.length_set, List.length_drop, List.length_take, lim] at *; omega))) rfl) ?_
              refine VRunD.free rfl (VWant.on (b := (!(decide (x1.Letter.size = 1)))) rfl rfl hg40_14) rfl (B.not (c := (!(decide (isPat x1.Letter)))) (VEv.tmp (t := (T.bool (decide (isPat x1.Letter)))) rfl) rfl) ?_
              refine VRunD.free rfl VWant.always rfl (OF.pickF (VEv.tmpB (b := (!(decide (x1.Letter.size = 1)))) rfl hg40_14) (VEv.tmp (t := (T.bool (!(decide (isPat x1.Letter))))) rfl)) ?_
              refine VRunD.free rfl VWant.always rfl (OF.move (VEv.tmp (t := (T.bool (!(decide (isPat x1.Letter))))) rfl)) ?_
              refine bool_way (!(decide (isPat x1.Letter))) (fun hg46_16 => ?_) (fun hg46_16 => ?_)
              · have fhg46_16 : ¬ (isPat x1.Letter) := ndT hg46_16
                refine VRunD.off rfl (VWant.not (b := (!(decide (isPat x1.Letter)))) rfl rfl hg46_16) ?_
                refine VRunD.off rfl (VWant.not (b := (!(decide (isPat x1.Letter)))) rfl rfl hg46_16) ?_
                refine VRunD.off rfl (VWant.not (b := (!(decide (isPat x1.Letter)))) rfl rfl hg46_16) ?_
                refine VRunD.off rfl (VWant.not (b := (!(decide (isPat x1.Letter)))) rfl rfl hg46_16) ?_
                refine VRunD.free rfl VWant.always rfl (OF.pickT (VEv.tmpB (b := (!(decide (isPat x1.Letter)))) rfl hg46_16) (VEv.bool true)) ?_
                refine VRunD.free rfl VWant.always rfl (OF.move (VEv.tmp (t := (T.bool true)) rfl)) ?_
                refine VRunD.off rfl (VWant.not (b := true) rfl rfl rfl) ?_
                refine VRunD.off rfl (VWant.not (b := true) rfl rfl rfl) ?_
                refine VRunD.off rfl (VWant.not (b := true) rfl rfl rfl) ?_
                refine VRunD.off rfl (VWant.not (b := true) rfl rfl rfl) ?_
                refine VRunD.free rfl VWant.always rfl (OF.pickT (VEv.tmp (t := (T.bool true)) rfl) (VEv.bool true)) ?_
                refine VRunD.nil ?_
                refine vthn.n ?_
                refine VRun.cond (VEv.tmp (t := (T.bool true)) rfl) (fun hk17 => ?_) (fun hk17 => ?_)
                · skip
                  refine VRun.seq ?_
                  refine VRun.region ?_
                  refine VRunO.free VWant.always (OF.assign (VEv.bool false)) ?_
                  refine VRunO.nil ?_
                  refine vthn.n ?_
                  refine VRun.ret ?_
                  refine vinB.r ?_
                  refine vthn.r ?_
                  refine vthn.r ?_
                  refine vinB.r ?_
                  refine vthn.r ?_
                  refine vfin.eq (r' := (T.bool false)) ?_ (vfin.r (VRes.tmp (t := (T.bool false)) rfl VRes.nil) (Give.bool _))
                  show (T.bool false) = (T.bool (decide (areNotes a)))
                  refine congrArg T.bool ?_
                  first | (symm; rw [decide_eq_false_iff_not]; rintro ⟨h2, _⟩; omega) | (symm; rw [decide_eq_true_eq]; exact ⟨by omega, allEnd hI' fhc1⟩) | (symm; rw [decide_eq_false_iff_not]; rintro ⟨_, h2⟩; obtain ⟨y, hy, h3, h4, h5, h6, h7, h8⟩ := h2 i fhc1; obtain rfl := same_at hx1 hy; first | omega | contradiction | (obtain ⟨z, hz, h9⟩ := h8 (by omega); obtain rfl := same_at hx2 hz; omega) | (simp_all; done))
                · exact absurd (rfl.symm.trans hk17) (by decide)
              · have fhg46_16 : isPat x1.Letter := ndF hg46_16
                refine VRunD.free rfl (VWant.on (b := (!(decide (isPat x1.Letter)))) rfl rfl hg46_16) rfl (OF.fieldAddrO (VEv.tmp (t := (T.op 0 0)) rfl) fa26_2) ?_
                refine VRunD.look rfl (VWant.on (b := (!(decide (isPat x1.Letter)))) rfl rfl hg46_16) rfl (OL.loadO1 (t := (T.int .i64 x1.Tick)) (VEv.tmp (t := (T.op 0 2)) rfl) rfl rfl st3) ?_
                refine VRunD.quiet (bi := [32, 30, 28, 26, 27, 29, 24, 22, 20, 21, 23, 18, 16, 14, 15, 17, 12, 8, 6, 4, 5, 3, 7, 10, 9, 11, 1, 0, 2, 13, 19, 25, 31, 33]) rfl (VWant.on (b := (!(decide (isPat x1.Letter)))) rfl rfl hg46_16) rfl rfl rfl (ball_nil) (OC.callF (us := [(T.int .i64 x1.Tick), (T.int .i64 0), (T.int .i64 1000)]) (r := (T.bool (decide (0 ≤ x1.Tick ∧ x1.Tick ≤ 1000)))) (r' := (T.bool (decide (0 ≤ x1.Tick ∧ x1.Tick ≤ 1000)))) (objs := []) rfl (VEvs.cons (VEv.tmp (t := (T.int .i64 x1.Tick)) rfl) (VEvs.cons (VEv.int .i64 0) (VEvs.cons (VEv.int .i64 1000) VEvs.nil))) (LendL.cons (Lend.pl rfl) (LendL.cons (Lend.pl rfl) (LendL.cons (Lend.pl rfl) (LendL.nil)))) (W_impl_InRange (n + 1) x1.Tick 0 1000 ) rfl) ?_
                refine VRunD.free rfl (VWant.on (b := (!(decide (isPat x1.Letter)))) rfl rfl hg46_16) rfl (B.not (c := (!(decide (0 ≤ x1.Tick ∧ x1.Tick ≤ 1000)))) (VEv.tmp (t := (T.bool (decide (0 ≤ x1.Tick ∧ x1.Tick ≤ 1000)))) rfl) rfl) ?_
                refine VRunD.free rfl VWant.always rfl (OF.pickF (VEv.tmpB (b := (!(decide (isPat x1.Letter)))) rfl hg46_16) (VEv.tmp (t := (T.bool (!(decide (0 ≤ x1.Tick ∧ x1.Tick ≤ 1000))))) rfl)) ?_
                refine VRunD.free rfl VWant.always rfl (OF.move (VEv.tmp (t := (T.bool (!(decide (0 ≤ x1.Tick ∧ x1.Tick ≤ 1000))))) rfl)) ?_
                refine bool_way (!(decide (0 ≤ x1.Tick ∧ x1.Tick ≤ 1000))) (fun hg52_18 => ?_) (fun hg52_18 => ?_)
                · have fhg52_18 : ¬ (0 ≤ x1.Tick ∧ x1.Tick ≤ 1000) := ndT hg52_18
                  refine VRunD.off rfl (VWant.not (b := (!(decide (0 ≤ x1.Tick ∧ x1.Tick ≤ 1000)))) rfl rfl hg52_18) ?_
                  refine VRunD.off rfl (VWant.not (b := (!(decide (0 ≤ x1.Tick ∧ x1.Tick ≤ 1000)))) rfl rfl hg52_18) ?_
                  refine VRunD.off rfl (VWant.not (b := (!(decide (0 ≤ x1.Tick ∧ x1.Tick ≤ 1000)))) rfl rfl hg52_18) ?_
                  refine VRunD.off rfl (VWant.not (b := (!(decide (0 ≤ x1.Tick ∧ x1.Tick ≤ 1000)))) rfl rfl hg52_18) ?_
                  refine VRunD.free rfl VWant.always rfl (OF.pickT (VEv.tmpB (b := (!(decide (0 ≤ x1.Tick ∧ x1.Tick ≤ 1000)))) rfl hg52_18) (VEv.bool true)) ?_
                  refine VRunD.nil ?_
                  refine vthn.n ?_
                  refine VRun.cond (VEv.tmp (t := (T.bool true)) rfl) (fun hk19 => ?_) (fun hk19 => ?_)
                  · skip
                    refine VRun.seq ?_
                    refine VRun.region ?_
                    refine VRunO.free VWant.always (OF.assign (VEv.bool false)) ?_
                    refine VRunO.nil ?_
                    refine vthn.n ?_
                    refine VRun.ret ?_
                    refine vinB.r ?_
                    refine vthn.r ?_
                    refine vthn.r ?_
                    refine vinB.r ?_
                    refine vthn.r ?_
                    refine vfin.eq (r' := (T.bool false)) ?_ (vfin.r (VRes.tmp (t := (T.bool false)) rfl VRes.nil) (Give.bool _))
                    show (T.bool false) = (T.bool (decide (areNotes a)))
                    refine congrArg T.bool ?_
                    first | (symm; rw [decide_eq_false_iff_not]; rintro ⟨h2, _⟩; omega) | (symm; rw [decide_eq_true_eq]; exact ⟨by omega, allEnd hI' fhc1⟩) | (symm; rw [decide_eq_false_iff_not]; rintro ⟨_, h2⟩; obtain ⟨y, hy, h3, h4, h5, h6, h7, h8⟩ := h2 i fhc1; obtain rfl := same_at hx1 hy; first | omega | contradiction | (obtain ⟨z, hz, h9⟩ := h8 (by omega); obtain rfl := same_at hx2 hz; omega) | (simp_all; done))
                  · exact absurd (rfl.symm.trans hk19) (by decide)
                · have fhg52_18 : 0 ≤ x1.Tick ∧ x1.Tick ≤ 1000 := ndF hg52_18
                  refine VRunD.free rfl (VWant.on (b := (!(decide (0 ≤ x1.Tick ∧ x1.Tick ≤ 1000)))) rfl rfl hg52_18) rfl (OF.fieldAddrO (VEv.tmp (t := (T.op 0 0)) rfl) fa26_3) ?_
                  refine VRunD.look rfl (VWant.on (b := (!(decide (0 ≤ x1.Tick ∧ x1.Tick ≤ 1000)))) rfl rfl hg52_18) rfl (OL.loadO1 (t := (T.int .i64 x1.Who)) (VEv.tmp (t := (T.op 0 3)) rfl) rfl rfl st3) ?_
                  refine VRunD.quiet (bi := [38, 36, 34, 32, 33, 35, 30, 28, 26, 27, 29, 24, 22, 20, 21, 23, 18, 16, 14, 15, 17, 12, 8, 6, 4, 5, 3, 7, 10, 9, 11, 1, 0, 2, 13, 19, 25, 31, 37, 39]) rfl (VWant.on (b := (!(decide (0 ≤ x1.Tick ∧ x1.Tick ≤ 1000)))) rfl rfl hg52_18) rfl rfl rfl (ball_nil) (OC.callF (us := [(T.int .i64 x1.Who), (T.int .i64 1), (T.int .i64 9)]) (r := (T.bool (decide (1 ≤ x1.Who ∧ x1.Who ≤ 9)))) (r' := (T.bool (decide (1 ≤ x1.Who ∧ x1.Who ≤ 9)))) (objs := []) rfl (VEvs.cons (VEv.tmp (t := (T.int .i64 x1.Who)) rfl) (VEvs.cons (VEv.int .i64 1) (VEvs.cons (VEv.int .i64 9) VEvs.nil))) (LendL.cons (Lend.pl rfl) (LendL.cons (Lend.pl rfl) (LendL.cons (Lend.pl rfl) (LendL.nil)))) (W_impl_InRange (n + 1) x1.Who 1 9 ) rfl) ?_
                  refine VRunD.free rfl (VWant.on (b := (!(decide (0 ≤ x1.Tick ∧ x1.Tick ≤ 1000)))) rfl rfl hg52_18) rfl (B.not (c := (!(decide (1 ≤ x1.Who ∧ x1.Who ≤ 9)))) (VEv.tmp (t := (T.bool (decide (1 ≤ x1.Who ∧ x1.Who ≤ 9)))) rfl) rfl) ?_
                  refine VRunD.free rfl VWant.always rfl (OF.pickF (VEv.tmpB (b := (!(decide (0 ≤ x1.Tick ∧ x1.Tick ≤ 1000)))) rfl hg52_18) (VEv.tmp (t := (T.bool (!(decide (1 ≤ x1.Who ∧ x1.Who ≤ 9))))) rfl)) ?_
                  refine VRunD.nil ?_
                  refine vthn.n ?_
                  refine VRun.cond (VEv.tmp (t := (T.bool (!(decide (1 ≤ x1.Who ∧ x1.Who ≤ 9))))) rfl) (fun hc2 => ?_) (fun hc2 => ?_)
                  · have fhc2 : ¬ (1 ≤ x1.Who ∧ x1.Who ≤ 9) := ndT hc2
                    refine VRun.seq ?_
                    refine VRun.region ?_
                    refine VRunO.free VWant.always (OF.assign (VEv.bool false)) ?_
                    refine VRunO.nil ?_
                    refine vthn.n ?_
                    refine VRun.ret ?_
                    refine vinB.r ?_
                    refine vthn.r ?_
                    refine vthn.r ?_
                    refine vinB.r ?_
                    refine vthn.r ?_
                    refine vfin.eq (r' := (T.bool false)) ?_ (vfin.r (VRes.tmp (t := (T.bool false)) rfl VRes.nil) (Give.bool _))
                    show (T.bool false) = (T.bool (decide (areNotes a)))
                    refine congrArg T.bool ?_
                    first | (symm; rw [decide_eq_false_iff_not]; rintro ⟨h2, _⟩; omega) | (symm; rw [decide_eq_true_eq]; exact ⟨by omega, allEnd hI' fhc1⟩) | (symm; rw [decide_eq_false_iff_not]; rintro ⟨_, h2⟩; obtain ⟨y, hy, h3, h4, h5, h6, h7, h8⟩ := h2 i fhc1; obtain rfl := same_at hx1 hy; first | omega | contradiction | (obtain ⟨z, hz, h9⟩ := h8 (by omega); obtain rfl := same_at hx2 hz; omega) | (simp_all; done))
                  · have fhc2 : 1 ≤ x1.Who ∧ x1.Who ≤ 9 := ndF hc2
                    refine VRun.skip ?_
                    refine vinB.n ?_
                    refine vthn.n ?_
                    refine VRun.region ?_
                    refine VRunO.free VWant.always (B.add (n := (((i + 1) : Nat) : Int)) (VEv.tmp (t := (T.int .i64 ((i : Nat) : Int))) rfl) (VEv.int .i64 1) (by first | exact hw _ (List.mem_of_getElem? hx1) | rfl | (rw [wrap64 (by omega)]; done) | (rw [wrap64 (by omega)]; omega) | (rw [wrap64 (by omega)]; push_cast; omega) | omega)) ?_
                    refine VRunO.free VWant.always (OF.move (VEv.tmp (t := (T.int .i64 (((i + 1) : Nat) : Int))) rfl)) ?_
                    refine VRunO.nil ?_
                    refine vthn.n ?_
                    refine ⟨(i + 1 : Nat), ?_, ?_, Wk.mk (fun k => k) ?_ ?_ ?_⟩
                    · refine allNext hI0 fhc1 ⟨x1, hx1, by omega, by omega, by assumption, by omega, by omega, fun h0 => ?_⟩
                      first | (exact absurd h0 (by omega)) | (exact ⟨x2, hx2, by omega⟩)
                    · first | omega | (simp only []; omega) | (show _ < _; omega) | (simp; omega)
                    · exact (ball_cons ⟨rfl, rfl⟩ (ball_cons ⟨rfl, rfl⟩ (ball_cons ⟨rfl, rfl⟩ (ball_cons ⟨rfl, rfl⟩ (ball_nil)))))
                    · exact (ball_nil)
                    · show List.Nodup ([] : List Nat)
                      decide
      · have fhc1 : ¬ (i < a.length) := of_decide_eq_false hc1
        refine VRun.exit ?_
        refine vthn.e ?_
        refine vthn.e ?_
        refine vinB.e ?_
        refine vthn.n ?_
        refine VRun.seq ?_
        refine VRun.region ?_
        refine VRunO.free VWant.always (OF.assign (VEv.bool true)) ?_
        refine VRunO.nil ?_
        refine vthn.n ?_
        refine VRun.ret ?_
        refine vfin.eq (r' := (T.bool true)) ?_ (vfin.r (VRes.tmp (t := (T.bool true)) rfl VRes.nil) (Give.bool _))
        show (T.bool true) = (T.bool (decide (areNotes a)))
        refine congrArg T.bool ?_
        first | (symm; rw [decide_eq_false_iff_not]; rintro ⟨h2, _⟩; omega) | (symm; rw [decide_eq_true_eq]; exact ⟨by omega, allEnd hI' fhc1⟩) | (symm; rw [decide_eq_false_iff_not]; rintro ⟨_, h2⟩; obtain ⟨y, hy, h3, h4, h5, h6, h7, h8⟩ := h2 i fhc1; obtain rfl := same_at hx1 hy; first | omega | contradiction | (obtain ⟨z, hz, h9⟩ := h8 (by omega); obtain rfl := same_at hx2 hz; omega) | (simp_all; done))
end Go.Proofs.Ytllkimgecapbgaa.AE
