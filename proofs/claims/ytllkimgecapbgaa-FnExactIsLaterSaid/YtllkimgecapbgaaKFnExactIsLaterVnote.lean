/- Walks of the program's functions over trees. Conditions: as each theorem states. -/
import Derived.Test.YtllkimgecapbgaaKFnExactIsLaterFto
namespace Go.Proofs.Ytllkimgecapbgaa.AE
open Go Go.RowKit
set_option linter.unusedVariables false
set_option linter.unusedSimpArgs false
set_option maxRecDepth 20000
set_option maxHeartbeats 2000000

noncomputable section
def isPat (s : ByteArray) : Prop := (1 ≤ s.size ∧ s.size ≤ 8) ∧ ∀ i, i < s.size → bAt s i = 63 ∨ (97 ≤ bAt s i ∧ bAt s i ≤ 122)
instance (s : ByteArray) : Decidable (isPat s) := Classical.propDecidable _
end
noncomputable section
def laterN (a b : D.Note) : Bool := if a.Tick = b.Tick then (if a.Who = b.Who then !(Op.bytesLess a.Letter.toList b.Letter.toList || decide (a.Letter = b.Letter)) else decide (b.Who < a.Who)) else decide (b.Tick < a.Tick)
def noteOk (l : List D.Note) (j : Nat) : Prop := ∃ x, l[j]? = some x ∧ (0 ≤ x.Cell ∧ x.Cell ≤ 35) ∧ x.Letter.size = 1 ∧ isPat x.Letter ∧ (0 ≤ x.Tick ∧ x.Tick ≤ 1000) ∧ (1 ≤ x.Who ∧ x.Who ≤ 9) ∧ (0 < j → ∃ y, l[j - 1]? = some y ∧ y.Cell < x.Cell)
def areNotes (l : List D.Note) : Prop := l.length ≤ 40 ∧ ∀ j, j < l.length → noteOk l j
instance (l : List D.Note) : Decidable (areNotes l) := Classical.propDecidable _
end
theorem W_spec_IsLater (n : Nat) (a : D.Note) (b : D.Note)  : Pure (acall Try.prog (n + 1)) 10 [(T.agg (eNote false a)), (T.agg (eNote false b))] (T.bool (laterN a b)) := by
  refine Pure.intro (rs := [ResultVar.tmp 4]) Try.func10 rfl rfl rfl (E0 := [(0, (T.agg (eNote false a))), (1, (T.agg (eNote false b)))]) rfl ?_
  have hlim : lim = 1099511627776 := rfl
  have hmx : mx = 1048576 := rfl
  have hmax : maxLen = 9223372036854775807 := rfl
  refine VRun.seq ?_
  refine VRun.region ?_
  refine VRunO.make VWant.always (B.box (ts := [(T.int .i64 a.Cell), (T.str a.Letter), (T.int .i64 a.Tick), (T.int .i64 a.Who)]) (VEv.tmp (t := (T.agg (eNote false a))) rfl) nofun rfl) ?_
  refine VRunO.make VWant.always (B.box (ts := [(T.int .i64 b.Cell), (T.str b.Letter), (T.int .i64 b.Tick), (T.int .i64 b.Who)]) (VEv.tmp (t := (T.agg (eNote false b))) rfl) nofun rfl) ?_
  refine VRunO.free VWant.always (OF.assign (VEv.bool false)) ?_
  refine VRunO.nil ?_
  refine vthn.n ?_
  refine VRun.seq ?_
  refine VRun.block ?_
  refine VRun.seq ?_
  refine VRun.region ?_
  refine VRunO.free VWant.always (OF.fieldAddrO (VEv.tmp (t := (T.op 0 0)) rfl) fa26_2) ?_
  refine VRunO.look VWant.always (OL.loadO1 (t := (T.int .i64 a.Tick)) (VEv.tmp (t := (T.op 0 2)) rfl) rfl rfl st3) ?_
  refine VRunO.free VWant.always (OF.fieldAddrO (VEv.tmp (t := (T.op 1 0)) rfl) fa26_2) ?_
  refine VRunO.look VWant.always (OL.loadO1 (t := (T.int .i64 b.Tick)) (VEv.tmp (t := (T.op 1 2)) rfl) rfl rfl st3) ?_
  refine VRunO.free VWant.always (B.neq (c := (!(decide (a.Tick = b.Tick)))) (VEv.tmp (t := (T.int .i64 a.Tick)) rfl) (VEv.tmp (t := (T.int .i64 b.Tick)) rfl) rfl) ?_
  refine VRunO.free VWant.always (OF.assign (VEv.tmp (t := (T.bool (!(decide (a.Tick = b.Tick))))) rfl)) ?_
  refine VRunO.nil ?_
  refine vthn.n ?_
  refine VRun.cond (VEv.tmp (t := (T.bool (!(decide (a.Tick = b.Tick))))) rfl) (fun hc0 => ?_) (fun hc0 => ?_)
  · have fhc0 : ¬ (a.Tick = b.Tick) := ndT hc0
    refine VRun.seq ?_
    refine VRun.region ?_
    refine VRunO.free VWant.always (OF.fieldAddrO (VEv.tmp (t := (T.op 0 0)) rfl) fa26_2) ?_
    refine VRunO.look VWant.always (OL.loadO1 (t := (T.int .i64 a.Tick)) (VEv.tmp (t := (T.op 0 2)) rfl) rfl rfl st3) ?_
    refine VRunO.free VWant.always (OF.fieldAddrO (VEv.tmp (t := (T.op 1 0)) rfl) fa26_2) ?_
    refine VRunO.look VWant.always (OL.loadO1 (t := (T.int .i64 b.Tick)) (VEv.tmp (t := (T.op 1 2)) rfl) rfl rfl st3) ?_
    refine VRunO.free VWant.always (B.gtr (c := (decide (b.Tick < a.Tick))) (VEv.tmp (t := (T.int .i64 a.Tick)) rfl) (VEv.tmp (t := (T.int .i64 b.Tick)) rfl) rfl) ?_
    refine VRunO.free VWant.always (OF.assign (VEv.tmp (t := (T.bool (decide (b.Tick < a.Tick)))) rfl)) ?_
    refine VRunO.nil ?_
    refine vthn.n ?_
    refine VRun.ret ?_
    refine vinB.r ?_
    refine vthn.r ?_
    refine vfin.eq (r' := (T.bool (decide (b.Tick < a.Tick)))) ?_ (vfin.r (VRes.tmp (t := (T.bool (decide (b.Tick < a.Tick)))) rfl VRes.nil) (Give.bool _))
    show (T.bool (decide (b.Tick < a.Tick))) = (T.bool (laterN a b))
    refine congrArg T.bool ?_
    simp only [laterN]; simp_all
  · have fhc0 : a.Tick = b.Tick := ndF hc0
    refine VRun.seq ?_
    refine VRun.region ?_
    refine VRunO.free VWant.always (OF.fieldAddrO (VEv.tmp (t := (T.op 0 0)) rfl) fa26_3) ?_
    refine VRunO.look VWant.always (OL.loadO1 (t := (T.int .i64 a.Who)) (VEv.tmp (t := (T.op 0 3)) rfl) rfl rfl st3) ?_
    refine VRunO.free VWant.always (OF.fieldAddrO (VEv.tmp (t := (T.op 1 0)) rfl) fa26_3) ?_
    refine VRunO.look VWant.always (OL.loadO1 (t := (T.int .i64 b.Who)) (VEv.tmp (t := (T.op 1 3)) rfl) rfl rfl st3) ?_
    refine VRunO.free VWant.always (B.neq (c := (!(decide (a.Who = b.Who)))) (VEv.tmp (t := (T.int .i64 a.Who)) rfl) (VEv.tmp (t := (T.int .i64 b.Who)) rfl) rfl) ?_
    refine VRunO.free VWant.always (OF.assign (VEv.tmp (t := (T.bool (!(decide (a.Who = b.Who))))) rfl)) ?_
    refine VRunO.nil ?_
    refine vthn.n ?_
    refine VRun.cond (VEv.tmp (t := (T.bool (!(decide (a.Who = b.Who))))) rfl) (fun hc1 => ?_) (fun hc1 => ?_)
    · have fhc1 : ¬ (a.Who = b.Who) := ndT hc1
      refine VRun.seq ?_
      refine VRun.region ?_
      refine VRunO.free VWant.always (OF.fieldAddrO (VEv.tmp (t := (T.op 0 0)) rfl) fa26_3) ?_
      refine VRunO.look VWant.always (OL.loadO1 (t := (T.int .i64 a.Who)) (VEv.tmp (t := (T.op 0 3)) rfl) rfl rfl st3) ?_
      refine VRunO.free VWant.always (OF.fieldAddrO (VEv.tmp (t := (T.op 1 0)) rfl) fa26_3) ?_
      refine VRunO.look VWant.always (OL.loadO1 (t := (T.int .i64 b.Who)) (VEv.tmp (t := (T.op 1 3)) rfl) rfl rfl st3) ?_
      refine VRunO.free VWant.always (B.gtr (c := (decide (b.Who < a.Who))) (VEv.tmp (t := (T.int .i64 a.Who)) rfl) (VEv.tmp (t := (T.int .i64 b.Who)) rfl) rfl) ?_
      refine VRunO.free VWant.always (OF.assign (VEv.tmp (t := (T.bool (decide (b.Who < a.Who)))) rfl)) ?_
      refine VRunO.nil ?_
      refine vthn.n ?_
      refine VRun.ret ?_
      refine vinB.r ?_
      refine vthn.r ?_
      refine vfin.eq (r' := (T.bool (decide (b.Who < a.Who)))) ?_ (vfin.r (VRes.tmp (t := (T.bool (decide (b.Who < a.Who)))) rfl VRes.nil) (Give.bool _))
      show (T.bool (decide (b.Who < a.Who))) = (T.bool (laterN a b))
      refine congrArg T.bool ?_
      simp only [laterN]; simp_all
    · have fhc1 : a.Who = b.Who := ndF hc1
      refine VRun.skip ?_
      refine vinB.n ?_
      refine vthn.n ?_
      refine VRun.seq ?_
      refine VRun.region ?_
      refine VRunO.free VWant.always (OF.fieldAddrO (VEv.tmp (t := (T.op 0 0)) rfl) fa26_1) ?_
      refine VRunO.look VWant.always (OL.loadO1 (t := (T.str a.Letter)) (VEv.tmp (t := (T.op 0 1)) rfl) rfl rfl st9) ?_
      refine VRunO.free VWant.always (OF.fieldAddrO (VEv.tmp (t := (T.op 1 0)) rfl) fa26_1) ?_
      refine VRunO.look VWant.always (OL.loadO1 (t := (T.str b.Letter)) (VEv.tmp (t := (T.op 1 1)) rfl) rfl rfl st9) ?_
      refine VRunO.free VWant.always (B.sgtr (c := (!(Op.bytesLess a.Letter.toList b.Letter.toList || decide (a.Letter = b.Letter)))) (VEv.tmp (t := (T.str a.Letter)) rfl) (VEv.tmp (t := (T.str b.Letter)) rfl) rfl) ?_
      refine VRunO.free VWant.always (OF.assign (VEv.tmp (t := (T.bool (!(Op.bytesLess a.Letter.toList b.Letter.toList || decide (a.Letter = b.Letter))))) rfl)) ?_
      refine VRunO.nil ?_
      refine vthn.n ?_
      refine VRun.ret ?_
      refine vfin.eq (r' := (T.bool (!(Op.bytesLess a.Letter.toList b.Letter.toList || decide (a.Letter = b.Letter))))) ?_ (vfin.r (VRes.tmp (t := (T.bool (!(Op.bytesLess a.Letter.toList b.Letter.toList || decide (a.Letter = b.Letter))))) rfl VRes.nil) (Give.bool _))
      show (T.bool (!(Op.bytesLess a.Letter.toList b.Letter.toList || decide (a.Letter = b.Letter)))) = (T.bool (laterN a b))
      refine congrArg T.bool ?_
      simp only [laterN]; simp_all
theorem W_impl_IsLater (n : Nat) (a : D.Note) (b : D.Note)  : Pure (acall Try.prog (n + 1)) 12 [(T.agg (eNote false a)), (T.agg (eNote false b))] (T.bool (laterN a b)) := by
  refine Pure.intro (rs := [ResultVar.tmp 4]) Try.func12 rfl rfl rfl (E0 := [(0, (T.agg (eNote false a))), (1, (T.agg (eNote false b)))]) rfl ?_
  have hlim : lim = 1099511627776 := rfl
  have hmx : mx = 1048576 := rfl
  have hmax : maxLen = 9223372036854775807 := rfl
  refine VRun.seq ?_
  refine VRun.region ?_
  refine VRunO.make VWant.always (B.box (ts := [(T.int .i64 a.Cell), (T.str a.Letter), (T.int .i64 a.Tick), (T.int .i64 a.Who)]) (VEv.tmp (t := (T.agg (eNote false a))) rfl) nofun rfl) ?_
  refine VRunO.make VWant.always (B.box (ts := [(T.int .i64 b.Cell), (T.str b.Letter), (T.int .i64 b.Tick), (T.int .i64 b.Who)]) (VEv.tmp (t := (T.agg (eNote false b))) rfl) nofun rfl) ?_
  refine VRunO.free VWant.always (OF.assign (VEv.bool false)) ?_
  refine VRunO.nil ?_
  refine vthn.n ?_
  refine VRun.seq ?_
  refine VRun.block ?_
  refine VRun.seq ?_
  refine VRun.region ?_
  refine VRunO.free VWant.always (OF.fieldAddrO (VEv.tmp (t := (T.op 0 0)) rfl) fa26_2) ?_
  refine VRunO.look VWant.always (OL.loadO1 (t := (T.int .i64 a.Tick)) (VEv.tmp (t := (T.op 0 2)) rfl) rfl rfl st3) ?_
  refine VRunO.free VWant.always (OF.fieldAddrO (VEv.tmp (t := (T.op 1 0)) rfl) fa26_2) ?_
  refine VRunO.look VWant.always (OL.loadO1 (t := (T.int .i64 b.Tick)) (VEv.tmp (t := (T.op 1 2)) rfl) rfl rfl st3) ?_
  refine VRunO.free VWant.always (B.neq (c := (!(decide (a.Tick = b.Tick)))) (VEv.tmp (t := (T.int .i64 a.Tick)) rfl) (VEv.tmp (t := (T.int .i64 b.Tick)) rfl) rfl) ?_
  refine VRunO.free VWant.always (OF.assign (VEv.tmp (t := (T.bool (!(decide (a.Tick = b.Tick))))) rfl)) ?_
  refine VRunO.nil ?_
  refine vthn.n ?_
  refine VRun.cond (VEv.tmp (t := (T.bool (!(decide (a.Tick = b.Tick))))) rfl) (fun hc0 => ?_) (fun hc0 => ?_)
  · have fhc0 : ¬ (a.Tick = b.Tick) := ndT hc0
    refine VRun.seq ?_
    refine VRun.region ?_
    refine VRunO.free VWant.always (OF.fieldAddrO (VEv.tmp (t := (T.op 0 0)) rfl) fa26_2) ?_
    refine VRunO.look VWant.always (OL.loadO1 (t := (T.int .i64 a.Tick)) (VEv.tmp (t := (T.op 0 2)) rfl) rfl rfl st3) ?_
    refine VRunO.free VWant.always (OF.fieldAddrO (VEv.tmp (t := (T.op 1 0)) rfl) fa26_2) ?_
    refine VRunO.look VWant.always (OL.loadO1 (t := (T.int .i64 b.Tick)) (VEv.tmp (t := (T.op 1 2)) rfl) rfl rfl st3) ?_
    refine VRunO.free VWant.always (B.gtr (c := (decide (b.Tick < a.Tick))) (VEv.tmp (t := (T.int .i64 a.Tick)) rfl) (VEv.tmp (t := (T.int .i64 b.Tick)) rfl) rfl) ?_
    refine VRunO.free VWant.always (OF.assign (VEv.tmp (t := (T.bool (decide (b.Tick < a.Tick)))) rfl)) ?_
    refine VRunO.nil ?_
    refine vthn.n ?_
    refine VRun.ret ?_
    refine vinB.r ?_
    refine vthn.r ?_
    refine vfin.eq (r' := (T.bool (decide (b.Tick < a.Tick)))) ?_ (vfin.r (VRes.tmp (t := (T.bool (decide (b.Tick < a.Tick)))) rfl VRes.nil) (Give.bool _))
    show (T.bool (decide (b.Tick < a.Tick))) = (T.bool (laterN a b))
    refine congrArg T.bool ?_
    simp only [laterN]; simp_all
  · have fhc0 : a.Tick = b.Tick := ndF hc0
    refine VRun.seq ?_
    refine VRun.region ?_
    refine VRunO.free VWant.always (OF.fieldAddrO (VEv.tmp (t := (T.op 0 0)) rfl) fa26_3) ?_
    refine VRunO.look VWant.always (OL.loadO1 (t := (T.int .i64 a.Who)) (VEv.tmp (t := (T.op 0 3)) rfl) rfl rfl st3) ?_
    refine VRunO.free VWant.always (OF.fieldAddrO (VEv.tmp (t := (T.op 1 0)) rfl) fa26_3) ?_
    refine VRunO.look VWant.always (OL.loadO1 (t := (T.int .i64 b.Who)) (VEv.tmp (t := (T.op 1 3)) rfl) rfl rfl st3) ?_
    refine VRunO.free VWant.always (B.neq (c := (!(decide (a.Who = b.Who)))) (VEv.tmp (t := (T.int .i64 a.Who)) rfl) (VEv.tmp (t := (T.int .i64 b.Who)) rfl) rfl) ?_
    refine VRunO.free VWant.always (OF.assign (VEv.tmp (t := (T.bool (!(decide (a.Who = b.Who))))) rfl)) ?_
    refine VRunO.nil ?_
    refine vthn.n ?_
    refine VRun.cond (VEv.tmp (t := (T.bool (!(decide (a.Who = b.Who))))) rfl) (fun hc1 => ?_) (fun hc1 => ?_)
    · have fhc1 : ¬ (a.Who = b.Who) := ndT hc1
      refine VRun.seq ?_
      refine VRun.region ?_
      refine VRunO.free VWant.always (OF.fieldAddrO (VEv.tmp (t := (T.op 0 0)) rfl) fa26_3) ?_
      refine VRunO.look VWant.always (OL.loadO1 (t := (T.int .i64 a.Who)) (VEv.tmp (t := (T.op 0 3)) rfl) rfl rfl st3) ?_
      refine VRunO.free VWant.always (OF.fieldAddrO (VEv.tmp (t := (T.op 1 0)) rfl) fa26_3) ?_
      refine VRunO.look VWant.always (OL.loadO1 (t := (T.int .i64 b.Who)) (VEv.tmp (t := (T.op 1 3)) rfl) rfl rfl st3) ?_
      refine VRunO.free VWant.always (B.gtr (c := (decide (b.Who < a.Who))) (VEv.tmp (t := (T.int .i64 a.Who)) rfl) (VEv.tmp (t := (T.int .i64 b.Who)) rfl) rfl) ?_
      refine VRunO.free VWant.always (OF.assign (VEv.tmp (t := (T.bool (decide (b.Who < a.Who)))) rfl)) ?_
      refine VRunO.nil ?_
      refine vthn.n ?_
      refine VRun.ret ?_
      refine vinB.r ?_
      refine vthn.r ?_
      refine vfin.eq (r' := (T.bool (decide (b.Who < a.Who)))) ?_ (vfin.r (VRes.tmp (t := (T.bool (decide (b.Who < a.Who)))) rfl VRes.nil) (Give.bool _))
      show (T.bool (decide (b.Who < a.Who))) = (T.bool (laterN a b))
      refine congrArg T.bool ?_
      simp only [laterN]; simp_all
    · have fhc1 : a.Who = b.Who := ndF hc1
      refine VRun.skip ?_
      refine vinB.n ?_
      refine vthn.n ?_
      refine VRun.seq ?_
      refine VRun.region ?_
      refine VRunO.free VWant.always (OF.fieldAddrO (VEv.tmp (t := (T.op 0 0)) rfl) fa26_1) ?_
      refine VRunO.look VWant.always (OL.loadO1 (t := (T.str a.Letter)) (VEv.tmp (t := (T.op 0 1)) rfl) rfl rfl st9) ?_
      refine VRunO.free VWant.always (OF.fieldAddrO (VEv.tmp (t := (T.op 1 0)) rfl) fa26_1) ?_
      refine VRunO.look VWant.always (OL.loadO1 (t := (T.str b.Letter)) (VEv.tmp (t := (T.op 1 1)) rfl) rfl rfl st9) ?_
      refine VRunO.free VWant.always (B.sgtr (c := (!(Op.bytesLess a.Letter.toList b.Letter.toList || decide (a.Letter = b.Letter)))) (VEv.tmp (t := (T.str a.Letter)) rfl) (VEv.tmp (t := (T.str b.Letter)) rfl) rfl) ?_
      refine VRunO.free VWant.always (OF.assign (VEv.tmp (t := (T.bool (!(Op.bytesLess a.Letter.toList b.Letter.toList || decide (a.Letter = b.Letter))))) rfl)) ?_
      refine VRunO.nil ?_
      refine vthn.n ?_
      refine VRun.ret ?_
      refine vfin.eq (r' := (T.bool (!(Op.bytesLess a.Letter.toList b.Letter.toList || decide (a.Letter = b.Letter))))) ?_ (vfin.r (VRes.tmp (t := (T.bool (!(Op.bytesLess a.Letter.toList b.Letter.toList || decide (a.Letter = b.Letter))))) rfl VRes.nil) (Give.bool _))
      show (T.bool (!(Op.bytesLess a.Letter.toList b.Letter.toList || decide (a.Letter = b.Letter)))) = (T.bool (laterN a b))
      refine congrArg T.bool ?_
      simp only [laterN]; simp_all
end Go.Proofs.Ytllkimgecapbgaa.AE
