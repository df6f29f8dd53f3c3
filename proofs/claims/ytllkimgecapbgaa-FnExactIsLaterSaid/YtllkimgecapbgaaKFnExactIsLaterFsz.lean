/- Walks of the program's functions over trees. Conditions: as each theorem states. -/
import Derived.Test.YtllkimgecapbgaaVlTy
namespace Go.Proofs.Ytllkimgecapbgaa.AE
open Go Go.RowKit
set_option linter.unusedVariables false
set_option linter.unusedSimpArgs false
set_option maxRecDepth 20000
set_option maxHeartbeats 2000000

theorem W_laws_szNote (n : Nat) (a : D.Note) (left : Int) (h0 : 0 ≤ left) (h1 : left ≤ (mx : Int)) (hg : GNote a) : Pure (acall Try.prog (n + 1)) 9 [(T.agg (eNote false a)), (T.int .i64 left)] (T.int .i64 (szR (zNote a) left)) := by
  refine Pure.intro (rs := [ResultVar.tmp 4]) Try.func9 rfl rfl rfl (E0 := [(0, (T.agg (eNote false a))), (1, (T.int .i64 left))]) rfl ?_
  have hlim : lim = 1099511627776 := rfl
  have hmx : mx = 1048576 := rfl
  have hmax : maxLen = 9223372036854775807 := rfl
  obtain ⟨hg0, hg1, hg2, hg3⟩ := hg
  refine VRun.seq ?_
  refine VRun.region ?_
  refine VRunO.make VWant.always (B.box (ts := [(T.int .i64 a.Cell), (T.str a.Letter), (T.int .i64 a.Tick), (T.int .i64 a.Who)]) (VEv.tmp (t := (T.agg (eNote false a))) rfl) nofun rfl) ?_
  refine VRunO.free VWant.always (OF.assign (VEv.int .i64 0)) ?_
  refine VRunO.nil ?_
  refine vthn.n ?_
  refine VRun.seq ?_
  refine VRun.region ?_
  refine VRunO.free VWant.always (OF.move (VEv.tmp (t := (T.int .i64 left)) rfl)) ?_
  refine VRunO.free VWant.always (OF.fieldAddrO (VEv.tmp (t := (T.op 0 0)) rfl) fa23_1) ?_
  refine VRunO.look VWant.always (OL.loadO1 (t := (T.str a.Letter)) (VEv.tmp (t := (T.op 0 1)) rfl) rfl rfl st9) ?_
  refine VRunO.look VWant.always (B.lenS (VEv.tmp (t := (T.str a.Letter)) rfl) Try.underlying9) ?_
  refine VRunO.free VWant.always (B.sub (n := (left - ((a.Letter.size : Nat) : Int))) (VEv.tmp (t := (T.int .i64 left)) rfl) (VEv.tmp (t := (T.int .i64 ((a.Letter.size : Nat) : Int))) rfl) (by first | rfl | (rw [wrap64 (by omega)]; done) | (rw [wrap64 (by omega)]; omega) | (rw [wrap64 (by omega)]; push_cast; omega) | omega)) ?_
  refine VRunO.free VWant.always (OF.assign (VEv.tmp (t := (T.int .i64 (left - ((a.Letter.size : Nat) : Int)))) rfl)) ?_
  refine VRunO.nil ?_
  refine vthn.n ?_
  refine VRun.seq ?_
  refine VRun.seq ?_
  refine VRun.region ?_
  refine VRunO.free VWant.always (OF.move (VEv.tmp (t := (T.int .i64 (left - ((a.Letter.size : Nat) : Int)))) rfl)) ?_
  refine VRunO.free VWant.always (B.lss (c := (decide ((left - ((a.Letter.size : Nat) : Int)) < 0))) (VEv.tmp (t := (T.int .i64 (left - ((a.Letter.size : Nat) : Int)))) rfl) (VEv.int .i64 0) rfl) ?_
  refine VRunO.nil ?_
  refine vthn.n ?_
  refine VRun.cond (VEv.tmp (t := (T.bool (decide ((left - ((a.Letter.size : Nat) : Int)) < 0)))) rfl) (fun hc0 => ?_) (fun hc0 => ?_)
  · have fhc0 : (left - ((a.Letter.size : Nat) : Int)) < 0 := of_decide_eq_true hc0
    refine VRun.seq ?_
    refine VRun.region ?_
    refine VRunO.free VWant.always (OF.assign (VEv.int .i64 (-1))) ?_
    refine VRunO.nil ?_
    refine vthn.n ?_
    refine VRun.ret ?_
    refine vthn.r ?_
    refine vfin.eq (r' := (T.int .i64 (-1))) ?_ (vfin.r (VRes.tmp (t := (T.int .i64 (-1))) rfl VRes.nil) (Give.int _ _))
    show (T.int .i64 (-1)) = (T.int .i64 (szR (zNote a) left))
    refine congrArg (T.int .i64) ?_
    exact szR_neg (by simp only [zNote]; omega)
  · have fhc0 : ¬ ((left - ((a.Letter.size : Nat) : Int)) < 0) := of_decide_eq_false hc0
    refine VRun.skip ?_
    refine vthn.n ?_
    refine VRun.seq ?_
    refine VRun.region ?_
    refine VRunO.free VWant.always (OF.move (VEv.tmp (t := (T.int .i64 (left - ((a.Letter.size : Nat) : Int)))) rfl)) ?_
    refine VRunO.free VWant.always (OF.assign (VEv.tmp (t := (T.int .i64 (left - ((a.Letter.size : Nat) : Int)))) rfl)) ?_
    refine VRunO.nil ?_
    refine vthn.n ?_
    refine VRun.ret ?_
    refine vfin.eq (r' := (T.int .i64 (left - ((a.Letter.size : Nat) : Int)))) ?_ (vfin.r (VRes.tmp (t := (T.int .i64 (left - ((a.Letter.size : Nat) : Int)))) rfl VRes.nil) (Give.int _ _))
    show (T.int .i64 (left - ((a.Letter.size : Nat) : Int))) = (T.int .i64 (szR (zNote a) left))
    refine congrArg (T.int .i64) ?_
    rw [← szR_nn (z := zNote a) (l := left) (by simp only [zNote]; omega)]
    all_goals first | rfl | (simp only [zNote]; done) | (simp only [zNote]; omega)
end Go.Proofs.Ytllkimgecapbgaa.AE
