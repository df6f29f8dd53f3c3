/- A part of what the row of FnExactNewDraft uses. Conditions: as each theorem states. -/
import Derived.Test.YthifchndolccgaaDoorZFnExactNewDraftd
import Derived.Test.YthifchndolccgaaDoorProg
import Derived.Shelf.LaysM
import Derived.Shelf.Strings.Replace
namespace Go.Proofs.YthifchndolccgaaDoor.AE
open Go Go.RowKit
set_option linter.unusedVariables false
set_option linter.unusedSimpArgs false
set_option maxRecDepth 20000
set_option maxHeartbeats 2000000
theorem Jg (n:Nat) (a0:D.Grid) (g0:QgX a0):Pure (Qw Tryd.prog (n+43)) 5 [(T.agg (Qa false a0))] (tB true):=by
 refine Pure.intro (rs:= [ResultVar.tmp 2]) Tryd.func5 rfl rfl rfl (E0:= [(0,(T.agg (Qa false a0)))]) rfl ?_
 obtain ⟨hlim,hmx,hmax⟩:=QR
 have hx:=Qjf a0
 have hzg:a0.Cells.size≤Ym a0:=Nat.le_refl _
 have hm1:=QfC 1 (Qf a0).Clues
 have hd1:zL ZU (Qf a0).Clues≤YX (Qf a0):=by simp only [YX];omega
 refine sr (kO (B.box (ts:=(Qa false a0)) (tv (T.agg (Qa false a0)) rfl) nofun rfl) (fO (OF.assign (VEv.bool false)) (nt (sr (fO (OF.assign (VEv.int .i64 1048576)) (nt (sr (lO (OL.loadOn (us:=(Qa false a0)) (tv (T.op 0 0) rfl) rfl Qh9 Qig (lb rfl) rfl) (mO (tN 1048576) rfl (cO (cS (vc (tv (T.agg (Qa false a0)) rfl) (vc (tv (tN 1048576) rfl) vn)) (LendL.cons (lg Qq) (lp rfl ln)) (QcS (n+41) a0 1048576 (by first | exact QG _ _ | (simp only [Qe];omega) | (simp only [Qe,Qo];omega) | (simp only [Qe,Qo];done) | exact Q0 _ _ _ _ | (simp only [Qo];omega) | assumption | omega | (simp only [List.length_map];omega) | (simp only [List.length_map,List.length_append,List.length_cons,List.length_nil,List.length_replicate,List.length_set,List.length_drop,List.length_take,Z7] at *;omega)) (by first | exact QG _ _ | (simp only [Qe];omega) | (simp only [Qe,Qo];omega) | (simp only [Qe,Qo];done) | exact Q0 _ _ _ _ | (simp only [Qo];omega) | assumption | omega | (simp only [List.length_map];omega) | (simp only [List.length_map,List.length_append,List.length_cons,List.length_nil,List.length_replicate,List.length_set,List.length_drop,List.length_take,Z7] at *;omega)) (by first | exact QG _ _ | (simp only [Qe];omega) | (simp only [Qe,Qo];omega) | (simp only [Qe,Qo];done) | exact Q0 _ _ _ _ | (simp only [Qo];omega) | assumption | omega | (simp only [List.length_map];omega) | (simp only [List.length_map,List.length_append,List.length_cons,List.length_nil,List.length_replicate,List.length_set,List.length_drop,List.length_take,Z7] at *;omega))) rfl rfl) (aO (tI (szR (Ym a0) 1048576)) rfl ?_)))))))))))
 refine nt (sq (sr (mO (tI (szR (Ym a0) 1048576)) rfl (fO (xls (tv (tI (szR (Ym a0) 1048576)) rfl) (VEv.int .i64 0)) (nt ?_)))))
 refine cd (szR (Ym a0) 1048576<0) rfl (fun fhc0=> ?_) fun fhc0=> ?_
 ·refine sr ?_
  refine fO (OF.assign (VEv.bool true)) (nt (rt (tr ?_)))
  exact vb rfl rfl
 first | (have hz0:=Qb0 fhc0) | skip
 refine sk (tn (sr (lO (OL.loadOn (us:=(Qa false a0)) (tv (T.op 0 0) rfl) rfl Qh9 Qig (lb rfl) rfl) (cO (cS (vc (tv (T.agg (Qa false a0)) rfl) vn) (LendL.cons (lg Qq) ln) (YR (n+41) a0) rfl rfl) (cO (OC.callF (us:= [(T.agg (Qa true a0))]) (r':=(T.tup [(T.agg [(tI ((Qf a0).Grid.Rows)),(tI ((Qf a0).Grid.Cols)),(tS ((Qf a0).Grid.Cells)),(tS ((Qf a0).Fill)),(T.os 2 1 0 ((((Qf a0).Clues).map (Qd true)).length)),(tI ((Qf a0).Version))]),(tB (decide (QB a0=0)))])) (objs:= [(Obj.rows 2 (((Qf a0).Clues).map (Qd true)))]) rfl (vc (tv (T.agg (Qa true a0)) rfl) vn) (LendL.cons (Lend.agg (LendL.cons (Lend.pl rfl) (LendL.cons (Lend.pl rfl) (LendL.cons (Lend.pl rfl) ln)))) ln) (QbL (n+32) a0 (by first | exact QG _ _ | (simp only [Qe];omega) | (simp only [Qe,Qo];omega) | (simp only [Qe,Qo];done) | exact Q0 _ _ _ _ | (simp only [Qo];omega) | assumption | omega | (simp only [List.length_map];omega) | (simp only [List.length_map,List.length_append,List.length_cons,List.length_nil,List.length_replicate,List.length_set,List.length_drop,List.length_take,Z7] at *;omega))) rfl) (mO (T.tup [(T.agg [(tI ((Qf a0).Grid.Rows)),(tI ((Qf a0).Grid.Cols)),(tS ((Qf a0).Grid.Cells)),(tS ((Qf a0).Fill)),(T.os 2 1 0 ((((Qf a0).Clues).map (Qd true)).length)),(tI ((Qf a0).Version))]),(tB (decide (QB a0=0)))]) rfl (fO (OF.extract (t:=(T.agg [(tI ((Qf a0).Grid.Rows)),(tI ((Qf a0).Grid.Cols)),(tS ((Qf a0).Grid.Cells)),(tS ((Qf a0).Fill)),(T.os 2 1 0 ((((Qf a0).Clues).map (Qd true)).length)),(tI ((Qf a0).Version))])) (tv (T.tup [(T.agg [(tI ((Qf a0).Grid.Rows)),(tI ((Qf a0).Grid.Cols)),(tS ((Qf a0).Grid.Cells)),(tS ((Qf a0).Fill)),(T.os 2 1 0 ((((Qf a0).Clues).map (Qd true)).length)),(tI ((Qf a0).Version))]),(tB (decide (QB a0=0)))]) rfl) rfl) (fO (OF.extract (t:=(tB (decide (QB a0=0)))) (tv (T.tup [(T.agg [(tI ((Qf a0).Grid.Rows)),(tI ((Qf a0).Grid.Cols)),(tS ((Qf a0).Grid.Cells)),(tS ((Qf a0).Fill)),(T.os 2 1 0 ((((Qf a0).Clues).map (Qd true)).length)),(tI ((Qf a0).Version))]),(tB (decide (QB a0=0)))]) rfl) rfl) (kO (B.alloc (t:=(T.agg [(tN 0),(tN 0),(tS ByteArray.empty),(tS ByteArray.empty),T.nils,(tN 0)])) (ts:= [(tN 0),(tN 0),(tS ByteArray.empty),(tS ByteArray.empty),T.nils,(tN 0)]) Qcc Qfh nofun (fun _=> .agg _ _ rfl (Y5 (RL.cons (.int _ _) (RL.cons (.int _ _) (RL.cons (.str _) (RL.cons (.str _) (RL.cons (.nils) (RL.cons (.int _ _) (RL.nil _))))))))) rfl) (cO (B.storeW (us:= [(tI ((Qf a0).Grid.Rows)),(tI ((Qf a0).Grid.Cols)),(tS ((Qf a0).Grid.Cells)),(tS ((Qf a0).Fill)),(T.os 2 1 0 ((((Qf a0).Clues).map (Qd true)).length)),(tI ((Qf a0).Version))]) (tv (T.op 2 0) rfl) (tv (T.agg [(tI ((Qf a0).Grid.Rows)),(tI ((Qf a0).Grid.Cols)),(tS ((Qf a0).Grid.Cells)),(tS ((Qf a0).Fill)),(T.os 2 1 0 ((((Qf a0).Clues).map (Qd true)).length)),(tI ((Qf a0).Version))]) rfl) nofun rfl rfl rfl Qdt Yq (bc rfl (bc rfl (bc rfl (bc rfl (bc rfl (bc rfl bn))))))) ?_))))))))))
 refine aO (tB (decide (QB a0=0))) rfl (nt (sr (lO (OL.loadOn (us:=(Qa false a0)) (tv (T.op 0 0) rfl) rfl Qh9 Qig (lb rfl) rfl) (cO (cS (vc (tv (T.agg (Qa false a0)) rfl) vn) (LendL.cons (lg Qq) ln) (YR (n+41) a0) rfl rfl) (cO (OC.callF (us:= [(T.agg (Qa true a0))]) (r':=(T.tup [(T.agg [(tI ((Qf a0).Grid.Rows)),(tI ((Qf a0).Grid.Cols)),(tS ((Qf a0).Grid.Cells)),(tS ((Qf a0).Fill)),(T.os 2 3 0 ((((Qf a0).Clues).map (Qd true)).length)),(tI ((Qf a0).Version))]),(tB (decide (QB a0=0)))])) (objs:= [(Obj.rows 2 (((Qf a0).Clues).map (Qd true)))]) rfl (vc (tv (T.agg (Qa true a0)) rfl) vn) (LendL.cons (Lend.agg (LendL.cons (Lend.pl rfl) (LendL.cons (Lend.pl rfl) (LendL.cons (Lend.pl rfl) ln)))) ln) (Jj (n+0) a0 (by first | exact QG _ _ | (simp only [Qe];omega) | (simp only [Qe,Qo];omega) | (simp only [Qe,Qo];done) | exact Q0 _ _ _ _ | (simp only [Qo];omega) | assumption | omega | (simp only [List.length_map];omega) | (simp only [List.length_map,List.length_append,List.length_cons,List.length_nil,List.length_replicate,List.length_set,List.length_drop,List.length_take,Z7] at *;omega))) rfl) (mO (T.tup [(T.agg [(tI ((Qf a0).Grid.Rows)),(tI ((Qf a0).Grid.Cols)),(tS ((Qf a0).Grid.Cells)),(tS ((Qf a0).Fill)),(T.os 2 3 0 ((((Qf a0).Clues).map (Qd true)).length)),(tI ((Qf a0).Version))]),(tB (decide (QB a0=0)))]) rfl (fO (OF.extract (t:=(T.agg [(tI ((Qf a0).Grid.Rows)),(tI ((Qf a0).Grid.Cols)),(tS ((Qf a0).Grid.Cells)),(tS ((Qf a0).Fill)),(T.os 2 3 0 ((((Qf a0).Clues).map (Qd true)).length)),(tI ((Qf a0).Version))])) (tv (T.tup [(T.agg [(tI ((Qf a0).Grid.Rows)),(tI ((Qf a0).Grid.Cols)),(tS ((Qf a0).Grid.Cells)),(tS ((Qf a0).Fill)),(T.os 2 3 0 ((((Qf a0).Clues).map (Qd true)).length)),(tI ((Qf a0).Version))]),(tB (decide (QB a0=0)))]) rfl) rfl) (fO (OF.extract (t:=(tB (decide (QB a0=0)))) (tv (T.tup [(T.agg [(tI ((Qf a0).Grid.Rows)),(tI ((Qf a0).Grid.Cols)),(tS ((Qf a0).Grid.Cells)),(tS ((Qf a0).Fill)),(T.os 2 3 0 ((((Qf a0).Clues).map (Qd true)).length)),(tI ((Qf a0).Version))]),(tB (decide (QB a0=0)))]) rfl) rfl) (kO (B.alloc (t:=(T.agg [(tN 0),(tN 0),(tS ByteArray.empty),(tS ByteArray.empty),T.nils,(tN 0)])) (ts:= [(tN 0),(tN 0),(tS ByteArray.empty),(tS ByteArray.empty),T.nils,(tN 0)]) Qcc Qfh nofun (fun _=> .agg _ _ rfl (Y5 (RL.cons (.int _ _) (RL.cons (.int _ _) (RL.cons (.str _) (RL.cons (.str _) (RL.cons (.nils) (RL.cons (.int _ _) (RL.nil _))))))))) rfl) (cO (B.storeW (us:= [(tI ((Qf a0).Grid.Rows)),(tI ((Qf a0).Grid.Cols)),(tS ((Qf a0).Grid.Cells)),(tS ((Qf a0).Fill)),(T.os 2 3 0 ((((Qf a0).Clues).map (Qd true)).length)),(tI ((Qf a0).Version))]) (tv (T.op 4 0) rfl) (tv (T.agg [(tI ((Qf a0).Grid.Rows)),(tI ((Qf a0).Grid.Cols)),(tS ((Qf a0).Grid.Cells)),(tS ((Qf a0).Fill)),(T.os 2 3 0 ((((Qf a0).Clues).map (Qd true)).length)),(tI ((Qf a0).Version))]) rfl) nofun rfl rfl rfl Qdt Yq (bc rfl (bc rfl (bc rfl (bc rfl (bc rfl (bc rfl bn))))))) ?_))))))))))
 refine aO (tB (decide (QB a0=0))) rfl (nt (sq (sr (lO (OL.loadOn (us:= [(tI ((Qf a0).Grid.Rows)),(tI ((Qf a0).Grid.Cols)),(tS ((Qf a0).Grid.Cells)),(tS ((Qf a0).Fill)),(T.os 2 3 0 ((((Qf a0).Clues).map (Qd true)).length)),(tI ((Qf a0).Version))]) (tv (T.op 4 0) rfl) rfl Qau Yq (lb rfl) rfl) (lO (OL.loadOn (us:= [(tI ((Qf a0).Grid.Rows)),(tI ((Qf a0).Grid.Cols)),(tS ((Qf a0).Grid.Cells)),(tS ((Qf a0).Fill)),(T.os 2 1 0 ((((Qf a0).Clues).map (Qd true)).length)),(tI ((Qf a0).Version))]) (tv (T.op 2 0) rfl) rfl Qau Yq (lb rfl) rfl) (cO (cS (us:= [(T.agg (Q9 false (Qf a0))),(T.agg (Q9 false (Qf a0)))]) (vc (tv (T.agg [(tI ((Qf a0).Grid.Rows)),(tI ((Qf a0).Grid.Cols)),(tS ((Qf a0).Grid.Cells)),(tS ((Qf a0).Fill)),(T.os 2 3 0 ((((Qf a0).Clues).map (Qd true)).length)),(tI ((Qf a0).Version))]) rfl) (vc (tv (T.agg [(tI ((Qf a0).Grid.Rows)),(tI ((Qf a0).Grid.Cols)),(tS ((Qf a0).Grid.Cells)),(tS ((Qf a0).Fill)),(T.os 2 1 0 ((((Qf a0).Clues).map (Qd true)).length)),(tI ((Qf a0).Version))]) rfl) vn)) (LendL.cons (Lend.agg (LendL.cons (Lend.pl rfl) (LendL.cons (Lend.pl rfl) (LendL.cons (Lend.pl rfl) (LendL.cons (Lend.pl rfl) (LendL.cons (Lend.os rfl rfl (okeClue.fzMap _ _)) (LendL.cons (Lend.pl rfl) ln))))))) (LendL.cons (Lend.agg (LendL.cons (Lend.pl rfl) (LendL.cons (Lend.pl rfl) (LendL.cons (Lend.pl rfl) (LendL.cons (Lend.pl rfl) (LendL.cons (Lend.os rfl rfl (okeClue.fzMap _ _)) (LendL.cons (Lend.pl rfl) ln))))))) ln)) (Jp (n+37) (Qf a0) (Qf a0) (by first | exact QG _ _ | (simp only [Qe];omega) | (simp only [Qe,Qo];omega) | (simp only [Qe,Qo];done) | exact Q0 _ _ _ _ | (simp only [Qo];omega) | assumption | omega | (simp only [List.length_map];omega) | (simp only [List.length_map,List.length_append,List.length_cons,List.length_nil,List.length_replicate,List.length_set,List.length_drop,List.length_take,Z7] at *;omega)) (by first | exact QG _ _ | (simp only [Qe];omega) | (simp only [Qe,Qo];omega) | (simp only [Qe,Qo];done) | exact Q0 _ _ _ _ | (simp only [Qo];omega) | assumption | omega | (simp only [List.length_map];omega) | (simp only [List.length_map,List.length_append,List.length_cons,List.length_nil,List.length_replicate,List.length_set,List.length_drop,List.length_take,Z7] at *;omega))) rfl rfl) (fO (ZL (tv (tB (decide ((Qf a0)=(Qf a0)))) rfl)) (mO (tB (!(decide ((Qf a0)=(Qf a0))))) rfl ?_))))))))
 refine gn ((Qf a0)=(Qf a0)) (fun fhg33_1=> ?_) fun fhg33_1=> ?_
 ·refine QY 3 4 false 33 (ny fhg33_1) rfl rfl rfl ?_
  refine fO (OF.pickT (VEv.tmpB rfl (ny fhg33_1)) (VEv.bool true)) (nt (ct rfl (sr (fO (OF.assign (VEv.bool false)) (nt (rt (tr (vb (b':=false) rfl ?_))))))))
  first | rfl | (exfalso;simp only [Qe,not_true_eq_false] at *;done) | (exfalso;simp only [Qe] at* <;>omega) | (exfalso;simp only [Qe,Qo] at* <;>omega) | (exfalso;simp only [Qe,Qo,not_true_eq_false] at *;done) | (exfalso;omega) | (exfalso;(simp only [Qo] at* <;>omega)) | (exfalso;simp only [Qo,not_true_eq_false] at *;done) | (exfalso;simp_all;done)
 refine gF (nz fhg33_1) rfl rfl (OF.move (tv (tB (decide (QB a0=0))) rfl)) (gF (nz fhg33_1) rfl rfl (OF.move (tv (tB (decide (QB a0=0))) rfl)) (gF (nz fhg33_1) rfl rfl (B.bneq U4 (c:=(!((decide (QB a0=0)) == (decide (QB a0=0))))) (tv (tB (decide (QB a0=0))) rfl) (tv (tB (decide (QB a0=0))) rfl) rfl) (fO (OF.pickF (VEv.tmpB rfl (nz fhg33_1)) (tv (tB (!((decide (QB a0=0)) == (decide (QB a0=0))))) rfl)) (nt ?_))))
 refine VRun.cond (tv (tB (!((decide (QB a0=0)) == (decide (QB a0=0))))) rfl) (fun hc1=> ?_) (fun hc1=> ?_)
 ·have fhc1:(!((decide (QB a0=0)) == (decide (QB a0=0))))=true:=hc1
  refine sr (fO (OF.assign (VEv.bool false)) (nt (rt (tr (vb (b':=false) rfl ?_)))))
  first | rfl | (exfalso;simp only [Qe,not_true_eq_false] at *;done) | (exfalso;simp only [Qe] at* <;>omega) | (exfalso;simp only [Qe,Qo] at* <;>omega) | (exfalso;simp only [Qe,Qo,not_true_eq_false] at *;done) | (exfalso;omega) | (exfalso;(simp only [Qo] at* <;>omega)) | (exfalso;simp only [Qo,not_true_eq_false] at *;done) | (exfalso;simp_all;done)
 have fhc1:(!((decide (QB a0=0)) == (decide (QB a0=0))))=false:=hc1
 first | (have hz1:=Qb0 fhc1) | skip
 refine sk (tn (sr (fO (OF.assign (VEv.int .i64 1)) (nt (sr (lO (OL.loadOn (us:= [(tI ((Qf a0).Grid.Rows)),(tI ((Qf a0).Grid.Cols)),(tS ((Qf a0).Grid.Cells)),(tS ((Qf a0).Fill)),(T.os 2 3 0 ((((Qf a0).Clues).map (Qd true)).length)),(tI ((Qf a0).Version))]) (tv (T.op 4 0) rfl) rfl Qau Yq (lb rfl) rfl) (mO (tN 1) rfl (cO (OC.callL (ts:= [(T.agg [(tI ((Qf a0).Grid.Rows)),(tI ((Qf a0).Grid.Cols)),(tS ((Qf a0).Grid.Cells)),(tS ((Qf a0).Fill)),(T.os 2 0 0 ((((Qf a0).Clues).map (Qd true)).length)),(tI ((Qf a0).Version))]),(tN 1)]) [3] (r:=(tN (Qy 1 ((Qf a0).Clues)))) (L:= [(2,(((Qf a0).Clues).map (Qd true)))]) [(2,((QH 1 ((Qf a0).Clues)).map (Qd true)))] [(Obj.rows 2 (((Qf a0).Clues).map (Qd true)))] rfl (vc (tv (T.agg [(tI ((Qf a0).Grid.Rows)),(tI ((Qf a0).Grid.Cols)),(tS ((Qf a0).Grid.Cells)),(tS ((Qf a0).Fill)),(T.os 2 3 0 ((((Qf a0).Clues).map (Qd true)).length)),(tI ((Qf a0).Version))]) rfl) (vc (tv (tN 1) rfl) vn)) (by decide) rfl (And.intro (And.intro rfl rfl) (trivial)) (bc (okeClue.cleanMap _) bn) (bc (okeClue.cleanMap _) bn) rfl rfl (.int _ _) (Qbq (n+38) (Qf a0) 1 (by first | exact QG _ _ | (simp only [Qe];omega) | (simp only [Qe,Qo];omega) | (simp only [Qe,Qo];done) | exact Q0 _ _ _ _ | (simp only [Qo];omega) | assumption | omega | (simp only [List.length_map];omega) | (simp only [List.length_map,List.length_append,List.length_cons,List.length_nil,List.length_replicate,List.length_set,List.length_drop,List.length_take,Z7] at *;omega)))) (aO (tN (Qy 1 ((Qf a0).Clues))) rfl (nt (sr ?_)))))))))))
 refine fO (OF.assign (VEv.int .i64 1)) (nt (sr (lO (OL.loadOn (us:= [(tI ((Qf a0).Grid.Rows)),(tI ((Qf a0).Grid.Cols)),(tS ((Qf a0).Grid.Cells)),(tS ((Qf a0).Fill)),(T.os 2 3 0 ((((Qf a0).Clues).map (Qd true)).length)),(tI ((Qf a0).Version))]) (tv (T.op 4 0) rfl) rfl Qau Yq (lb rfl) rfl) (mO (tN 1) rfl (cO (cS (us:= [(T.agg [(tI ((Qf a0).Grid.Rows)),(tI ((Qf a0).Grid.Cols)),(tS ((Qf a0).Grid.Cells)),(tS ((Qf a0).Fill)),(rd 2 Qd (QH 1 ((Qf a0).Clues))),(tI ((Qf a0).Version))]),(tN 1)]) (vc (tv (T.agg [(tI ((Qf a0).Grid.Rows)),(tI ((Qf a0).Grid.Cols)),(tS ((Qf a0).Grid.Cells)),(tS ((Qf a0).Fill)),(T.os 2 3 0 ((((Qf a0).Clues).map (Qd true)).length)),(tI ((Qf a0).Version))]) rfl) (vc (tv (tN 1) rfl) vn)) (LendL.cons (Lend.agg (LendL.cons (Lend.pl rfl) (LendL.cons (Lend.pl rfl) (LendL.cons (Lend.pl rfl) (LendL.cons (Lend.pl rfl) (LendL.cons (Lend.os rfl (by simp only [List.length_map,Qo,List.length_set,Qbz]) (okeClue.fzMap _ _)) (LendL.cons (Lend.pl rfl) ln))))))) (lp rfl ln)) (Y0 (n+38) (D.Draft.mk ((Qf a0).Grid) ((Qf a0).Fill) (QH 1 ((Qf a0).Clues)) ((Qf a0).Version)) 1 (by first | exact QG _ _ | (simp only [Qe];omega) | (simp only [Qe,Qo];omega) | (simp only [Qe,Qo];done) | exact Q0 _ _ _ _ | (simp only [Qo];omega) | assumption | omega | (simp only [List.length_map];omega) | (simp only [List.length_map,List.length_append,List.length_cons,List.length_nil,List.length_replicate,List.length_set,List.length_drop,List.length_take,Z7] at *;omega)) (by first | exact QG _ _ | (simp only [Qe];omega) | (simp only [Qe,Qo];omega) | (simp only [Qe,Qo];done) | exact Q0 _ _ _ _ | (simp only [Qo];omega) | assumption | omega | (simp only [List.length_map];omega) | (simp only [List.length_map,List.length_append,List.length_cons,List.length_nil,List.length_replicate,List.length_set,List.length_drop,List.length_take,Z7] at *;omega))) rfl rfl) (aO (tN (Qy 1 (D.Draft.mk ((Qf a0).Grid) ((Qf a0).Fill) (QH 1 ((Qf a0).Clues)) ((Qf a0).Version)).Clues)) rfl (nt (sq (sr (mO (tN (Qy 1 (D.Draft.mk ((Qf a0).Grid) ((Qf a0).Fill) (QH 1 ((Qf a0).Clues)) ((Qf a0).Version)).Clues)) rfl (fO (B.lss (c:=(decide (Qy 1 (D.Draft.mk ((Qf a0).Grid) ((Qf a0).Fill) (QH 1 ((Qf a0).Clues)) ((Qf a0).Version)).Clues<0))) (tv (tN (Qy 1 (D.Draft.mk ((Qf a0).Grid) ((Qf a0).Fill) (QH 1 ((Qf a0).Clues)) ((Qf a0).Version)).Clues)) rfl) (VEv.int .i64 0) (by first | exact QG _ _ | (simp only [Qe];omega) | (simp only [Qe,Qo];omega) | (simp only [Qe,Qo];done) | exact Q0 _ _ _ _ | (simp only [Qo];omega) | (exact Zb (by omega)))) ?_)))))))))))
 refine nt ?_
 refine cd (Qy 1 (D.Draft.mk ((Qf a0).Grid) ((Qf a0).Fill) (QH 1 ((Qf a0).Clues)) ((Qf a0).Version)).Clues<0) rfl (fun fhc2=> ?_) fun fhc2=> ?_
 ·refine sr ?_
  refine fO (OF.assign (VEv.bool false)) (nt (rt (tr (vb (b':=false) rfl ?_))))
  first | rfl | (exfalso;simp only [Qe,not_true_eq_false] at *;done) | (exfalso;simp only [Qe] at* <;>omega) | (exfalso;simp only [Qe,Qo] at* <;>omega) | (exfalso;simp only [Qe,Qo,not_true_eq_false] at *;done) | (exfalso;omega) | (exfalso;(simp only [Qo] at* <;>omega)) | (exfalso;simp only [Qo,not_true_eq_false] at *;done) | (exfalso;simp_all;done)
 first | (have hz2:=Qb0 fhc2) | skip
 refine sk (tn (sq (sr (mO (tN (Qy 1 (D.Draft.mk ((Qf a0).Grid) ((Qf a0).Fill) (QH 1 ((Qf a0).Clues)) ((Qf a0).Version)).Clues)) rfl (mO (tN (Qy 1 ((Qf a0).Clues))) rfl (fO (QhS (tv (tN (Qy 1 (D.Draft.mk ((Qf a0).Grid) ((Qf a0).Fill) (QH 1 ((Qf a0).Clues)) ((Qf a0).Version)).Clues)) rfl) (tv (tN (Qy 1 ((Qf a0).Clues))) rfl)) (nt ?_)))))))
 refine cn (Qy 1 (D.Draft.mk ((Qf a0).Grid) ((Qf a0).Fill) (QH 1 ((Qf a0).Clues)) ((Qf a0).Version)).Clues=Qy 1 ((Qf a0).Clues)) rfl (fun fhc3=> ?_) fun fhc3=> ?_
 ·refine sr ?_
  refine fO (OF.assign (VEv.bool false)) (nt (rt (tr (vb (b':=false) rfl ?_))))
  first | rfl | (exfalso;simp only [Qe,not_true_eq_false] at *;done) | (exfalso;simp only [Qe] at* <;>omega) | (exfalso;simp only [Qe,Qo] at* <;>omega) | (exfalso;simp only [Qe,Qo,not_true_eq_false] at *;done) | (exfalso;omega) | (exfalso;(simp only [Qo] at* <;>omega)) | (exfalso;simp only [Qo,not_true_eq_false] at *;done) | (exfalso;simp_all;done)
 first | (have hz3:=Qb0 fhc3) | skip
 refine sk (tn (sr (lO (OL.loadOn (us:=(Qa false a0)) (tv (T.op 0 0) rfl) rfl Qh9 Qig (lb rfl) rfl) (cO (cS (vc (tv (T.agg (Qa false a0)) rfl) vn) (LendL.cons (lg Qq) ln) (YR (n+41) a0) rfl rfl) (cO (OC.callF (us:= [(T.agg (Qa true a0))]) (r':=(T.tup [(T.agg [(tI ((Qf a0).Grid.Rows)),(tI ((Qf a0).Grid.Cols)),(tS ((Qf a0).Grid.Cells)),(tS ((Qf a0).Fill)),(T.os 2 5 0 ((((Qf a0).Clues).map (Qd true)).length)),(tI ((Qf a0).Version))]),(tB (decide (QB a0=0)))])) (objs:= [(Obj.rows 2 (((Qf a0).Clues).map (Qd true)))]) rfl (vc (tv (T.agg (Qa true a0)) rfl) vn) (LendL.cons (Lend.agg (LendL.cons (Lend.pl rfl) (LendL.cons (Lend.pl rfl) (LendL.cons (Lend.pl rfl) ln)))) ln) (Jj (n+0) a0 (by first | exact QG _ _ | (simp only [Qe];omega) | (simp only [Qe,Qo];omega) | (simp only [Qe,Qo];done) | exact Q0 _ _ _ _ | (simp only [Qo];omega) | assumption | omega | (simp only [List.length_map];omega) | (simp only [List.length_map,List.length_append,List.length_cons,List.length_nil,List.length_replicate,List.length_set,List.length_drop,List.length_take,Z7] at *;omega))) rfl) (mO (T.tup [(T.agg [(tI ((Qf a0).Grid.Rows)),(tI ((Qf a0).Grid.Cols)),(tS ((Qf a0).Grid.Cells)),(tS ((Qf a0).Fill)),(T.os 2 5 0 ((((Qf a0).Clues).map (Qd true)).length)),(tI ((Qf a0).Version))]),(tB (decide (QB a0=0)))]) rfl (fO (OF.extract (t:=(T.agg [(tI ((Qf a0).Grid.Rows)),(tI ((Qf a0).Grid.Cols)),(tS ((Qf a0).Grid.Cells)),(tS ((Qf a0).Fill)),(T.os 2 5 0 ((((Qf a0).Clues).map (Qd true)).length)),(tI ((Qf a0).Version))])) (tv (T.tup [(T.agg [(tI ((Qf a0).Grid.Rows)),(tI ((Qf a0).Grid.Cols)),(tS ((Qf a0).Grid.Cells)),(tS ((Qf a0).Fill)),(T.os 2 5 0 ((((Qf a0).Clues).map (Qd true)).length)),(tI ((Qf a0).Version))]),(tB (decide (QB a0=0)))]) rfl) rfl) (fO (OF.extract (t:=(tB (decide (QB a0=0)))) (tv (T.tup [(T.agg [(tI ((Qf a0).Grid.Rows)),(tI ((Qf a0).Grid.Cols)),(tS ((Qf a0).Grid.Cells)),(tS ((Qf a0).Fill)),(T.os 2 5 0 ((((Qf a0).Clues).map (Qd true)).length)),(tI ((Qf a0).Version))]),(tB (decide (QB a0=0)))]) rfl) rfl) (kO (B.alloc (t:=(T.agg [(tN 0),(tN 0),(tS ByteArray.empty),(tS ByteArray.empty),T.nils,(tN 0)])) (ts:= [(tN 0),(tN 0),(tS ByteArray.empty),(tS ByteArray.empty),T.nils,(tN 0)]) Qcc Qfh nofun (fun _=> .agg _ _ rfl (Y5 (RL.cons (.int _ _) (RL.cons (.int _ _) (RL.cons (.str _) (RL.cons (.str _) (RL.cons (.nils) (RL.cons (.int _ _) (RL.nil _))))))))) rfl) (cO (B.storeW (us:= [(tI ((Qf a0).Grid.Rows)),(tI ((Qf a0).Grid.Cols)),(tS ((Qf a0).Grid.Cells)),(tS ((Qf a0).Fill)),(T.os 2 5 0 ((((Qf a0).Clues).map (Qd true)).length)),(tI ((Qf a0).Version))]) (tv (T.op 6 0) rfl) (tv (T.agg [(tI ((Qf a0).Grid.Rows)),(tI ((Qf a0).Grid.Cols)),(tS ((Qf a0).Grid.Cells)),(tS ((Qf a0).Fill)),(T.os 2 5 0 ((((Qf a0).Clues).map (Qd true)).length)),(tI ((Qf a0).Version))]) rfl) nofun rfl rfl rfl Qdt Yq (bc rfl (bc rfl (bc rfl (bc rfl (bc rfl (bc rfl bn))))))) ?_))))))))))
 refine aO (tB (decide (QB a0=0))) rfl (nt (sq (sr (lO (OL.loadOn (us:= [(tI ((Qf a0).Grid.Rows)),(tI ((Qf a0).Grid.Cols)),(tS ((Qf a0).Grid.Cells)),(tS ((Qf a0).Fill)),(T.os 2 5 0 ((((Qf a0).Clues).map (Qd true)).length)),(tI ((Qf a0).Version))]) (tv (T.op 6 0) rfl) rfl Qau Yq (lb rfl) rfl) (lO (OL.loadOn (us:= [(tI ((Qf a0).Grid.Rows)),(tI ((Qf a0).Grid.Cols)),(tS ((Qf a0).Grid.Cells)),(tS ((Qf a0).Fill)),(T.os 2 1 0 ((((Qf a0).Clues).map (Qd true)).length)),(tI ((Qf a0).Version))]) (tv (T.op 2 0) rfl) rfl Qau Yq (lb rfl) rfl) (cO (cS (us:= [(T.agg (Q9 false (Qf a0))),(T.agg (Q9 false (Qf a0)))]) (vc (tv (T.agg [(tI ((Qf a0).Grid.Rows)),(tI ((Qf a0).Grid.Cols)),(tS ((Qf a0).Grid.Cells)),(tS ((Qf a0).Fill)),(T.os 2 5 0 ((((Qf a0).Clues).map (Qd true)).length)),(tI ((Qf a0).Version))]) rfl) (vc (tv (T.agg [(tI ((Qf a0).Grid.Rows)),(tI ((Qf a0).Grid.Cols)),(tS ((Qf a0).Grid.Cells)),(tS ((Qf a0).Fill)),(T.os 2 1 0 ((((Qf a0).Clues).map (Qd true)).length)),(tI ((Qf a0).Version))]) rfl) vn)) (LendL.cons (Lend.agg (LendL.cons (Lend.pl rfl) (LendL.cons (Lend.pl rfl) (LendL.cons (Lend.pl rfl) (LendL.cons (Lend.pl rfl) (LendL.cons (Lend.os rfl rfl (okeClue.fzMap _ _)) (LendL.cons (Lend.pl rfl) ln))))))) (LendL.cons (Lend.agg (LendL.cons (Lend.pl rfl) (LendL.cons (Lend.pl rfl) (LendL.cons (Lend.pl rfl) (LendL.cons (Lend.pl rfl) (LendL.cons (Lend.os rfl rfl (okeClue.fzMap _ _)) (LendL.cons (Lend.pl rfl) ln))))))) ln)) (Jp (n+37) (Qf a0) (Qf a0) (by first | exact QG _ _ | (simp only [Qe];omega) | (simp only [Qe,Qo];omega) | (simp only [Qe,Qo];done) | exact Q0 _ _ _ _ | (simp only [Qo];omega) | assumption | omega | (simp only [List.length_map];omega) | (simp only [List.length_map,List.length_append,List.length_cons,List.length_nil,List.length_replicate,List.length_set,List.length_drop,List.length_take,Z7] at *;omega)) (by first | exact QG _ _ | (simp only [Qe];omega) | (simp only [Qe,Qo];omega) | (simp only [Qe,Qo];done) | exact Q0 _ _ _ _ | (simp only [Qo];omega) | assumption | omega | (simp only [List.length_map];omega) | (simp only [List.length_map,List.length_append,List.length_cons,List.length_nil,List.length_replicate,List.length_set,List.length_drop,List.length_take,Z7] at *;omega))) rfl rfl) (fO (ZL (tv (tB (decide ((Qf a0)=(Qf a0)))) rfl)) (mO (tB (!(decide ((Qf a0)=(Qf a0))))) rfl (gF (nz fhg33_1) rfl rfl (OF.move (tv (tB (decide (QB a0=0))) rfl)) (gF (nz fhg33_1) rfl rfl (OF.move (tv (tB (decide (QB a0=0))) rfl)) (gF (nz fhg33_1) rfl rfl (B.bneq U4 (c:=(!((decide (QB a0=0)) == (decide (QB a0=0))))) (tv (tB (decide (QB a0=0))) rfl) (tv (tB (decide (QB a0=0))) rfl) rfl) ?_)))))))))))
 refine fO (OF.pickF (VEv.tmpB rfl (nz fhg33_1)) (tv (tB (!((decide (QB a0=0)) == (decide (QB a0=0))))) rfl)) (nt (cg hc1 rfl (sk (tn (sr (fO (OF.assign (VEv.int .i64 1)) (nt (sr (lO (OL.loadOn (us:= [(tI ((Qf a0).Grid.Rows)),(tI ((Qf a0).Grid.Cols)),(tS ((Qf a0).Grid.Cells)),(tS ((Qf a0).Fill)),(T.os 2 3 0 ((((Qf a0).Clues).map (Qd true)).length)),(tI ((Qf a0).Version))]) (tv (T.op 4 0) rfl) rfl Qau Yq (lb rfl) rfl) (mO (tN 1) rfl (cO (cS (us:= [(T.agg [(tI ((Qf a0).Grid.Rows)),(tI ((Qf a0).Grid.Cols)),(tS ((Qf a0).Grid.Cells)),(tS ((Qf a0).Fill)),(rd 2 Qd (QH 1 ((Qf a0).Clues))),(tI ((Qf a0).Version))]),(tN 1)]) (vc (tv (T.agg [(tI ((Qf a0).Grid.Rows)),(tI ((Qf a0).Grid.Cols)),(tS ((Qf a0).Grid.Cells)),(tS ((Qf a0).Fill)),(T.os 2 3 0 ((((Qf a0).Clues).map (Qd true)).length)),(tI ((Qf a0).Version))]) rfl) (vc (tv (tN 1) rfl) vn)) (LendL.cons (Lend.agg (LendL.cons (Lend.pl rfl) (LendL.cons (Lend.pl rfl) (LendL.cons (Lend.pl rfl) (LendL.cons (Lend.pl rfl) (LendL.cons (Lend.os rfl (by simp only [List.length_map,Qo,List.length_set,Qbz]) (okeClue.fzMap _ _)) (LendL.cons (Lend.pl rfl) ln))))))) (lp rfl ln)) (Y0 (n+38) (D.Draft.mk ((Qf a0).Grid) ((Qf a0).Fill) (QH 1 ((Qf a0).Clues)) ((Qf a0).Version)) 1 (by first | exact QG _ _ | (simp only [Qe];omega) | (simp only [Qe,Qo];omega) | (simp only [Qe,Qo];done) | exact Q0 _ _ _ _ | (simp only [Qo];omega) | assumption | omega | (simp only [List.length_map];omega) | (simp only [List.length_map,List.length_append,List.length_cons,List.length_nil,List.length_replicate,List.length_set,List.length_drop,List.length_take,Z7] at *;omega)) (by first | exact QG _ _ | (simp only [Qe];omega) | (simp only [Qe,Qo];omega) | (simp only [Qe,Qo];done) | exact Q0 _ _ _ _ | (simp only [Qo];omega) | assumption | omega | (simp only [List.length_map];omega) | (simp only [List.length_map,List.length_append,List.length_cons,List.length_nil,List.length_replicate,List.length_set,List.length_drop,List.length_take,Z7] at *;omega))) rfl rfl) ?_)))))))))))
 refine aO (tN (Qy 1 (D.Draft.mk ((Qf a0).Grid) ((Qf a0).Fill) (QH 1 ((Qf a0).Clues)) ((Qf a0).Version)).Clues)) rfl (nt (sq (sr (mO (tN (Qy 1 (D.Draft.mk ((Qf a0).Grid) ((Qf a0).Fill) (QH 1 ((Qf a0).Clues)) ((Qf a0).Version)).Clues)) rfl (fO (B.lss (c:=(decide (Qy 1 (D.Draft.mk ((Qf a0).Grid) ((Qf a0).Fill) (QH 1 ((Qf a0).Clues)) ((Qf a0).Version)).Clues<0))) (tv (tN (Qy 1 (D.Draft.mk ((Qf a0).Grid) ((Qf a0).Fill) (QH 1 ((Qf a0).Clues)) ((Qf a0).Version)).Clues)) rfl) (VEv.int .i64 0) (by first | exact QG _ _ | (simp only [Qe];omega) | (simp only [Qe,Qo];omega) | (simp only [Qe,Qo];done) | exact Q0 _ _ _ _ | (simp only [Qo];omega) | (exact Zb (by omega)))) (nt (cg (dz fhc2) rfl (sk (tn (sq (sr ?_)))))))))))
 refine mO (tN (Qy 1 (D.Draft.mk ((Qf a0).Grid) ((Qf a0).Fill) (QH 1 ((Qf a0).Clues)) ((Qf a0).Version)).Clues)) rfl (mO (tN (Qy 1 ((Qf a0).Clues))) rfl (fO (QhS (tv (tN (Qy 1 (D.Draft.mk ((Qf a0).Grid) ((Qf a0).Fill) (QH 1 ((Qf a0).Clues)) ((Qf a0).Version)).Clues)) rfl) (tv (tN (Qy 1 ((Qf a0).Clues))) rfl)) (nt (cg (nz fhc3) rfl (sk (tn (sr (fO (OF.assign (VEv.bool true)) (nt (rt ?_))))))))))
 exact vb rfl rfl
end Go.Proofs.YthifchndolccgaaDoor.AE
namespace Go.Proofs.YthifchndolccgaaDoor.AE
open Go Go.RowKit
set_option linter.unusedVariables false
set_option linter.unusedSimpArgs false
theorem QiI {α:Type} {d:AK α} {e:Bool→α→List T} {x:α} {h:AH} {cs:Array Value} (hk:RK d e) (hr:d.R h x (Qe7 (.agg cs)).cells.toList):R h (.agg (e false x)) (Qe7 (.agg cs)):=by
 have h1:=hk h x _ hr
 refine .agg _ _ (by simpa [Value.cells,Qe7] using h1.1) (fun i hi=> ?_)
 have:=h1.2 i hi
 simpa [Value.cells,Qe7,Array.getD_eq_getD_getElem?,List.getD_eq_getElem?_getD] using this
theorem Pure.bool {call:QE} {f:FuncId} {ts:List T} {b:Bool} (hp:Pure call f ts (.bool b)) {h:AH} {vs:List Value} (hfr:Fr 1 h) (hr:RL h ts vs):CallS call f vs h 1 (fun v _=>v= .bool b):=by
 refine (hp h 1 vs hfr hr).mono ?_
 rintro v h' ⟨_,N,hs,_⟩
 cases hs with
 | fz hr=>cases hr;rfl
end Go.Proofs.YthifchndolccgaaDoor.AE
namespace Go.Proofs.YthifchndolccgaaDoor.AE
open Go Go.RowKit Go.Shelf Go.Proofs
def laysRepl_ren : Go.Shelf.Ren:=⟨fun | 155=>63 | 154=>83 | 138=>105 | 165=>106 | 143=>107 | 166=>108 | 197=>109 | 169=>110 | 195=>125 | 218=>126 | 240=>127 | 241=>128 | 219=>129 | 260=>130 | 276=>136 | 277=>137 | 217=>138 | 225=>139 | 224=>140 | 267=>141 | 266=>144 | 314=>145 | n=>n,fun | 9=>9 | 3=>3 | 4=>4 | 72=>116 | 0=>0 | 76=>120 | 105=>122 | 21=>21 | 5=>5 | 70=>114 | 20=>20 | 37=>88 | 75=>119 | 127=>135 | 164=>138 | 46=>142 | 119=>143 | 139=>146 | 138=>145 | 146=>150 | 51=>149 | 80=>124 | n=>n,fun | 1=>0 | 3=>1 | 4=>2 | n=>n⟩
theorem laysRepl : Go.Proofs.LaysM.n155 Tryd.prog laysRepl_ren where
 mixed:=by kernel_rfl
 f138:=Tryd.func105.trans (congrArg some (by kernel_rfl))
 f143:=Tryd.func107.trans (congrArg some (by kernel_rfl))
 f154:=Tryd.func83.trans (congrArg some (by kernel_rfl))
 f155:=Tryd.func63.trans (congrArg some (by kernel_rfl))
 f165:=Tryd.func106.trans (congrArg some (by kernel_rfl))
 f166:=Tryd.func108.trans (congrArg some (by kernel_rfl))
 f169:=Tryd.func110.trans (congrArg some (by kernel_rfl))
 f195:=Tryd.func125.trans (congrArg some (by kernel_rfl))
 f197:=Tryd.func109.trans (congrArg some (by kernel_rfl))
 f217:=Tryd.func138.trans (congrArg some (by kernel_rfl))
 f218:=Tryd.func126.trans (congrArg some (by kernel_rfl))
 f219:=Tryd.func129.trans (congrArg some (by kernel_rfl))
 f224:=Tryd.func140.trans (congrArg some (by kernel_rfl))
 f225:=Tryd.func139.trans (congrArg some (by kernel_rfl))
 f240:=Tryd.func127.trans (congrArg some (by kernel_rfl))
 f241:=Tryd.func128.trans (congrArg some (by kernel_rfl))
 f260:=Tryd.func130.trans (congrArg some (by kernel_rfl))
 f266:=Tryd.func144.trans (congrArg some (by kernel_rfl))
 f267:=Tryd.func141.trans (congrArg some (by kernel_rfl))
 f276:=Tryd.func136.trans (congrArg some (by kernel_rfl))
 f277:=Tryd.func137.trans (congrArg some (by kernel_rfl))
 f314:=Tryd.func145.trans (congrArg some (by kernel_rfl))
 t0:=Tryd.underlying0
 a0:=Tryd.isAgg0
 z0:=Tryd.sizeOf0
 v0:=Tryd.zeroValue0
 t3:=Tryd.underlying3
 a3:=Tryd.isAgg3
 z3:=Tryd.sizeOf3
 v3:=Tryd.zeroValue3
 t4:=Tryd.underlying4
 a4:=Tryd.isAgg4
 z4:=Tryd.sizeOf4
 v4:=Tryd.zeroValue4
 t5:=Tryd.underlying5
 a5:=Tryd.isAgg5
 z5:=Tryd.sizeOf5
 v5:=Tryd.zeroValue5
 t9:=Tryd.underlying9
 a9:=Tryd.isAgg9
 z9:=Tryd.sizeOf9
 v9:=Tryd.zeroValue9
 t20:=Tryd.underlying20
 a20:=Tryd.isAgg20
 z20:=Tryd.sizeOf20
 v20:=Tryd.zeroValue20
 t21:=Tryd.underlying21
 a21:=Tryd.isAgg21
 z21:=Tryd.sizeOf21
 v21:=Tryd.zeroValue21
 t37:=Tryd.underlying88
 a37:=Tryd.isAgg88
 z37:=Tryd.sizeOf88
 v37:=Tryd.zeroValue88
 t46:=Tryd.underlying142
 a46:=Tryd.isAgg142
 z46:=Tryd.sizeOf142
 v46:=Tryd.zeroValue142
 t51:=Tryd.underlying149
 a51:=Tryd.isAgg149
 z51:=Tryd.sizeOf149
 v51:=Tryd.zeroValue149
 t70:=Tryd.underlying114
 a70:=Tryd.isAgg114
 z70:=Tryd.sizeOf114
 v70:=Tryd.zeroValue114
 t72:=Tryd.underlying116
 a72:=Tryd.isAgg116
 z72:=Tryd.sizeOf116
 v72:=Tryd.zeroValue116
 t75:=Tryd.underlying119
 a75:=Tryd.isAgg119
 z75:=Tryd.sizeOf119
 v75:=Tryd.zeroValue119
 t76:=Tryd.underlying120
 a76:=Tryd.isAgg120
 z76:=Tryd.sizeOf120
 v76:=Tryd.zeroValue120
 t105:=Tryd.underlying122
 a105:=Tryd.isAgg122
 z105:=Tryd.sizeOf122
 v105:=Tryd.zeroValue122
 t119:=Tryd.underlying143
 a119:=Tryd.isAgg143
 z119:=Tryd.sizeOf143
 t127:=Tryd.underlying135
 a127:=Tryd.isAgg135
 z127:=Tryd.sizeOf135
 v127:=Tryd.zeroValue135
 t138:=Tryd.underlying145
 a138:=Tryd.isAgg145
 z138:=Tryd.sizeOf145
 v138:=Tryd.zeroValue145
 t139:=Tryd.underlying146
 a139:=Tryd.isAgg146
 z139:=Tryd.sizeOf146
 v139:=Tryd.zeroValue146
 t146:=Tryd.underlying150
 a146:=Tryd.isAgg150
 z146:=Tryd.sizeOf150
 v146:=Tryd.zeroValue150
 t164:=Tryd.underlying138
 a164:=Tryd.isAgg138
 z164:=Tryd.sizeOf138
 v164:=Tryd.zeroValue138
 g1:=by kernel_rfl
 g3:=by kernel_rfl
 g4:=by kernel_rfl
 t80:=Tryd.underlying124
 a80:=Tryd.isAgg124
 z80:=Tryd.sizeOf124
 v80:=Tryd.zeroValue124
 i0:=by kernel_rfl
 i3:=by kernel_rfl
 i4:=by kernel_rfl
 i5:=by kernel_rfl
 i9:=by kernel_rfl
 i20:=by kernel_rfl
 i21:=by kernel_rfl
 i37:=by kernel_rfl
 i46:=by kernel_rfl
 i51:=by kernel_rfl
 i70:=by kernel_rfl
 i72:=by kernel_rfl
 i75:=by kernel_rfl
 i76:=by kernel_rfl
 i80:=by kernel_rfl
 i105:=by kernel_rfl
 i127:=by kernel_rfl
 i138:=by kernel_rfl
 i139:=by kernel_rfl
 i146:=by kernel_rfl
 i164:=by kernel_rfl
 m1:=by kernel_rfl
 s1_3:=fun w h=>Go.Proofs.cell_of_shapedOpen_int (zero:= #[.int .i64 0]) (t:=3) h (of_decide_eq_true (by kernel_rfl)) (by kernel_rfl) rfl (by kernel_rfl) (by kernel_rfl) Tryd.underlying3
 m3:=by kernel_rfl
 m4:=by kernel_rfl
theorem QgD : Builder.Extra Tryd.prog laysRepl_ren where
 sizeBuilder:=by kernel_rfl
 liesBuilder:=by kernel_rfl
 t5:=laysRepl.t5
 a5:=laysRepl.a5
 z5:=laysRepl.z5
 v5:=laysRepl.v5
 infoByte:=by kernel_rfl
 cellsByte:=by kernel_rfl
 sizeByte:=by kernel_rfl
 neB5:=by decide
theorem QiR {W:World} (h:W.ShapedOpen Tryd.prog):GlobOk W.heap.size W:=by
 intro g hg
 obtain rfl:=List.mem_singleton.1 hg
 obtain ⟨m,hm⟩:=laysRepl.s1_3 W h
 refine ⟨?_,m,hm⟩
 unfold World.cell? at hm
 split at hm
 ·rename_i e;exact (Array.getElem?_eq_some_iff.1 e).1
 ·cases hm
theorem Qjc : Qff Tryd.prog:=by
 intro f hf
 by_cases h0:f=63
 ·subst h0
  exact Qed (g:=laysRepl_ren.g 1) (by decide) ⟨fun s o n m w h1 h2 h3 h4=>Any.strings_ReplaceAll laysRepl.ton155 QgD s o n m w h1 h2 h3 h4⟩
 exfalso
 simp [Jc,h0] at hf
end Go.Proofs.YthifchndolccgaaDoor.AE
