/- A part of what the row of FnExactTakeNote uses. Conditions: as each theorem states. -/
import Derived.Test.YtnhblneeekccoaaZFnExactTakeNotec
import Derived.Shelf.Spec.SlicesInsertGrow
import Derived.Test.YtnhblneeekccoaaProg
namespace Go.Proofs.Ytnhblneeekccoaa.AE
open Go Go.RowKit
set_option linter.unusedVariables false
set_option linter.unusedSimpArgs false
set_option maxRecDepth 20000
set_option maxHeartbeats 2000000
theorem Yt (n:Nat) (a0:List D.Note) (a1:D.Note) (g0:(a0.length≤maxLen∧∀y∈a0,Qbh y)) (g1:Qbh a1):Pure (QK Try.prog (n+5)) 3 [(rd 4 Qa a0),(T.agg (Qa false a1))] (tB true):=by
 refine Pure.intro (rs:= [ResultVar.tmp 4]) Try.func3 Y Y Y (E0:= [(0,(rd 4 Qa a0)),(1,(T.agg (Qa false a1)))]) Y ?_
 obtain ⟨hlim,hmx,hmax⟩:=Z3
 have hl0:=Qac (z:=Qn) a0
 have hx:=QcO a0 a1
 have hx2:=Qb1 a0 a1
 refine sr (kO (B.box (ts:=(Qa false a1)) (tv (T.agg (Qa false a1)) Y) nofun Y) (fO (OF.assign (VEv.bool false)) (nt (sr (fO (OF.assign (VEv.int .i64 1048576)) (nt (sr (mO (rd 4 Qa a0) Y (mO (tN 1048576) Y (cO (cS (vc (tv (rd 4 Qa a0) Y) (vc (tv (tN 1048576) Y) vn)) (Yd Y) (J0 (n+2) a0 1048576 (by first | exact g0.2 | exact Qv _ _ _ _ | (simp only [Ql];omega) | assumption | omega | (simp only [List.length_map];omega) | (simp only [List.length_map,List.length_append,List.length_cons,List.length_nil,List.length_replicate,List.length_set,List.length_drop,List.length_take,QT] at *;omega)) (by first | exact g0.2 | exact Qv _ _ _ _ | (simp only [Ql];omega) | assumption | omega | (simp only [List.length_map];omega) | (simp only [List.length_map,List.length_append,List.length_cons,List.length_nil,List.length_replicate,List.length_set,List.length_drop,List.length_take,QT] at *;omega)) (by first | exact g0.2 | exact Qv _ _ _ _ | (simp only [Ql];omega) | assumption | omega | (simp only [List.length_map];omega) | (simp only [List.length_map,List.length_append,List.length_cons,List.length_nil,List.length_replicate,List.length_set,List.length_drop,List.length_take,QT] at *;omega))) Y Y) (aO (tI (YC (zL Qn a0) 1048576)) Y ?_)))))))))))
 refine nt (sq (sr (mO (tI (YC (zL Qn a0) 1048576)) Y (fO (xls (tv (tI (YC (zL Qn a0) 1048576)) Y) (VEv.int .i64 0)) (nt ?_)))))
 refine cd (YC (zL Qn a0) 1048576<0) Y (fun fhc0=> ?_) fun fhc0=> ?_
 ·refine sr ?_
  refine fO (OF.assign (VEv.bool true)) (nt (rt (tr ?_)))
  exact vb Y Y
 first | (have hz0:=Yw fhc0) | skip
 refine sk (tn (sr (lO (OL.loadOn (us:=(Qa false a1)) (tv (T.op 0 0) Y) Y Qco Qbs (lb Y) Y) (mO (tI (YC (zL Qn a0) 1048576)) Y (cO (cS (vc (tv (T.agg (Qa false a1)) Y) (vc (tv (tI (YC (zL Qn a0) 1048576)) Y) vn)) (LendL.cons (lg okeNote) (lp Y ln)) (YZ (n+3) a1 (YC (zL Qn a0) 1048576) (by first | exact g0.2 | exact Qv _ _ _ _ | (simp only [Ql];omega) | assumption | omega | (simp only [List.length_map];omega) | (simp only [List.length_map,List.length_append,List.length_cons,List.length_nil,List.length_replicate,List.length_set,List.length_drop,List.length_take,QT] at *;omega)) (by first | exact g0.2 | exact Qv _ _ _ _ | (simp only [Ql];omega) | assumption | omega | (simp only [List.length_map];omega) | (simp only [List.length_map,List.length_append,List.length_cons,List.length_nil,List.length_replicate,List.length_set,List.length_drop,List.length_take,QT] at *;omega)) (by first | exact g0.2 | exact Qv _ _ _ _ | (simp only [Ql];omega) | assumption | omega | (simp only [List.length_map];omega) | (simp only [List.length_map,List.length_append,List.length_cons,List.length_nil,List.length_replicate,List.length_set,List.length_drop,List.length_take,QT] at *;omega))) Y Y) (aO (tI (YC (Qn a1) (YC (zL Qn a0) 1048576))) Y (nt (sq (sr (mO (tI (YC (Qn a1) (YC (zL Qn a0) 1048576))) Y (fO (xls (tv (tI (YC (Qn a1) (YC (zL Qn a0) 1048576))) Y) (VEv.int .i64 0)) ?_)))))))))))
 refine nt ?_
 refine cd (YC (Qn a1) (YC (zL Qn a0) 1048576)<0) Y (fun fhc1=> ?_) fun fhc1=> ?_
 ·refine sr ?_
  refine fO (OF.assign (VEv.bool true)) (nt (rt (tr ?_)))
  exact vb Y Y
 first | (have hz1:=Yw fhc1) | skip
 refine sk (tn (sq (VRun.draw (B:= [[],[0],[],[0,1,2],[2,3,0,1],[1,0,3,2,4]]) (by kernel_rfl) (by kernel_rfl) (mD (rd 4 Qa a0) Y Y (VRunD.quiet (bi:= [0]) Y VWant.always Y Y Y bn (OC.callF (r':=(T.os 4 1 0 ((a0.map (Qa true)).length))) (objs:= [(Obj.rows 4 (a0.map (Qa true)))]) Y (vc (tv (rd 4 Qa a0) Y) vn) (Yd Y) (Zu (n+2) a0 (by first | exact g0.2 | exact Qv _ _ _ _ | (simp only [Ql];omega) | assumption | omega | (simp only [List.length_map];omega) | (simp only [List.length_map,List.length_append,List.length_cons,List.length_nil,List.length_replicate,List.length_set,List.length_drop,List.length_take,QT] at *;omega))) Y) (lD (OL.loadOn (us:=(Qa false a1)) (tv (T.op 0 0) Y) Y Qco Qbs (lb Y) Y) Y Y (VRunD.quiet (bi:= [0,1,2]) Y VWant.always Y Y Y bn (cS (vc (tv (T.agg (Qa false a1)) Y) vn) (LendL.cons (lg okeNote) ln) (ZF (n+3) a1) Y Y) (VRunD.quiet (bi:= [2,3,0,1]) Y VWant.always Y Y Y bn (OC.callF (us:= [(rd 4 Qa a0),(T.agg (Qa true a1))]) (r':=(T.os 4 2 0 (((Qi a0 a1).map (Qa true)).length))) (objs:= [(Obj.rows 4 ((Qi a0 a1).map (Qa true)))]) Y (vc (tv (T.os 4 1 0 ((a0.map (Qa true)).length)) Y) (vc (tv (T.agg (Qa true a1)) Y) vn)) (LendL.cons (Lend.os Y Y (okeNote.fzMap _ _)) (LendL.cons (Lend.agg (LendL.cons (Lend.pl Y) (LendL.cons (Lend.pl Y) (LendL.cons (Lend.pl Y) (LendL.cons (Lend.pl Y) ln))))) ln)) (JM (n+0) a0 a1 (by first | exact g0.2 | exact Qv _ _ _ _ | (simp only [Ql];omega) | assumption | omega | (simp only [List.length_map];omega) | (simp only [List.length_map,List.length_append,List.length_cons,List.length_nil,List.length_replicate,List.length_set,List.length_drop,List.length_take,QT] at *;omega))) Y) (fD (OF.assign (tv (T.os 4 2 0 (((Qi a0 a1).map (Qa true)).length)) Y)) Y Y (VRunD.nil (tn ?_)))))))))))
 refine sr (mO (rd 4 Qa a0) Y (cO (OC.callF (r':=(T.os 4 3 0 ((a0.map (Qa true)).length))) (objs:= [(Obj.rows 4 (a0.map (Qa true)))]) Y (vc (tv (rd 4 Qa a0) Y) vn) (Yd Y) (Zu (n+2) a0 (by first | exact g0.2 | exact Qv _ _ _ _ | (simp only [Ql];omega) | assumption | omega | (simp only [List.length_map];omega) | (simp only [List.length_map,List.length_append,List.length_cons,List.length_nil,List.length_replicate,List.length_set,List.length_drop,List.length_take,QT] at *;omega))) Y) (aO (T.os 4 3 0 ((a0.map (Qa true)).length)) Y (nt (sr (mO (T.os 4 3 0 ((a0.map (Qa true)).length)) Y (lO (OL.loadOn (us:=(Qa false a1)) (tv (T.op 0 0) Y) Y Qco Qbs (lb Y) Y) (cO (cS (vc (tv (T.agg (Qa false a1)) Y) vn) (LendL.cons (lg okeNote) ln) (ZF (n+3) a1) Y Y) (cO (OC.callF (us:= [(rd 4 Qa a0),(T.agg (Qa true a1))]) (r':=(T.os 4 4 0 (((Qi a0 a1).map (Qa true)).length))) (objs:= [(Obj.rows 4 ((Qi a0 a1).map (Qa true)))]) Y (vc (tv (T.os 4 3 0 ((a0.map (Qa true)).length)) Y) (vc (tv (T.agg (Qa true a1)) Y) vn)) (LendL.cons (Lend.os Y Y (okeNote.fzMap _ _)) (LendL.cons (Lend.agg (LendL.cons (Lend.pl Y) (LendL.cons (Lend.pl Y) (LendL.cons (Lend.pl Y) (LendL.cons (Lend.pl Y) ln))))) ln)) (YB (n+0) a0 a1 (by first | exact g0.2 | exact Qv _ _ _ _ | (simp only [Ql];omega) | assumption | omega | (simp only [List.length_map];omega) | (simp only [List.length_map,List.length_append,List.length_cons,List.length_nil,List.length_replicate,List.length_set,List.length_drop,List.length_take,QT] at *;omega))) Y) (aO (T.os 4 4 0 (((Qi a0 a1).map (Qa true)).length)) Y (nt ?_)))))))))))
 refine sq (sr (mO (T.os 4 4 0 (((Qi a0 a1).map (Qa true)).length)) Y (mO (T.os 4 2 0 (((Qi a0 a1).map (Qa true)).length)) Y (cO (cS (us:= [(rd 4 Qa (Qi a0 a1)),(rd 4 Qa (Qi a0 a1))]) (vc (tv (T.os 4 4 0 (((Qi a0 a1).map (Qa true)).length)) Y) (vc (tv (T.os 4 2 0 (((Qi a0 a1).map (Qa true)).length)) Y) vn)) (LendL.cons (Lend.os Y Y (okeNote.fzMap _ _)) (LendL.cons (Lend.os Y Y (okeNote.fzMap _ _)) ln)) (Zs (n+2) (Qi a0 a1) (Qi a0 a1) (by first | exact g0.2 | exact Qv _ _ _ _ | (simp only [Ql];omega) | assumption | omega | (simp only [List.length_map];omega) | (simp only [List.length_map,List.length_append,List.length_cons,List.length_nil,List.length_replicate,List.length_set,List.length_drop,List.length_take,QT] at *;omega)) (by first | exact g0.2 | exact Qv _ _ _ _ | (simp only [Ql];omega) | assumption | omega | (simp only [List.length_map];omega) | (simp only [List.length_map,List.length_append,List.length_cons,List.length_nil,List.length_replicate,List.length_set,List.length_drop,List.length_take,QT] at *;omega))) Y Y) (fO (QV (tv (tB (decide ((Qi a0 a1)=(Qi a0 a1)))) Y)) (nt ?_))))))
 refine cn ((Qi a0 a1)=(Qi a0 a1)) Y (fun fhc2=> ?_) fun fhc2=> ?_
 ·refine sr ?_
  refine fO (OF.assign (VEv.bool false)) (nt (rt (tr (vb (b':=false) Y ?_))))
  first | rfl | (exfalso;omega) | (exfalso;(simp only [Ql] at* <;>omega)) | (exfalso;simp only [Ql,not_true_eq_false] at *;done) | (exfalso;simp_all;done)
 first | (have hz2:=Yw fhc2) | skip
 refine sk (tn (sq (sr (mO (T.os 4 3 0 ((a0.map (Qa true)).length)) Y (mO (rd 4 Qa a0) Y (cO (OC.callF (r':=(T.os 4 5 0 ((a0.map (Qa true)).length))) (objs:= [(Obj.rows 4 (a0.map (Qa true)))]) Y (vc (tv (rd 4 Qa a0) Y) vn) (Yd Y) (Zu (n+2) a0 (by first | exact g0.2 | exact Qv _ _ _ _ | (simp only [Ql];omega) | assumption | omega | (simp only [List.length_map];omega) | (simp only [List.length_map,List.length_append,List.length_cons,List.length_nil,List.length_replicate,List.length_set,List.length_drop,List.length_take,QT] at *;omega))) Y) (cO (cS (us:= [(rd 4 Qa a0),(rd 4 Qa a0)]) (vc (tv (T.os 4 3 0 ((a0.map (Qa true)).length)) Y) (vc (tv (T.os 4 5 0 ((a0.map (Qa true)).length)) Y) vn)) (LendL.cons (Lend.os Y Y (okeNote.fzMap _ _)) (LendL.cons (Lend.os Y Y (okeNote.fzMap _ _)) ln)) (Zs (n+2) a0 a0 (by first | exact g0.2 | exact Qv _ _ _ _ | (simp only [Ql];omega) | assumption | omega | (simp only [List.length_map];omega) | (simp only [List.length_map,List.length_append,List.length_cons,List.length_nil,List.length_replicate,List.length_set,List.length_drop,List.length_take,QT] at *;omega)) (by first | exact g0.2 | exact Qv _ _ _ _ | (simp only [Ql];omega) | assumption | omega | (simp only [List.length_map];omega) | (simp only [List.length_map,List.length_append,List.length_cons,List.length_nil,List.length_replicate,List.length_set,List.length_drop,List.length_take,QT] at *;omega))) Y Y) (fO (QV (tv (tB (decide (a0=a0))) Y)) (nt ?_)))))))))
 refine cn (a0=a0) Y (fun fhc3=> ?_) fun fhc3=> ?_
 ·refine sr ?_
  refine fO (OF.assign (VEv.bool false)) (nt (rt (tr (vb (b':=false) Y ?_))))
  first | rfl | (exfalso;omega) | (exfalso;(simp only [Ql] at* <;>omega)) | (exfalso;simp only [Ql,not_true_eq_false] at *;done) | (exfalso;simp_all;done)
 first | (have hz3:=Yw fhc3) | skip
 refine sk (tn (sr (fO (OF.assign (VEv.int .i64 1)) (nt (sr (mO (T.os 4 3 0 ((a0.map (Qa true)).length)) Y (mO (tN 1) Y (cO (OC.callMut (rows:=(a0.map (Qa true))) (rows':=((YY QB 4 1 a0.length).map (Qa true))) Y (vc (tv (T.os 4 3 0 ((a0.map (Qa true)).length)) Y) (vc (tv (tN 1) Y) vn)) Y Y (bc Y bn) (Y2 (fun _=>rfl) _) (Y2 (fun _=>rfl) _) (Yn (n+2) a0 1 (by first | exact g0.2 | exact Qv _ _ _ _ | (simp only [Ql];omega) | assumption | omega))) (aO (tN (1+4*a0.length)) Y (nt (sq ?_)))))))))))
 refine sr (mO (tN (1+4*a0.length)) Y (fO (B.lss (c:=(decide (1+4*a0.length<0))) (tv (tN (1+4*a0.length)) Y) (VEv.int .i64 0) (by first | exact g0.2 | exact Qv _ _ _ _ | (simp only [Ql];omega) | (exact Zw (by omega)))) (mO (tB (decide (1+4*a0.length<0))) Y ?_)))
 refine gw (1+4*a0.length<0) (fun fhg48_1=> ?_) fun fhg48_1=> ?_
 ·refine Jw 4 2 false 48 (dy fhg48_1) Y Y Y ?_
  refine fO (OF.pickT (VEv.tmpB Y (dy fhg48_1)) (VEv.bool true)) (nt (ct Y (sr (fO (OF.assign (VEv.bool false)) (nt (rt (tr (vb (b':=false) Y ?_))))))))
  first | rfl | (exfalso;omega) | (exfalso;(simp only [Ql] at* <;>omega)) | (exfalso;simp only [Ql,not_true_eq_false] at *;done) | (exfalso;simp_all;done)
 refine gF (dz fhg48_1) Y Y (OF.move (tv (T.os 4 4 0 (((Qi a0 a1).map (Qa true)).length)) Y)) (gF (dz fhg48_1) Y Y (OF.move (tv (T.os 4 2 0 (((Qi a0 a1).map (Qa true)).length)) Y)) (VRunO.chain (VWant.on Y Y (dz fhg48_1)) (cS (us:= [(rd 4 Qa (Qi a0 a1)),(rd 4 Qa (Qi a0 a1))]) (vc (tv (T.os 4 4 0 (((Qi a0 a1).map (Qa true)).length)) Y) (vc (tv (T.os 4 2 0 (((Qi a0 a1).map (Qa true)).length)) Y) vn)) (LendL.cons (Lend.os Y Y (okeNote.fzMap _ _)) (LendL.cons (Lend.os Y Y (okeNote.fzMap _ _)) ln)) (Zs (n+2) (Qi a0 a1) (Qi a0 a1) (by first | exact g0.2 | exact Qv _ _ _ _ | (simp only [Ql];omega) | assumption | omega | (simp only [List.length_map];omega) | (simp only [List.length_map,List.length_append,List.length_cons,List.length_nil,List.length_replicate,List.length_set,List.length_drop,List.length_take,QT] at *;omega)) (by first | exact g0.2 | exact Qv _ _ _ _ | (simp only [Ql];omega) | assumption | omega | (simp only [List.length_map];omega) | (simp only [List.length_map,List.length_append,List.length_cons,List.length_nil,List.length_replicate,List.length_set,List.length_drop,List.length_take,QT] at *;omega))) Y Y) (gF (dz fhg48_1) Y Y (QV (tv (tB (decide ((Qi a0 a1)=(Qi a0 a1)))) Y)) (fO (OF.pickF (VEv.tmpB Y (dz fhg48_1)) (tv (tB (!(decide ((Qi a0 a1)=(Qi a0 a1))))) Y)) (nt (cg (nz fhc2) Y (sk (tn (sr (fO (OF.assign (VEv.int .i64 1)) (nt ?_)))))))))))
 refine sr (mO (T.os 4 4 0 (((Qi a0 a1).map (Qa true)).length)) Y (mO (tN 1) Y (cO (OC.callMut (rows:=((Qi a0 a1).map (Qa true))) (rows':=((YY QB 4 1 (Qi a0 a1).length).map (Qa true))) Y (vc (tv (T.os 4 4 0 (((Qi a0 a1).map (Qa true)).length)) Y) (vc (tv (tN 1) Y) vn)) Y Y (bc Y bn) (Y2 (fun _=>rfl) _) (Y2 (fun _=>rfl) _) (Yn (n+2) (Qi a0 a1) 1 (by first | exact g0.2 | exact Qv _ _ _ _ | (simp only [Ql];omega) | assumption | omega))) (aO (tN (1+4*(Qi a0 a1).length)) Y (nt (sr (fO (OF.assign (VEv.int .i64 1)) (nt (sr (mO (T.os 4 4 0 (((Qi a0 a1).map (Qa true)).length)) Y (mO (tN 1) Y ?_)))))))))))
 refine cO (cS (us:= [(rd 4 Qa (YY QB 4 1 (Qi a0 a1).length)),(tN 1)]) (vc (tv (T.os 4 4 0 (((Qi a0 a1).map (Qa true)).length)) Y) (vc (tv (tN 1) Y) vn)) (LendL.cons (Lend.os Y (by simp only [List.length_map,Ql,List.length_set]) (okeNote.fzMap _ _)) (lp Y ln)) (Yo (n+2) (YY QB 4 1 (Qi a0 a1).length) 1 (by first | exact g0.2 | exact Qv _ _ _ _ | (simp only [Ql];omega) | assumption | omega | (simp only [List.length_map];omega) | (simp only [List.length_map,List.length_append,List.length_cons,List.length_nil,List.length_replicate,List.length_set,List.length_drop,List.length_take,QT] at *;omega)) (by first | exact g0.2 | exact Qv _ _ _ _ | (simp only [Ql];omega) | assumption | omega | (simp only [List.length_map];omega) | (simp only [List.length_map,List.length_append,List.length_cons,List.length_nil,List.length_replicate,List.length_set,List.length_drop,List.length_take,QT] at *;omega))) Y Y) (aO (tN (1+4*(YY QB 4 1 (Qi a0 a1).length).length)) Y (nt (sq (sr (mO (tN (1+4*(YY QB 4 1 (Qi a0 a1).length).length)) Y (fO (B.lss (c:=(decide (1+4*(YY QB 4 1 (Qi a0 a1).length).length<0))) (tv (tN (1+4*(YY QB 4 1 (Qi a0 a1).length).length)) Y) (VEv.int .i64 0) (by first | exact g0.2 | exact Qv _ _ _ _ | (simp only [Ql];omega) | (exact Zw (by omega)))) (nt ?_)))))))
 refine cd (1+4*(YY QB 4 1 (Qi a0 a1).length).length<0) Y (fun fhc5=> ?_) fun fhc5=> ?_
 ·refine sr ?_
  refine fO (OF.assign (VEv.bool false)) (nt (rt (tr (vb (b':=false) Y ?_))))
  first | rfl | (exfalso;omega) | (exfalso;(simp only [Ql] at* <;>omega)) | (exfalso;simp only [Ql,not_true_eq_false] at *;done) | (exfalso;simp_all;done)
 first | (have hz5:=Yw fhc5) | skip
 refine sk (tn (sq (sr (mO (tN (1+4*(YY QB 4 1 (Qi a0 a1).length).length)) Y (mO (tN (1+4*(Qi a0 a1).length)) Y (fO (Qd1 (tv (tN (1+4*(YY QB 4 1 (Qi a0 a1).length).length)) Y) (tv (tN (1+4*(Qi a0 a1).length)) Y)) (nt ?_)))))))
 refine cn (1+4*(YY QB 4 1 (Qi a0 a1).length).length=1+4*(Qi a0 a1).length) Y (fun fhc6=> ?_) fun fhc6=> ?_
 ·refine sr ?_
  refine fO (OF.assign (VEv.bool false)) (nt (rt (tr (vb (b':=false) Y ?_))))
  first | rfl | (exfalso;omega) | (exfalso;(simp only [Ql] at* <;>omega)) | (exfalso;simp only [Ql,not_true_eq_false] at *;done) | (exfalso;simp_all;done)
 first | (have hz6:=Yw fhc6) | skip
 refine sk (tn (sq (VRun.draw (B:= [[],[0],[],[0,1,2],[2,3,0,1],[1,0,3,2,4]]) (by kernel_rfl) (by kernel_rfl) (mD (rd 4 Qa a0) Y Y (VRunD.quiet (bi:= [0]) Y VWant.always Y Y Y bn (OC.callF (r':=(T.os 4 6 0 ((a0.map (Qa true)).length))) (objs:= [(Obj.rows 4 (a0.map (Qa true)))]) Y (vc (tv (rd 4 Qa a0) Y) vn) (Yd Y) (Zu (n+2) a0 (by first | exact g0.2 | exact Qv _ _ _ _ | (simp only [Ql];omega) | assumption | omega | (simp only [List.length_map];omega) | (simp only [List.length_map,List.length_append,List.length_cons,List.length_nil,List.length_replicate,List.length_set,List.length_drop,List.length_take,QT] at *;omega))) Y) (lD (OL.loadOn (us:=(Qa false a1)) (tv (T.op 0 0) Y) Y Qco Qbs (lb Y) Y) Y Y (VRunD.quiet (bi:= [0,1,2]) Y VWant.always Y Y Y bn (cS (vc (tv (T.agg (Qa false a1)) Y) vn) (LendL.cons (lg okeNote) ln) (ZF (n+3) a1) Y Y) (VRunD.quiet (bi:= [2,3,0,1]) Y VWant.always Y Y Y bn (OC.callF (us:= [(rd 4 Qa a0),(T.agg (Qa true a1))]) (r':=(T.os 4 7 0 (((Qi a0 a1).map (Qa true)).length))) (objs:= [(Obj.rows 4 ((Qi a0 a1).map (Qa true)))]) Y (vc (tv (T.os 4 6 0 ((a0.map (Qa true)).length)) Y) (vc (tv (T.agg (Qa true a1)) Y) vn)) (LendL.cons (Lend.os Y Y (okeNote.fzMap _ _)) (LendL.cons (Lend.agg (LendL.cons (Lend.pl Y) (LendL.cons (Lend.pl Y) (LendL.cons (Lend.pl Y) (LendL.cons (Lend.pl Y) ln))))) ln)) (YB (n+0) a0 a1 (by first | exact g0.2 | exact Qv _ _ _ _ | (simp only [Ql];omega) | assumption | omega | (simp only [List.length_map];omega) | (simp only [List.length_map,List.length_append,List.length_cons,List.length_nil,List.length_replicate,List.length_set,List.length_drop,List.length_take,QT] at *;omega))) Y) (fD (OF.assign (tv (T.os 4 7 0 (((Qi a0 a1).map (Qa true)).length)) Y)) Y Y (VRunD.nil (tn ?_)))))))))))
 refine sq (sr (mO (T.os 4 7 0 (((Qi a0 a1).map (Qa true)).length)) Y (mO (T.os 4 2 0 (((Qi a0 a1).map (Qa true)).length)) Y (cO (cS (us:= [(rd 4 Qa (Qi a0 a1)),(rd 4 Qa (Qi a0 a1))]) (vc (tv (T.os 4 7 0 (((Qi a0 a1).map (Qa true)).length)) Y) (vc (tv (T.os 4 2 0 (((Qi a0 a1).map (Qa true)).length)) Y) vn)) (LendL.cons (Lend.os Y Y (okeNote.fzMap _ _)) (LendL.cons (Lend.os Y Y (okeNote.fzMap _ _)) ln)) (Zs (n+2) (Qi a0 a1) (Qi a0 a1) (by first | exact g0.2 | exact Qv _ _ _ _ | (simp only [Ql];omega) | assumption | omega | (simp only [List.length_map];omega) | (simp only [List.length_map,List.length_append,List.length_cons,List.length_nil,List.length_replicate,List.length_set,List.length_drop,List.length_take,QT] at *;omega)) (by first | exact g0.2 | exact Qv _ _ _ _ | (simp only [Ql];omega) | assumption | omega | (simp only [List.length_map];omega) | (simp only [List.length_map,List.length_append,List.length_cons,List.length_nil,List.length_replicate,List.length_set,List.length_drop,List.length_take,QT] at *;omega))) Y Y) (fO (QV (tv (tB (decide ((Qi a0 a1)=(Qi a0 a1)))) Y)) (nt (cg (nz fhc2) Y (sk (tn (sr (fO (OF.assign (VEv.int .i64 1)) ?_)))))))))))
 refine nt (sr (mO (T.os 4 4 0 (((Qi a0 a1).map (Qa true)).length)) Y (mO (tN 1) Y (cO (cS (us:= [(rd 4 Qa (YY QB 4 1 (Qi a0 a1).length)),(tN 1)]) (vc (tv (T.os 4 4 0 (((Qi a0 a1).map (Qa true)).length)) Y) (vc (tv (tN 1) Y) vn)) (LendL.cons (Lend.os Y (by simp only [List.length_map,Ql,List.length_set]) (okeNote.fzMap _ _)) (lp Y ln)) (Yo (n+2) (YY QB 4 1 (Qi a0 a1).length) 1 (by first | exact g0.2 | exact Qv _ _ _ _ | (simp only [Ql];omega) | assumption | omega | (simp only [List.length_map];omega) | (simp only [List.length_map,List.length_append,List.length_cons,List.length_nil,List.length_replicate,List.length_set,List.length_drop,List.length_take,QT] at *;omega)) (by first | exact g0.2 | exact Qv _ _ _ _ | (simp only [Ql];omega) | assumption | omega | (simp only [List.length_map];omega) | (simp only [List.length_map,List.length_append,List.length_cons,List.length_nil,List.length_replicate,List.length_set,List.length_drop,List.length_take,QT] at *;omega))) Y Y) (aO (tN (1+4*(YY QB 4 1 (Qi a0 a1).length).length)) Y (nt (sq (sr (mO (tN (1+4*(YY QB 4 1 (Qi a0 a1).length).length)) Y (fO (B.lss (c:=(decide (1+4*(YY QB 4 1 (Qi a0 a1).length).length<0))) (tv (tN (1+4*(YY QB 4 1 (Qi a0 a1).length).length)) Y) (VEv.int .i64 0) (by first | exact g0.2 | exact Qv _ _ _ _ | (simp only [Ql];omega) | (exact Zw (by omega)))) (nt ?_)))))))))))
 refine cg (dz fhc5) Y (sk (tn (sq (sr (mO (tN (1+4*(YY QB 4 1 (Qi a0 a1).length).length)) Y (mO (tN (1+4*(Qi a0 a1).length)) Y (fO (Qd1 (tv (tN (1+4*(YY QB 4 1 (Qi a0 a1).length).length)) Y) (tv (tN (1+4*(Qi a0 a1).length)) Y)) (nt (cg (nz fhc6) Y (sk (tn ?_)))))))))))
 refine sr (fO (OF.assign (VEv.bool true)) (nt (rt ?_)))
 exact vb Y Y
theorem QbS (a:Option Addr) (n c:Nat):(J9 (.slice a n c)).cells.toList= [J9 (.slice a n c)]:=by cases a<;>rfl
theorem QdW {α:Type} {d:AK α} {e:Bool→α→List T} {x:α} {t:T} {h:AH} {v:Value} (hk:RK d e) (he:e false x= [t]) (hr:d.R h x [v]):R h t v:=by
 have h1:=hk h x _ hr
 rw [he] at h1
 exact h1.tail.1
theorem Qdp {α:Type} {d:AK α} {e:Bool→α→List T} {x:α} {t:T} {h:AH} {a:Option Addr} {n c:Nat} (hk:RK d e) (he:e false x= [t]) (hr:d.R h x (J9 (.slice a n c)).cells.toList):R h t (J9 (.slice a n c)):=by
 rw [QbS] at hr
 exact QdW hk he hr
theorem Qed {α:Type} {d:AK α} {e:Bool→α→List T} {x:α} {h:AH} {cs:Array Value} (hk:RK d e) (hr:d.R h x (J9 (.agg cs)).cells.toList):R h (.agg (e false x)) (J9 (.agg cs)):=by
 have h1:=hk h x _ hr
 refine .agg _ _ (by simpa [Value.cells,J9] using h1.1) (fun i hi=> ?_)
 have:=h1.2 i hi
 simpa [Value.cells,J9,Array.getD_eq_getD_getElem?,List.getD_eq_getElem?_getD] using this
theorem Pure.bool {call:QC} {f:FuncId} {ts:List T} {b:Bool} (hp:Pure call f ts (.bool b)) {h:AH} {vs:List Value} (hfr:Fr 1 h) (hr:RL h ts vs):CallS call f vs h 1 (fun v _=>v= .bool b):=by
 refine (hp h 1 vs hfr hr).mono ?_
 rintro v h' ⟨_,N,hs,_⟩
 cases hs with
 | fz hr=>cases hr;rfl
open Go Go.RowKit Go.Shelf Go.Lib Go.Proofs
set_option maxHeartbeats 4000000
set_option maxRecDepth 100000
theorem QX {P:Program} (w:World) (dT sT ty elem:TypeId) {size:Nat} (b o dLen dCap:Nat) (a:Addr) (sLen sCap:Nat) (cs:List Value)
  (hu:P.underlying dT=some (.slice elem)) (hs:∀w,(Go.sizeOf elem).run P w= .ok size w) (hn:cs.length=Nat.min sLen dLen*size)
  (hsrc:∀j v,cs[j]? =some v→w.cell? (a.add j)=some v) (hc:∀j,j<cs.length→(w.cell? ⟨b,o+j,none⟩).isSome=true) (hf:∀j,j<cs.length→w.frozen? ⟨b,o+j,none⟩=false) (h1:∀v∈cs,v.oneCell'=true) :
  (Builtin.copy_ #[dT,sT] ty #[.slice (some ⟨b,o,none⟩) dLen dCap, .slice (some a) sLen sCap]).run P w= .ok (goInt (Nat.min sLen dLen)) (w.setCells b o cs):=by
 have hl:=run_loadCells_list (P:=P) w a cs hsrc
 have hst:=run_storeCells_cells (P:=P) b o cs 0 w (by simpa using hc) (by simpa using hf) h1
 simp [Builtin.copy_,run_underlying hu,Builtin.lenOf,Builtin.firstCells,hs,← hn,hl,hst]
theorem Qcv (base:Option Addr) (n c vb voff vc:Nat) (w:World) {v':Value} {W':World} (hn:base=none→n=0∧c=0) (hnc:n≤c)
  (hrun:(Builtin.append_ #[27,27] 27 #[.slice base n c, .slice (some ⟨vb,voff,none⟩) 1 vc]).run Try.prog w= .ok v' W') :
  Calls Try.prog 32 #[.slice base n c, .int .i64 n, .slice (some ⟨vb,voff,none⟩) 1 vc] w fun e w'=>e= .returned v'∧w'=W':=by
 have t0:=Try.underlying0;have u0:=run_underlying Try.underlying0
 have t3:=Try.underlying3;have u3:=run_underlying Try.underlying3
 have t4:=Try.underlying4;have u4:=run_underlying Try.underlying4
 have t27:=Try.underlying27;have u27:=run_underlying Try.underlying27
 have t30:=Try.underlying30;have u30:=run_underlying Try.underlying30
 have z0:∀w,(Go.sizeOf 0).run Try.prog w= .ok 1 w:=fun _=>by kernel_rfl
 have z3:∀w,(Go.sizeOf 3).run Try.prog w= .ok 1 w:=fun _=>by kernel_rfl
 have z4:∀w,(Go.sizeOf 4).run Try.prog w= .ok 1 w:=fun _=>by kernel_rfl
 have z27:∀w,(Go.sizeOf 27).run Try.prog w= .ok 1 w:=fun _=>by kernel_rfl
 have z30:∀w,(Go.sizeOf 30).run Try.prog w= .ok 4 w:=fun _=>by kernel_rfl
 have a0:∀w,(isAgg 0).run Try.prog w= .ok false w:=fun _=>by kernel_rfl
 have a3:∀w,(isAgg 3).run Try.prog w= .ok false w:=fun _=>by kernel_rfl
 have a4:∀w,(isAgg 4).run Try.prog w= .ok false w:=fun _=>by kernel_rfl
 have a27:∀w,(isAgg 27).run Try.prog w= .ok false w:=fun _=>by kernel_rfl
 have v27:∀w,(zeroValue 27).run Try.prog w= .ok (Value.slice none 0 0) w:=fun _=>by kernel_rfl
 have v3:∀w,(zeroValue 3).run Try.prog w= .ok (Value.int IntKind.i64 0) w:=fun _=>by kernel_rfl
 have mixed:Try.prog.follows .mixedOrders=true:=by kernel_rfl
 have hz1:¬((1:Int)=0):=by omega
 go_enter Try.func32,Try.ntmps32
 cases base with
 | none =>
  obtain ⟨h0,h1⟩:=hn Y
  subst h0
  subst h1
  go_wp2_with (at_builtin;refine Lib.wpList_append_run _ Y _ _ _ _ Y _ _ Y Y _ _ hrun ?_)
  go_ret
  exact ⟨rfl,rfl⟩
 | some a =>
  obtain ⟨ab,ao,asp⟩:=a
  go_wp2_with (at_builtin;refine Lib.wpList_append_run _ Y _ _ _ _ Y _ _ Y Y _ _ hrun ?_)
  all_goals (go_ret;exact ⟨rfl,rfl⟩)
theorem Qbf (b off n c i vb voff vc:Nat) (cs vs:List Value) (w:World) (hi:i<n) (hroom:n+1≤c) (hn63:n<9223372036854775807) (hvb:vb≠b)
    (hcl:cs.length=n*4) (hvl:vs.length=4)
    (hcs:∀j v,cs[j]? =some v→w.cell? ⟨b,off+j,none⟩=some v) (hsp:∀j,j<(n+1)*4→(w.cell? ⟨b,off+j,none⟩).isSome=true) (hfz:∀j,j<(n+1)*4→w.frozen? ⟨b,off+j,none⟩=false)
    (hvs:∀j v,vs[j]? =some v→w.cell? ⟨vb,voff+j,none⟩=some v) (h1c:∀v∈cs,v.oneCell'=true) (h1v:∀v∈vs,v.oneCell'=true)
    (tA tB:TypeId) (kA kB:Nat) (hsa:w.shape? vb=some (tA,kA)) (hsb:w.shape? b=some (tB,kB)) (hkB:kB≠0) (hfa:w.frozen? ⟨vb,voff,none⟩=false) (hfe:w.frozen? ⟨vb,kA,none⟩=false) :
    Calls Try.prog 32 #[.slice (some ⟨b,off,none⟩) n c, .int .i64 i, .slice (some ⟨vb,voff,none⟩) 1 vc] w fun e w' =>
      e= .returned (.slice (some ⟨b,off,none⟩) (n+1) c)∧w'=(w.drew.setCells b (off+(i+1)*4) (cs.drop (i*4))).setCells b (off+i*4) vs:=by
  have t0:=Try.underlying0;have u0:=run_underlying Try.underlying0
  have t3:=Try.underlying3;have u3:=run_underlying Try.underlying3
  have t4:=Try.underlying4;have u4:=run_underlying Try.underlying4
  have t27:=Try.underlying27;have u27:=run_underlying Try.underlying27
  have t30:=Try.underlying30;have u30:=run_underlying Try.underlying30
  have z0:∀w,(Go.sizeOf 0).run Try.prog w= .ok 1 w:=fun _=>by kernel_rfl
  have z3:∀w,(Go.sizeOf 3).run Try.prog w= .ok 1 w:=fun _=>by kernel_rfl
  have z4:∀w,(Go.sizeOf 4).run Try.prog w= .ok 1 w:=fun _=>by kernel_rfl
  have z27:∀w,(Go.sizeOf 27).run Try.prog w= .ok 1 w:=fun _=>by kernel_rfl
  have z30:∀w,(Go.sizeOf 30).run Try.prog w= .ok 4 w:=fun _=>by kernel_rfl
  have a0:∀w,(isAgg 0).run Try.prog w= .ok false w:=fun _=>by kernel_rfl
  have a3:∀w,(isAgg 3).run Try.prog w= .ok false w:=fun _=>by kernel_rfl
  have a4:∀w,(isAgg 4).run Try.prog w= .ok false w:=fun _=>by kernel_rfl
  have a27:∀w,(isAgg 27).run Try.prog w= .ok false w:=fun _=>by kernel_rfl
  have v27:∀w,(zeroValue 27).run Try.prog w= .ok (Value.slice none 0 0) w:=fun _=>by kernel_rfl
  have v3:∀w,(zeroValue 3).run Try.prog w= .ok (Value.int IntKind.i64 0) w:=fun _=>by kernel_rfl
  have mixed:Try.prog.follows .mixedOrders=true:=by kernel_rfl
  have hz1:¬((1:Int)=0):=by omega
  have hz2:¬((i:Int)=(n:Int)):=by omega
  have hov:∀lb cb,(callFunc 49 #[.slice (some ⟨vb,voff,none⟩) 1 vc, .slice (some ⟨b,off+(i+1)*4,none⟩) lb cb]).run Try.prog w= .ok (.value (.bool false)) w:=fun lb cb=>by
    rw [run_callFunc_extern Try.func49 (by kernel_rfl) (by kernel_rfl) (by kernel_rfl) (e:=Extern.SlicesOverlaps.overlaps #[27,27] #[4]) (by kernel_rfl),
      Lib.run_overlaps_apart w 27 4 30 Try.underlying27 4 z30 ⟨vb,voff,none⟩ ⟨b,off+(i+1)*4,none⟩ 1 vc lb cb hvb tA tB kA kB hsa hsb hkB hfa hfe]
    rfl
  have hdl:(cs.drop (i*4)).length=(n - i)*4:=by rw [List.length_drop,hcl];omega
  have hw1:IntKind.i64.wrap ((i:Int)+1)=(i:Int)+1:=by rw [IntKind.wrap_i64];omega
  have hw2:IntKind.i64.wrap ((n:Int)+1)=(n:Int)+1:=by rw [IntKind.wrap_i64];omega
  have hb1:(0:Int)≤(i:Int)+1:=by omega
  have hin:i≤n:=by omega
  have htn:((i:Int)+1).toNat=i+1:=by omega
  have hb2:¬(c=i+1):=by omega
  have hb3:(i:Int)≤(n:Int)+1:=by omega
  have hb4:¬(c=i):=by omega
  have hcp1:∀ty dc sc,(Builtin.copy_ #[27,27] ty #[.slice (some ⟨b,off+(i+1)*4,none⟩) (n - i) dc, .slice (some ⟨b,off+i*4,none⟩) (n+1 - i) sc]).run Try.prog w.drew= .ok (goInt (Nat.min (n+1 - i) (n - i))) (w.drew.setCells b (off+(i+1)*4) (cs.drop (i*4))):=fun ty dc sc =>
    QX w.drew _ _ ty 30 b (off+(i+1)*4) (n - i) dc ⟨b,off+i*4,none⟩ (n+1 - i) sc (cs.drop (i*4)) Try.underlying27 z30 (by rw [hdl];simp only [Nat.min_def];split<;>omega)
      (fun j v hj=>by rw [Addr.add_lit,Nat.add_assoc];exact hcs (i*4+j) v (by rwa [List.getElem?_drop] at hj))
      (fun j hj=>by rw [Nat.add_assoc];exact hsp _ (by omega)) (fun j hj=>by rw [Nat.add_assoc];exact hfz _ (by omega)) (fun v hv=>h1c v (List.mem_of_mem_drop hv))
  obtain ⟨W1,hW1⟩:∃W1,W1=w.drew.setCells b (off+(i+1)*4) (cs.drop (i*4)):=⟨_,rfl⟩
  have hsp1:∀k,k<(n+1)*4→(W1.cell? ⟨b,off+k,none⟩).isSome=true:=fun k hk=>by
    rw [hW1]
    exact isSome_setCells b _ _ _ (fun j hj=>by rw [Nat.add_assoc];exact hsp _ (by omega)) _ (hsp k hk)
  have hcp2:∀(W:World),(∀x,W.cell? x=W1.cell? x)→(∀x,W.frozen? x=W1.frozen? x)→∀ty dc,(Builtin.copy_ #[27,27] ty #[.slice (some ⟨b,off+i*4,none⟩) (n+1 - i) dc, .slice (some ⟨vb,voff,none⟩) 1 vc]).run Try.prog W= .ok (goInt (Nat.min 1 (n+1 - i))) (W.setCells b (off+i*4) vs):=fun W hWc hWf ty dc =>
    QX W _ _ ty 30 b (off+i*4) (n+1 - i) dc ⟨vb,voff,none⟩ 1 vc vs Try.underlying27 z30 (by rw [hvl];simp only [Nat.min_def];split<;>omega)
      (fun j v hj=>by
        rw [Addr.add_lit,hWc,hW1,World.cell?_setCells_out b _ _ _ _ (fun h _=>absurd h hvb)]
        exact hvs j v hj)
      (fun j hj=>by rw [hWc,Nat.add_assoc];exact hsp1 _ (by omega)) (fun j hj=>by rw [hWf,hW1,World.frozen?_setCells,Nat.add_assoc];exact hfz _ (by omega)) h1v
  rw [← hW1] at hcp1
  go_enter Try.func32,Try.ntmps32
  go_wp2_with (simp only [hov])
  go_region_law_o (refine step_copy_runI Y _ _ 27 27 Y _ _ (by simp [Act.eval,Act.put]) (by simp [Act.eval,Act.put]) (hcp1 _ _ _) ?_)
  go_wp2_with (at_builtin;refine wpList_copy_runI _ Y _ _ 27 27 Y _ _ Y Y (hcp2 _ (fun _=>rfl) (fun _=>rfl) _ _) ?_)
  go_ret
  first | exact ⟨rfl,rfl⟩ | exact ⟨rfl,by rw [hW1]⟩
theorem QbN (b off n i vb voff vc:Nat) (cs vs:List Value) (w:World) (hi:i<n) (hn63:n<4611686018427387904) {i0:TypeInfo} {z:Value} (hi0:Try.prog.info? 30=some i0) (hz0:i0.zero=some z) (hzs:i0.size=4) (hzc:z.cells.size=4) (hbig:2*(n+1)*i0.bytes≤281474976710656)
    (hcl:cs.length=n*4) (hvl:vs.length=4)
    (hcs:∀j v,cs[j]? =some v→w.cell? ⟨b,off+j,none⟩=some v)
    (hvs:∀j v,vs[j]? =some v→w.cell? ⟨vb,voff+j,none⟩=some v) (h1c:∀v∈cs,v.oneCell'=true) (h1v:∀v∈vs,v.oneCell'=true) :
    Calls Try.prog 32 #[.slice (some ⟨b,off,none⟩) n n, .int .i64 i, .slice (some ⟨vb,voff,none⟩) 1 vc] w fun e w' =>
      e= .returned (.slice (some ⟨w.heap.size,0,none⟩) (n+1) (grownCap w (n+1) n 30)) ∧
      w'=(((w.alloc (.cells ((cs.take (i*4)).toArray++Builtin.zeroCells z.cells (n+1 - i)++Builtin.zeroCells z.cells (grownCap w (n+1) n 30 - (n+1))) 30)).drew.setCells w.heap.size (i*4) vs).drew).setCells w.heap.size ((i+1)*4) (cs.drop (i*4)):=by
  have t0:=Try.underlying0;have u0:=run_underlying Try.underlying0
  have t3:=Try.underlying3;have u3:=run_underlying Try.underlying3
  have t4:=Try.underlying4;have u4:=run_underlying Try.underlying4
  have t27:=Try.underlying27;have u27:=run_underlying Try.underlying27
  have t30:=Try.underlying30;have u30:=run_underlying Try.underlying30
  have z0:∀w,(Go.sizeOf 0).run Try.prog w= .ok 1 w:=fun _=>by kernel_rfl
  have z3:∀w,(Go.sizeOf 3).run Try.prog w= .ok 1 w:=fun _=>by kernel_rfl
  have z4:∀w,(Go.sizeOf 4).run Try.prog w= .ok 1 w:=fun _=>by kernel_rfl
  have z27:∀w,(Go.sizeOf 27).run Try.prog w= .ok 1 w:=fun _=>by kernel_rfl
  have z30:∀w,(Go.sizeOf 30).run Try.prog w= .ok 4 w:=fun _=>by kernel_rfl
  have a0:∀w,(isAgg 0).run Try.prog w= .ok false w:=fun _=>by kernel_rfl
  have a3:∀w,(isAgg 3).run Try.prog w= .ok false w:=fun _=>by kernel_rfl
  have a4:∀w,(isAgg 4).run Try.prog w= .ok false w:=fun _=>by kernel_rfl
  have a27:∀w,(isAgg 27).run Try.prog w= .ok false w:=fun _=>by kernel_rfl
  have v27:∀w,(zeroValue 27).run Try.prog w= .ok (Value.slice none 0 0) w:=fun _=>by kernel_rfl
  have v3:∀w,(zeroValue 3).run Try.prog w= .ok (Value.int IntKind.i64 0) w:=fun _=>by kernel_rfl
  have mixed:Try.prog.follows .mixedOrders=true:=by kernel_rfl
  have hz1:¬((1:Int)=0):=by omega
  have hz2:¬((i:Int)=(n:Int)):=by omega
  have hz3:(n:Int)<(n:Int)+1:=by omega
  have hbw:b<w.heap.size:=block_lt_of_cell (hcs 0 _ (List.getElem?_eq_getElem (by omega)))
  have hvw:vb<w.heap.size:=block_lt_of_cell (hvs 0 _ (List.getElem?_eq_getElem (by omega)))
  have hkk:(n:Int)+1 - (i:Int)=((n+1 - i:Nat):Int):=by omega
  have hik:i+(n+1 - i)=n+1:=by omega
  have hold:(Builtin.firstCells i0.size i (.slice (some ⟨b,off,none⟩) i n)).run Try.prog w.drew= .ok (cs.take (i*4)).toArray w.drew:=by
    rw [hzs]
    exact run_firstCells_some w.drew 4 i ⟨b,off,none⟩ i n (cs.take (i*4)) (by rw [List.length_take];omega) (fun j v hj=>by
      rw [Addr.add_lit]
      rw [List.getElem?_take] at hj
      split at hj
      · exact hcs j v hj
      · cases hj)
  have hbi:(n+1 - i)*i0.bytes≤281474976710656:=Nat.le_trans (Nat.mul_le_mul_right _ (by omega)) hbig
  have hfit:Builtin.nextslicecap (n+1) n*i0.bytes≤281474976710656:=Nat.le_trans (Nat.mul_le_mul_right _ (nextslicecap_le (by omega))) hbig
  have hrz:∀ty,(Builtin.append_ #[27,3] ty #[.slice (some ⟨b,off,none⟩) i n, .int .i64 ((n:Int)+1 - (i:Int))]).run Try.prog w =
      .ok (.slice (some ⟨w.heap.size,0,none⟩) (n+1) (grownCap w (n+1) n 30)) (w.drew.alloc (.cells ((cs.take (i*4)).toArray++Builtin.zeroCells z.cells (n+1 - i)++Builtin.zeroCells z.cells (grownCap w (n+1) n 30 - (n+1))) 30)):=fun ty=>by
    have h:=Lib.run_append_grow_zeros w 27 3 ty 30 i0 _ .i64 .i64 Try.underlying27 Try.underlying3 hi0 hz0 (some ⟨b,off,none⟩) i n (cs.take (i*4)) hold (n+1 - i) (by omega) (by omega) (by omega) (by omega) hbi (by rw [hik];exact hfit)
    rw [hik] at h
    rw [hkk]
    exact h
  obtain ⟨G,hG⟩:∃G,G=grownCap w (n+1) n 30:=⟨_,rfl⟩
  obtain ⟨ROW,hROW⟩:∃ROW:Array Value,ROW=(cs.take (i*4)).toArray++Builtin.zeroCells z.cells (n+1 - i)++Builtin.zeroCells z.cells (G - (n+1)):=⟨_,rfl⟩
  rw [← hG] at hrz ⊢
  rw [← hROW] at hrz ⊢
  have hRl:(n+1)*4≤ROW.size:=by
    rw [hROW]
    have hq:∀k,(Builtin.zeroCells z.cells k).size=k*z.cells.size:=fun k=>by simp [Builtin.zeroCells]
    rw [Array.size_append,Array.size_append,hq,hq,hzc,List.size_toArray,List.length_take,hcl]
    omega
  obtain ⟨W1,hW1⟩:∃W1,W1=w.drew.alloc (.cells ROW 30):=⟨_,rfl⟩
  rw [← hW1] at hrz
  have hN:∀j,j<(n+1)*4→(W1.cell? ⟨w.heap.size,j,none⟩).isSome=true:=fun j hj=>by
    rw [hW1,World.cell?_alloc_at (w:=w.drew) ROW _ w.heap.size j Y,Array.getElem?_eq_getElem (by omega)];rfl
  have hNf:∀j,W1.frozen? ⟨w.heap.size,j,none⟩=false:=fun j=>by rw [hW1];exact World.frozen?_alloc_at (w:=w.drew) ROW _ w.heap.size j Y
  have hOb:∀j v,w.cell? ⟨b,j,none⟩=some v→W1.cell? ⟨b,j,none⟩=some v:=fun j v h=>by rw [hW1,World.cell?_alloc_past (w:=w.drew) _ b j hbw];exact h
  have hOv:∀j v,w.cell? ⟨vb,j,none⟩=some v→W1.cell? ⟨vb,j,none⟩=some v:=fun j v h=>by rw [hW1,World.cell?_alloc_past (w:=w.drew) _ vb j hvw];exact h
  have hcpA:∀(W:World),(∀x,W.cell? x=W1.cell? x)→(∀x,W.frozen? x=W1.frozen? x)→∀ty dc,(Builtin.copy_ #[27,27] ty #[.slice (some ⟨w.heap.size,i*4,none⟩) (n+1 - i) dc, .slice (some ⟨vb,voff,none⟩) 1 vc]).run Try.prog W= .ok (goInt (Nat.min 1 (n+1 - i))) (W.setCells w.heap.size (i*4) vs):=fun W hWc hWf ty dc =>
    QX W _ _ ty 30 w.heap.size (i*4) (n+1 - i) dc ⟨vb,voff,none⟩ 1 vc vs Try.underlying27 z30 (by rw [hvl];simp only [Nat.min_def];split<;>omega)
      (fun j v hj=>by rw [Addr.add_lit,hWc];exact hOv _ v (hvs j v hj))
      (fun j hj=>by rw [hWc];exact hN _ (by omega)) (fun j hj=>by rw [hWf];exact hNf _) h1v
  have hGn:n+1≤G:=by rw [hG];exact ZG w _ _ _
  have hGi:¬(G=i):=by omega
  have hGim:¬(G=i+1):=by omega
  have hci:¬(n=i):=by omega
  have hbN:b≠w.heap.size:=by omega
  have hdl:(cs.drop (i*4)).length=(n - i)*4:=by rw [List.length_drop,hcl];omega
  have hcpB:∀(W:World),(∀x,W.cell? x=(W1.setCells w.heap.size (i*4) vs).cell? x)→(∀x,W.frozen? x=(W1.setCells w.heap.size (i*4) vs).frozen? x)→∀ty dc sc,(Builtin.copy_ #[27,27] ty #[.slice (some ⟨w.heap.size,(i+1)*4,none⟩) (n - i) dc, .slice (some ⟨b,off+i*4,none⟩) (n - i) sc]).run Try.prog W= .ok (goInt (Nat.min (n - i) (n - i))) (W.setCells w.heap.size ((i+1)*4) (cs.drop (i*4))):=fun W hWc hWf ty dc sc =>
    QX W _ _ ty 30 w.heap.size ((i+1)*4) (n - i) dc ⟨b,off+i*4,none⟩ (n - i) sc (cs.drop (i*4)) Try.underlying27 z30 (by rw [hdl];simp only [Nat.min_def];split<;>omega)
      (fun j v hj=>by
        rw [Addr.add_lit,hWc,World.cell?_setCells_out _ _ _ _ _ (fun h _=>absurd h hbN),Nat.add_assoc]
        exact hOb _ v (hcs (i*4+j) v (by rwa [List.getElem?_drop] at hj)))
      (fun j hj=>by rw [hWc];exact isSome_setCells _ _ _ _ (fun t ht=>hN _ (by omega)) _ (hN _ (by omega)))
      (fun j hj=>by rw [hWf,World.frozen?_setCells];exact hNf _) (fun v hv=>h1c v (List.mem_of_mem_drop hv))
  subst hW1
  have hE1:∀x,((w.alloc (.cells ROW 30)).drew).cell? x=(w.drew.alloc (.cells ROW 30)).cell? x:=fun x=>rfl
  have hE2:∀x,((w.alloc (.cells ROW 30)).drew).frozen? x=(w.drew.alloc (.cells ROW 30)).frozen? x:=fun x=>rfl
  have hF1:∀x,(((w.alloc (.cells ROW 30)).drew.setCells w.heap.size (i*4) vs).drew).cell? x=((w.drew.alloc (.cells ROW 30)).setCells w.heap.size (i*4) vs).cell? x:=fun x=>rfl
  have hF2:∀x,(((w.alloc (.cells ROW 30)).drew.setCells w.heap.size (i*4) vs).drew).frozen? x=((w.drew.alloc (.cells ROW 30)).setCells w.heap.size (i*4) vs).frozen? x:=fun x=>rfl
  have hw1:IntKind.i64.wrap ((i:Int)+1)=(i:Int)+1:=by rw [IntKind.wrap_i64];omega
  have hw2:IntKind.i64.wrap ((n:Int)+1)=(n:Int)+1:=by rw [IntKind.wrap_i64];omega
  have hw3:IntKind.i64.wrap ((n:Int)+1 - (i:Int))=(n:Int)+1 - (i:Int):=by rw [IntKind.wrap_i64];omega
  have hb1:(0:Int)≤(i:Int)+1:=by omega
  have hin:i≤n:=by omega
  have htn:((i:Int)+1).toNat=i+1:=by omega
  have hb3:(i:Int)≤(n:Int):=by omega
  clear hkk hik hold hROW hG hRl
  go_enter Try.func32,Try.ntmps32
  go_wp2_with (first
    | (at_builtin;refine Lib.wpList_append_run _ Y _ _ _ _ Y _ _ Y Y _ _ (hrz _) ?_)
    | (at_builtin;refine wpList_copy_runI _ Y _ _ 27 27 Y _ _ Y Y (hcpA _ hE1 hE2 _ _) ?_)
    | (at_builtin;refine wpList_copy_runI _ Y _ _ 27 27 Y _ _ Y Y (hcpB _ (fun _=>rfl) (fun _=>rfl) _ _ _) ?_))
  go_region_law_o (refine step_copy_runI Y _ _ 27 27 Y (.slice (some ⟨w.heap.size,(i+1)*4,none⟩) (n - i) (G - (i+1))) (.slice (some ⟨b,off+i*4,none⟩) (n - i) (n - i)) (by simp [Act.eval,Act.put]) (by simp [Act.eval,Act.put]) (hcpB _ hF1 hF2 3 (G - (i+1)) (n - i)) ?_)
  go_wp2
  go_ret
  exact ⟨rfl,rfl⟩
theorem QdG : QcT Try.prog 32 27 30 4 40 where
 ut:=Try.underlying27
 info:=⟨_,_,rfl,rfl,rfl,rfl,rfl⟩
 wide:=by decide
 fin base n c vb voff vc w _ _ h1 h2 h3:=Qcv base n c vb voff vc w h1 h2 h3
 shift b off n c i vb voff vc cs vs w h1 h2 h3 h4 h5 h6 h7 h8 h9 h10 h11 h12 tA tB kA kB h13 h14 h15 h16 h17:=Qbf b off n c i vb voff vc cs vs w h1 h2 h3 h4 h5 h6 h7 h8 h9 h10 h11 h12 tA tB kA kB h13 h14 h15 h16 h17
 grow b off n i vb voff vc cs vs w h1 h2 _ _ h3 h4 h5 h6 h7 h8 h9 h10 h11 h12 h13:=QbN b off n i vb voff vc cs vs w h1 h2 h3 h4 h5 h6 h7 h8 h9 h10 h11 h12 h13
theorem QcI (base:Option Addr) (n c vb voff vc:Nat) (w:World) {v':Value} {W':World} (hn:base=none→n=0∧c=0) (hnc:n≤c)
  (hrun:(Builtin.append_ #[39,39] 39 #[.slice base n c, .slice (some ⟨vb,voff,none⟩) 1 vc]).run Try.prog w= .ok v' W') :
  Calls Try.prog 42 #[.slice base n c, .int .i64 n, .slice (some ⟨vb,voff,none⟩) 1 vc] w fun e w'=>e= .returned v'∧w'=W':=by
 have t0:=Try.underlying0;have u0:=run_underlying Try.underlying0
 have t3:=Try.underlying3;have u3:=run_underlying Try.underlying3
 have t4:=Try.underlying4;have u4:=run_underlying Try.underlying4
 have t39:=Try.underlying39;have u39:=run_underlying Try.underlying39
 have t58:=Try.underlying58;have u58:=run_underlying Try.underlying58
 have z0:∀w,(Go.sizeOf 0).run Try.prog w= .ok 1 w:=fun _=>by kernel_rfl
 have z3:∀w,(Go.sizeOf 3).run Try.prog w= .ok 1 w:=fun _=>by kernel_rfl
 have z4:∀w,(Go.sizeOf 4).run Try.prog w= .ok 1 w:=fun _=>by kernel_rfl
 have z39:∀w,(Go.sizeOf 39).run Try.prog w= .ok 1 w:=fun _=>by kernel_rfl
 have z58:∀w,(Go.sizeOf 58).run Try.prog w= .ok 2 w:=fun _=>by kernel_rfl
 have a0:∀w,(isAgg 0).run Try.prog w= .ok false w:=fun _=>by kernel_rfl
 have a3:∀w,(isAgg 3).run Try.prog w= .ok false w:=fun _=>by kernel_rfl
 have a4:∀w,(isAgg 4).run Try.prog w= .ok false w:=fun _=>by kernel_rfl
 have a39:∀w,(isAgg 39).run Try.prog w= .ok false w:=fun _=>by kernel_rfl
 have v39:∀w,(zeroValue 39).run Try.prog w= .ok (Value.slice none 0 0) w:=fun _=>by kernel_rfl
 have v3:∀w,(zeroValue 3).run Try.prog w= .ok (Value.int IntKind.i64 0) w:=fun _=>by kernel_rfl
 have mixed:Try.prog.follows .mixedOrders=true:=by kernel_rfl
 have hz1:¬((1:Int)=0):=by omega
 go_enter Try.func42,Try.ntmps42
 cases base with
 | none =>
  obtain ⟨h0,h1⟩:=hn Y
  subst h0
  subst h1
  go_wp2_with (at_builtin;refine Lib.wpList_append_run _ Y _ _ _ _ Y _ _ Y Y _ _ hrun ?_)
  go_ret
  exact ⟨rfl,rfl⟩
 | some a =>
  obtain ⟨ab,ao,asp⟩:=a
  go_wp2_with (at_builtin;refine Lib.wpList_append_run _ Y _ _ _ _ Y _ _ Y Y _ _ hrun ?_)
  all_goals (go_ret;exact ⟨rfl,rfl⟩)
theorem Qbp (b off n c i vb voff vc:Nat) (cs vs:List Value) (w:World) (hi:i<n) (hroom:n+1≤c) (hn63:n<9223372036854775807) (hvb:vb≠b)
    (hcl:cs.length=n*2) (hvl:vs.length=2)
    (hcs:∀j v,cs[j]? =some v→w.cell? ⟨b,off+j,none⟩=some v) (hsp:∀j,j<(n+1)*2→(w.cell? ⟨b,off+j,none⟩).isSome=true) (hfz:∀j,j<(n+1)*2→w.frozen? ⟨b,off+j,none⟩=false)
    (hvs:∀j v,vs[j]? =some v→w.cell? ⟨vb,voff+j,none⟩=some v) (h1c:∀v∈cs,v.oneCell'=true) (h1v:∀v∈vs,v.oneCell'=true)
    (tA tB:TypeId) (kA kB:Nat) (hsa:w.shape? vb=some (tA,kA)) (hsb:w.shape? b=some (tB,kB)) (hkB:kB≠0) (hfa:w.frozen? ⟨vb,voff,none⟩=false) (hfe:w.frozen? ⟨vb,kA,none⟩=false) :
    Calls Try.prog 42 #[.slice (some ⟨b,off,none⟩) n c, .int .i64 i, .slice (some ⟨vb,voff,none⟩) 1 vc] w fun e w' =>
      e= .returned (.slice (some ⟨b,off,none⟩) (n+1) c)∧w'=(w.drew.setCells b (off+(i+1)*2) (cs.drop (i*2))).setCells b (off+i*2) vs:=by
  have t0:=Try.underlying0;have u0:=run_underlying Try.underlying0
  have t3:=Try.underlying3;have u3:=run_underlying Try.underlying3
  have t4:=Try.underlying4;have u4:=run_underlying Try.underlying4
  have t39:=Try.underlying39;have u39:=run_underlying Try.underlying39
  have t58:=Try.underlying58;have u58:=run_underlying Try.underlying58
  have z0:∀w,(Go.sizeOf 0).run Try.prog w= .ok 1 w:=fun _=>by kernel_rfl
  have z3:∀w,(Go.sizeOf 3).run Try.prog w= .ok 1 w:=fun _=>by kernel_rfl
  have z4:∀w,(Go.sizeOf 4).run Try.prog w= .ok 1 w:=fun _=>by kernel_rfl
  have z39:∀w,(Go.sizeOf 39).run Try.prog w= .ok 1 w:=fun _=>by kernel_rfl
  have z58:∀w,(Go.sizeOf 58).run Try.prog w= .ok 2 w:=fun _=>by kernel_rfl
  have a0:∀w,(isAgg 0).run Try.prog w= .ok false w:=fun _=>by kernel_rfl
  have a3:∀w,(isAgg 3).run Try.prog w= .ok false w:=fun _=>by kernel_rfl
  have a4:∀w,(isAgg 4).run Try.prog w= .ok false w:=fun _=>by kernel_rfl
  have a39:∀w,(isAgg 39).run Try.prog w= .ok false w:=fun _=>by kernel_rfl
  have v39:∀w,(zeroValue 39).run Try.prog w= .ok (Value.slice none 0 0) w:=fun _=>by kernel_rfl
  have v3:∀w,(zeroValue 3).run Try.prog w= .ok (Value.int IntKind.i64 0) w:=fun _=>by kernel_rfl
  have mixed:Try.prog.follows .mixedOrders=true:=by kernel_rfl
  have hz1:¬((1:Int)=0):=by omega
  have hz2:¬((i:Int)=(n:Int)):=by omega
  have hov:∀lb cb,(callFunc 54 #[.slice (some ⟨vb,voff,none⟩) 1 vc, .slice (some ⟨b,off+(i+1)*2,none⟩) lb cb]).run Try.prog w= .ok (.value (.bool false)) w:=fun lb cb=>by
    rw [run_callFunc_extern Try.func54 (by kernel_rfl) (by kernel_rfl) (by kernel_rfl) (e:=Extern.SlicesOverlaps.overlaps #[39,39] #[4]) (by kernel_rfl),
      Lib.run_overlaps_apart w 39 4 58 Try.underlying39 2 z58 ⟨vb,voff,none⟩ ⟨b,off+(i+1)*2,none⟩ 1 vc lb cb hvb tA tB kA kB hsa hsb hkB hfa hfe]
    rfl
  have hdl:(cs.drop (i*2)).length=(n - i)*2:=by rw [List.length_drop,hcl];omega
  have hw1:IntKind.i64.wrap ((i:Int)+1)=(i:Int)+1:=by rw [IntKind.wrap_i64];omega
  have hw2:IntKind.i64.wrap ((n:Int)+1)=(n:Int)+1:=by rw [IntKind.wrap_i64];omega
  have hb1:(0:Int)≤(i:Int)+1:=by omega
  have hin:i≤n:=by omega
  have htn:((i:Int)+1).toNat=i+1:=by omega
  have hb2:¬(c=i+1):=by omega
  have hb3:(i:Int)≤(n:Int)+1:=by omega
  have hb4:¬(c=i):=by omega
  have hcp1:∀ty dc sc,(Builtin.copy_ #[39,39] ty #[.slice (some ⟨b,off+(i+1)*2,none⟩) (n - i) dc, .slice (some ⟨b,off+i*2,none⟩) (n+1 - i) sc]).run Try.prog w.drew= .ok (goInt (Nat.min (n+1 - i) (n - i))) (w.drew.setCells b (off+(i+1)*2) (cs.drop (i*2))):=fun ty dc sc =>
    QX w.drew _ _ ty 58 b (off+(i+1)*2) (n - i) dc ⟨b,off+i*2,none⟩ (n+1 - i) sc (cs.drop (i*2)) Try.underlying39 z58 (by rw [hdl];simp only [Nat.min_def];split<;>omega)
      (fun j v hj=>by rw [Addr.add_lit,Nat.add_assoc];exact hcs (i*2+j) v (by rwa [List.getElem?_drop] at hj))
      (fun j hj=>by rw [Nat.add_assoc];exact hsp _ (by omega)) (fun j hj=>by rw [Nat.add_assoc];exact hfz _ (by omega)) (fun v hv=>h1c v (List.mem_of_mem_drop hv))
  obtain ⟨W1,hW1⟩:∃W1,W1=w.drew.setCells b (off+(i+1)*2) (cs.drop (i*2)):=⟨_,rfl⟩
  have hsp1:∀k,k<(n+1)*2→(W1.cell? ⟨b,off+k,none⟩).isSome=true:=fun k hk=>by
    rw [hW1]
    exact isSome_setCells b _ _ _ (fun j hj=>by rw [Nat.add_assoc];exact hsp _ (by omega)) _ (hsp k hk)
  have hcp2:∀(W:World),(∀x,W.cell? x=W1.cell? x)→(∀x,W.frozen? x=W1.frozen? x)→∀ty dc,(Builtin.copy_ #[39,39] ty #[.slice (some ⟨b,off+i*2,none⟩) (n+1 - i) dc, .slice (some ⟨vb,voff,none⟩) 1 vc]).run Try.prog W= .ok (goInt (Nat.min 1 (n+1 - i))) (W.setCells b (off+i*2) vs):=fun W hWc hWf ty dc =>
    QX W _ _ ty 58 b (off+i*2) (n+1 - i) dc ⟨vb,voff,none⟩ 1 vc vs Try.underlying39 z58 (by rw [hvl];simp only [Nat.min_def];split<;>omega)
      (fun j v hj=>by
        rw [Addr.add_lit,hWc,hW1,World.cell?_setCells_out b _ _ _ _ (fun h _=>absurd h hvb)]
        exact hvs j v hj)
      (fun j hj=>by rw [hWc,Nat.add_assoc];exact hsp1 _ (by omega)) (fun j hj=>by rw [hWf,hW1,World.frozen?_setCells,Nat.add_assoc];exact hfz _ (by omega)) h1v
  rw [← hW1] at hcp1
  go_enter Try.func42,Try.ntmps42
  go_wp2_with (simp only [hov])
  go_region_law_o (refine step_copy_runI Y _ _ 39 39 Y _ _ (by simp [Act.eval,Act.put]) (by simp [Act.eval,Act.put]) (hcp1 _ _ _) ?_)
  go_wp2_with (at_builtin;refine wpList_copy_runI _ Y _ _ 39 39 Y _ _ Y Y (hcp2 _ (fun _=>rfl) (fun _=>rfl) _ _) ?_)
  go_ret
  first | exact ⟨rfl,rfl⟩ | exact ⟨rfl,by rw [hW1]⟩
theorem Qb7 (b off n i vb voff vc:Nat) (cs vs:List Value) (w:World) (hi:i<n) (hn63:n<4611686018427387904) {i0:TypeInfo} {z:Value} (hi0:Try.prog.info? 58=some i0) (hz0:i0.zero=some z) (hzs:i0.size=2) (hzc:z.cells.size=2) (hbig:2*(n+1)*i0.bytes≤281474976710656)
    (hcl:cs.length=n*2) (hvl:vs.length=2)
    (hcs:∀j v,cs[j]? =some v→w.cell? ⟨b,off+j,none⟩=some v)
    (hvs:∀j v,vs[j]? =some v→w.cell? ⟨vb,voff+j,none⟩=some v) (h1c:∀v∈cs,v.oneCell'=true) (h1v:∀v∈vs,v.oneCell'=true) :
    Calls Try.prog 42 #[.slice (some ⟨b,off,none⟩) n n, .int .i64 i, .slice (some ⟨vb,voff,none⟩) 1 vc] w fun e w' =>
      e= .returned (.slice (some ⟨w.heap.size,0,none⟩) (n+1) (grownCap w (n+1) n 58)) ∧
      w'=(((w.alloc (.cells ((cs.take (i*2)).toArray++Builtin.zeroCells z.cells (n+1 - i)++Builtin.zeroCells z.cells (grownCap w (n+1) n 58 - (n+1))) 58)).drew.setCells w.heap.size (i*2) vs).drew).setCells w.heap.size ((i+1)*2) (cs.drop (i*2)):=by
  have t0:=Try.underlying0;have u0:=run_underlying Try.underlying0
  have t3:=Try.underlying3;have u3:=run_underlying Try.underlying3
  have t4:=Try.underlying4;have u4:=run_underlying Try.underlying4
  have t39:=Try.underlying39;have u39:=run_underlying Try.underlying39
  have t58:=Try.underlying58;have u58:=run_underlying Try.underlying58
  have z0:∀w,(Go.sizeOf 0).run Try.prog w= .ok 1 w:=fun _=>by kernel_rfl
  have z3:∀w,(Go.sizeOf 3).run Try.prog w= .ok 1 w:=fun _=>by kernel_rfl
  have z4:∀w,(Go.sizeOf 4).run Try.prog w= .ok 1 w:=fun _=>by kernel_rfl
  have z39:∀w,(Go.sizeOf 39).run Try.prog w= .ok 1 w:=fun _=>by kernel_rfl
  have z58:∀w,(Go.sizeOf 58).run Try.prog w= .ok 2 w:=fun _=>by kernel_rfl
  have a0:∀w,(isAgg 0).run Try.prog w= .ok false w:=fun _=>by kernel_rfl
  have a3:∀w,(isAgg 3).run Try.prog w= .ok false w:=fun _=>by kernel_rfl
  have a4:∀w,(isAgg 4).run Try.prog w= .ok false w:=fun _=>by kernel_rfl
  have a39:∀w,(isAgg 39).run Try.prog w= .ok false w:=fun _=>by kernel_rfl
  have v39:∀w,(zeroValue 39).run Try.prog w= .ok (Value.slice none 0 0) w:=fun _=>by kernel_rfl
  have v3:∀w,(zeroValue 3).run Try.prog w= .ok (Value.int IntKind.i64 0) w:=fun _=>by kernel_rfl
  have mixed:Try.prog.follows .mixedOrders=true:=by kernel_rfl
  have hz1:¬((1:Int)=0):=by omega
  have hz2:¬((i:Int)=(n:Int)):=by omega
  have hz3:(n:Int)<(n:Int)+1:=by omega
  have hbw:b<w.heap.size:=block_lt_of_cell (hcs 0 _ (List.getElem?_eq_getElem (by omega)))
  have hvw:vb<w.heap.size:=block_lt_of_cell (hvs 0 _ (List.getElem?_eq_getElem (by omega)))
  have hkk:(n:Int)+1 - (i:Int)=((n+1 - i:Nat):Int):=by omega
  have hik:i+(n+1 - i)=n+1:=by omega
  have hold:(Builtin.firstCells i0.size i (.slice (some ⟨b,off,none⟩) i n)).run Try.prog w.drew= .ok (cs.take (i*2)).toArray w.drew:=by
    rw [hzs]
    exact run_firstCells_some w.drew 2 i ⟨b,off,none⟩ i n (cs.take (i*2)) (by rw [List.length_take];omega) (fun j v hj=>by
      rw [Addr.add_lit]
      rw [List.getElem?_take] at hj
      split at hj
      · exact hcs j v hj
      · cases hj)
  have hbi:(n+1 - i)*i0.bytes≤281474976710656:=Nat.le_trans (Nat.mul_le_mul_right _ (by omega)) hbig
  have hfit:Builtin.nextslicecap (n+1) n*i0.bytes≤281474976710656:=Nat.le_trans (Nat.mul_le_mul_right _ (nextslicecap_le (by omega))) hbig
  have hrz:∀ty,(Builtin.append_ #[39,3] ty #[.slice (some ⟨b,off,none⟩) i n, .int .i64 ((n:Int)+1 - (i:Int))]).run Try.prog w =
      .ok (.slice (some ⟨w.heap.size,0,none⟩) (n+1) (grownCap w (n+1) n 58)) (w.drew.alloc (.cells ((cs.take (i*2)).toArray++Builtin.zeroCells z.cells (n+1 - i)++Builtin.zeroCells z.cells (grownCap w (n+1) n 58 - (n+1))) 58)):=fun ty=>by
    have h:=Lib.run_append_grow_zeros w 39 3 ty 58 i0 _ .i64 .i64 Try.underlying39 Try.underlying3 hi0 hz0 (some ⟨b,off,none⟩) i n (cs.take (i*2)) hold (n+1 - i) (by omega) (by omega) (by omega) (by omega) hbi (by rw [hik];exact hfit)
    rw [hik] at h
    rw [hkk]
    exact h
  obtain ⟨G,hG⟩:∃G,G=grownCap w (n+1) n 58:=⟨_,rfl⟩
  obtain ⟨ROW,hROW⟩:∃ROW:Array Value,ROW=(cs.take (i*2)).toArray++Builtin.zeroCells z.cells (n+1 - i)++Builtin.zeroCells z.cells (G - (n+1)):=⟨_,rfl⟩
  rw [← hG] at hrz ⊢
  rw [← hROW] at hrz ⊢
  have hRl:(n+1)*2≤ROW.size:=by
    rw [hROW]
    have hq:∀k,(Builtin.zeroCells z.cells k).size=k*z.cells.size:=fun k=>by simp [Builtin.zeroCells]
    rw [Array.size_append,Array.size_append,hq,hq,hzc,List.size_toArray,List.length_take,hcl]
    omega
  obtain ⟨W1,hW1⟩:∃W1,W1=w.drew.alloc (.cells ROW 58):=⟨_,rfl⟩
  rw [← hW1] at hrz
  have hN:∀j,j<(n+1)*2→(W1.cell? ⟨w.heap.size,j,none⟩).isSome=true:=fun j hj=>by
    rw [hW1,World.cell?_alloc_at (w:=w.drew) ROW _ w.heap.size j Y,Array.getElem?_eq_getElem (by omega)];rfl
  have hNf:∀j,W1.frozen? ⟨w.heap.size,j,none⟩=false:=fun j=>by rw [hW1];exact World.frozen?_alloc_at (w:=w.drew) ROW _ w.heap.size j Y
  have hOb:∀j v,w.cell? ⟨b,j,none⟩=some v→W1.cell? ⟨b,j,none⟩=some v:=fun j v h=>by rw [hW1,World.cell?_alloc_past (w:=w.drew) _ b j hbw];exact h
  have hOv:∀j v,w.cell? ⟨vb,j,none⟩=some v→W1.cell? ⟨vb,j,none⟩=some v:=fun j v h=>by rw [hW1,World.cell?_alloc_past (w:=w.drew) _ vb j hvw];exact h
  have hcpA:∀(W:World),(∀x,W.cell? x=W1.cell? x)→(∀x,W.frozen? x=W1.frozen? x)→∀ty dc,(Builtin.copy_ #[39,39] ty #[.slice (some ⟨w.heap.size,i*2,none⟩) (n+1 - i) dc, .slice (some ⟨vb,voff,none⟩) 1 vc]).run Try.prog W= .ok (goInt (Nat.min 1 (n+1 - i))) (W.setCells w.heap.size (i*2) vs):=fun W hWc hWf ty dc =>
    QX W _ _ ty 58 w.heap.size (i*2) (n+1 - i) dc ⟨vb,voff,none⟩ 1 vc vs Try.underlying39 z58 (by rw [hvl];simp only [Nat.min_def];split<;>omega)
      (fun j v hj=>by rw [Addr.add_lit,hWc];exact hOv _ v (hvs j v hj))
      (fun j hj=>by rw [hWc];exact hN _ (by omega)) (fun j hj=>by rw [hWf];exact hNf _) h1v
  have hGn:n+1≤G:=by rw [hG];exact ZG w _ _ _
  have hGi:¬(G=i):=by omega
  have hGim:¬(G=i+1):=by omega
  have hci:¬(n=i):=by omega
  have hbN:b≠w.heap.size:=by omega
  have hdl:(cs.drop (i*2)).length=(n - i)*2:=by rw [List.length_drop,hcl];omega
  have hcpB:∀(W:World),(∀x,W.cell? x=(W1.setCells w.heap.size (i*2) vs).cell? x)→(∀x,W.frozen? x=(W1.setCells w.heap.size (i*2) vs).frozen? x)→∀ty dc sc,(Builtin.copy_ #[39,39] ty #[.slice (some ⟨w.heap.size,(i+1)*2,none⟩) (n - i) dc, .slice (some ⟨b,off+i*2,none⟩) (n - i) sc]).run Try.prog W= .ok (goInt (Nat.min (n - i) (n - i))) (W.setCells w.heap.size ((i+1)*2) (cs.drop (i*2))):=fun W hWc hWf ty dc sc =>
    QX W _ _ ty 58 w.heap.size ((i+1)*2) (n - i) dc ⟨b,off+i*2,none⟩ (n - i) sc (cs.drop (i*2)) Try.underlying39 z58 (by rw [hdl];simp only [Nat.min_def];split<;>omega)
      (fun j v hj=>by
        rw [Addr.add_lit,hWc,World.cell?_setCells_out _ _ _ _ _ (fun h _=>absurd h hbN),Nat.add_assoc]
        exact hOb _ v (hcs (i*2+j) v (by rwa [List.getElem?_drop] at hj)))
      (fun j hj=>by rw [hWc];exact isSome_setCells _ _ _ _ (fun t ht=>hN _ (by omega)) _ (hN _ (by omega)))
      (fun j hj=>by rw [hWf,World.frozen?_setCells];exact hNf _) (fun v hv=>h1c v (List.mem_of_mem_drop hv))
  subst hW1
  have hE1:∀x,((w.alloc (.cells ROW 58)).drew).cell? x=(w.drew.alloc (.cells ROW 58)).cell? x:=fun x=>rfl
  have hE2:∀x,((w.alloc (.cells ROW 58)).drew).frozen? x=(w.drew.alloc (.cells ROW 58)).frozen? x:=fun x=>rfl
  have hF1:∀x,(((w.alloc (.cells ROW 58)).drew.setCells w.heap.size (i*2) vs).drew).cell? x=((w.drew.alloc (.cells ROW 58)).setCells w.heap.size (i*2) vs).cell? x:=fun x=>rfl
  have hF2:∀x,(((w.alloc (.cells ROW 58)).drew.setCells w.heap.size (i*2) vs).drew).frozen? x=((w.drew.alloc (.cells ROW 58)).setCells w.heap.size (i*2) vs).frozen? x:=fun x=>rfl
  have hw1:IntKind.i64.wrap ((i:Int)+1)=(i:Int)+1:=by rw [IntKind.wrap_i64];omega
  have hw2:IntKind.i64.wrap ((n:Int)+1)=(n:Int)+1:=by rw [IntKind.wrap_i64];omega
  have hw3:IntKind.i64.wrap ((n:Int)+1 - (i:Int))=(n:Int)+1 - (i:Int):=by rw [IntKind.wrap_i64];omega
  have hb1:(0:Int)≤(i:Int)+1:=by omega
  have hin:i≤n:=by omega
  have htn:((i:Int)+1).toNat=i+1:=by omega
  have hb3:(i:Int)≤(n:Int):=by omega
  clear hkk hik hold hROW hG hRl
  go_enter Try.func42,Try.ntmps42
  go_wp2_with (first
    | (at_builtin;refine Lib.wpList_append_run _ Y _ _ _ _ Y _ _ Y Y _ _ (hrz _) ?_)
    | (at_builtin;refine wpList_copy_runI _ Y _ _ 39 39 Y _ _ Y Y (hcpA _ hE1 hE2 _ _) ?_)
    | (at_builtin;refine wpList_copy_runI _ Y _ _ 39 39 Y _ _ Y Y (hcpB _ (fun _=>rfl) (fun _=>rfl) _ _ _) ?_))
  go_region_law_o (refine step_copy_runI Y _ _ 39 39 Y (.slice (some ⟨w.heap.size,(i+1)*2,none⟩) (n - i) (G - (i+1))) (.slice (some ⟨b,off+i*2,none⟩) (n - i) (n - i)) (by simp [Act.eval,Act.put]) (by simp [Act.eval,Act.put]) (hcpB _ hF1 hF2 3 (G - (i+1)) (n - i)) ?_)
  go_wp2
  go_ret
  exact ⟨rfl,rfl⟩
theorem Qdy : QcT Try.prog 42 39 58 2 24 where
 ut:=Try.underlying39
 info:=⟨_,_,rfl,rfl,rfl,rfl,rfl⟩
 wide:=by decide
 fin base n c vb voff vc w _ _ h1 h2 h3:=QcI base n c vb voff vc w h1 h2 h3
 shift b off n c i vb voff vc cs vs w h1 h2 h3 h4 h5 h6 h7 h8 h9 h10 h11 h12 tA tB kA kB h13 h14 h15 h16 h17:=Qbp b off n c i vb voff vc cs vs w h1 h2 h3 h4 h5 h6 h7 h8 h9 h10 h11 h12 tA tB kA kB h13 h14 h15 h16 h17
 grow b off n i vb voff vc cs vs w h1 h2 _ _ h3 h4 h5 h6 h7 h8 h9 h10 h11 h12 h13:=Qb7 b off n i vb voff vc cs vs w h1 h2 h3 h4 h5 h6 h7 h8 h9 h10 h11 h12 h13
open Go
theorem Qd9 : Qb8 Try.prog:=by
 intro f hf
 by_cases h0:f=32
 ·subst h0
  exact Qaa QdG
 by_cases h1:f=42
 ·subst h1
  exact Qaa Qdy
 simp [YI,h0,h1] at hf
end Go.Proofs.Ytnhblneeekccoaa.AE
