/- A part of what the row of FnExactNewSession uses. Conditions: as each theorem states. -/
import Derived.Test.YthifchndolccgaaGreatDoorZFnExactNewSessionc
namespace Go.Proofs.YthifchndolccgaaGreatDoor.AE
open Go Go.RowKit
set_option linter.unusedVariables false
set_option linter.unusedSimpArgs false
set_option maxRecDepth 20000
set_option maxHeartbeats 2000000
noncomputable section
def gOk (s:ByteArray) (j:Nat):Prop:=QB s j=35∨QB s j=46
def gridOk (g:D.Grid):Prop:=(2≤g.Rows∧g.Rows≤6)∧(2≤g.Cols∧g.Cols≤6)∧((g.Cells.size:Nat):Int)=g.Rows*g.Cols∧∀j,j<g.Cells.size→gOk g.Cells j
instance (g:D.Grid):Decidable (gridOk g):=Classical.propDecidable _
theorem QlD {a b:Int} (h1:2≤a) (h2:a≤6) (h3:2≤b) (h4:b≤6):4≤a*b∧a*b≤36:=by
 have e1:2*2≤a*b:=Int.mul_le_mul h1 h3 (by decide) (by omega)
 have e2:a*b≤6*6:=Int.mul_le_mul h2 h4 (by omega) (by decide)
 omega
theorem Qlu {a b:Int} (h1:2≤a) (h2:a≤6) (h3:2≤b) (h4:b≤6):IntKind.i64.wrap (a*b)=a*b:=by
 have:=QlD h1 h2 h3 h4
 rw [Qy (by omega)]
theorem gridOk.size {g:D.Grid} (h:gridOk g):4≤g.Cells.size∧g.Cells.size≤36:=by
 have:=QlD h.1.1 h.1.2 h.2.1.1 h.2.1.2
 have:=h.2.2.1
 omega
end
theorem Zr (n:Nat) (g:D.Grid) (hc:g.Cells.size≤maxLen):Pure (Qr Tryz.prog (n+2)) 53 [(T.agg (Qa false g))] (tB (decide (gridOk g))):=by
 refine Pure.intro (rs:= [ResultVar.tmp 2]) Tryz.func53 rfl rfl rfl (E0:= [(0,(T.agg (Qa false g)))]) rfl ?_
 obtain ⟨hlim,hmx,hmax⟩:=QJ
 refine sr (kO (B.box (ts:=(Qa false g)) (tv (T.agg (Qa false g)) rfl) nofun rfl) (fO (OF.assign (VEv.bool false)) (nt (sq (sr (lf (tI g.Rows) rfl JD rfl rfl Q0 (cO (cS (vc (tv (tI g.Rows) rfl) (vc (VEv.int .i64 2) (vc (VEv.int .i64 6) vn))) (Yl rfl) (QV (n+0) g.Rows 2 6) rfl rfl) (fO (Q1 (tv (tB (decide (2≤g.Rows∧g.Rows≤6))) rfl)) (mO (tB (!(decide (2≤g.Rows∧g.Rows≤6)))) rfl ?_)))))))))
 refine gn (2≤g.Rows∧g.Rows≤6) (fun fhg8_1=> ?_) fun fhg8_1=> ?_
 ·refine QC 4 4 false 8 (ny fhg8_1) rfl rfl rfl ?_
  refine fO (OF.pickT (VEv.tmpB rfl (ny fhg8_1)) (VEv.bool true)) (mO (tB true) rfl (QC 9 10 false 14 (b:=true) rfl rfl rfl rfl (fO (OF.pickT (tv (tB true) rfl) (VEv.bool true)) (nt (ct rfl (sr (fO (OF.assign (VEv.bool false)) (nt (rt (tr (vb (b':=false) rfl ?_)))))))))))
  (symm;rw [decide_eq_false_iff_not];rintro ⟨g1,g2,g3,g4⟩;omega)
 refine Yn (tI g.Cols) (nz fhg8_1) rfl rfl rfl rfl Q7 rfl rfl Q0 (VRunO.chain (VWant.on rfl rfl (nz fhg8_1)) (cS (vc (tv (tI g.Cols) rfl) (vc (VEv.int .i64 2) (vc (VEv.int .i64 6) vn))) (Yl rfl) (QV (n+0) g.Cols 2 6) rfl rfl) (gF (nz fhg8_1) rfl rfl (Q1 (tv (tB (decide (2≤g.Cols∧g.Cols≤6))) rfl)) (fO (OF.pickF (VEv.tmpB rfl (nz fhg8_1)) (tv (tB (!(decide (2≤g.Cols∧g.Cols≤6)))) rfl)) (mO (tB (!(decide (2≤g.Cols∧g.Cols≤6)))) rfl ?_))))
 refine gn (2≤g.Cols∧g.Cols≤6) (fun fhg14_2=> ?_) fun fhg14_2=> ?_
 ·refine QC 9 10 false 14 (ny fhg14_2) rfl rfl rfl ?_
  refine fO (OF.pickT (VEv.tmpB rfl (ny fhg14_2)) (VEv.bool true)) (nt (ct rfl (sr (fO (OF.assign (VEv.bool false)) (nt (rt (tr (vb (b':=false) rfl ?_))))))))
  (symm;rw [decide_eq_false_iff_not];rintro ⟨g1,g2,g3,g4⟩;omega)
 refine Yn (tS g.Cells) (nz fhg14_2) rfl rfl rfl rfl QD rfl rfl Z3 (gL (nz fhg14_2) rfl rfl (B.lenS (tv (tS g.Cells) rfl) U9) (Yn (tI g.Rows) (nz fhg14_2) rfl rfl rfl rfl JD rfl rfl Q0 (Yn (tI g.Cols) (nz fhg14_2) rfl rfl rfl rfl Q7 rfl rfl Q0 (gF (nz fhg14_2) rfl rfl (B.mul (n:=(g.Rows*g.Cols)) (tv (tI g.Rows) rfl) (tv (tI g.Cols) rfl) (by (refine Qlu ?_ ?_ ?_ ?_<;>omega))) (gF (nz fhg14_2) rfl rfl (xne (tv (tN g.Cells.size) rfl) (tv (tI (g.Rows*g.Cols)) rfl)) (fO (OF.pickF (VEv.tmpB rfl (nz fhg14_2)) (tv (tB (!(decide (((g.Cells.size:Nat):Int)=(g.Rows*g.Cols))))) rfl)) (nt ?_)))))))
 refine cn (((g.Cells.size:Nat):Int)=(g.Rows*g.Cols)) rfl (fun fhc0=> ?_) fun fhc0=> ?_
 ·refine sr ?_
  refine fO (OF.assign (VEv.bool false)) (nt (rt (tr (vb (b':=false) rfl ?_))))
  (symm;rw [decide_eq_false_iff_not];rintro ⟨g1,g2,g3,g4⟩;omega)
 refine sk (tn (sq (sr (fO (OF.assign (VEv.int .i64 0)) (nt (VRun.block ?_))))))
 refine VRun.loop (A:=Nat) (fun s_=> [(1,(T.op 0 0)),(3,(tN s_))]) (fun s_=>Q3 [(0,(Obj.cells (Qa false g)))]) 1 (fun s_=>s_≤g.Cells.size∧∀j,j<s_→gOk g.Cells j) (fun s_=>g.Cells.size - s_) (0:Nat) ?_ (Wk.mk (fun k=>k) ?_ ?_ ?_) ?_
 ·exact ⟨Nat.zero_le _,fun j hj=>by omega⟩
 ·exact (b2 (b2 bn))
 ·exact (b3 bn)
 ·exact nd rfl
 rintro i (hI':i≤g.Cells.size∧∀j,j<i→gOk g.Cells j)
 show VRun _ _ _ [(1,(T.op 0 0)),(3,(tN i))] (Q3 [(0,(Obj.cells (Qa false g)))]) 1 _
 have hI1:=hI'.1
 refine sq (sr (mO (tN i) rfl (lf (tS g.Cells) rfl QD rfl rfl Z3 (lO (B.lenS (tv (tS g.Cells) rfl) U9) (fO (Zt (tv (tN i) rfl) (tv (tN g.Cells.size) rfl)) (nt ?_))))))
 refine cd (i<g.Cells.size) rfl (fun fhc1=> ?_) fun fhc1=> ?_
 ·refine sk ?_
  refine tn (sq (VRun.block (sr (lf (tS g.Cells) rfl QD rfl rfl Z3 (mO (tN i) rfl ?_)))))
  have hb3:i<g.Cells.size:=(by omega)
  refine fO (xix (tv (tS g.Cells) rfl) (tv (tN i) rfl) hb3 U9) (fO (xne (tv (T.int .u8 (QB g.Cells i)) rfl) (VEv.int .u8 35)) (mO (tB (!(decide (QB g.Cells i=35)))) rfl ?_))
  refine gn (QB g.Cells i=35) (fun fhg37_4=> ?_) fun fhg37_4=> ?_
  ·refine Yn (tS g.Cells) (ny fhg37_4) rfl rfl rfl rfl QD rfl rfl Z3 ?_
   refine gF (ny fhg37_4) rfl rfl (OF.move (tv (tN i) rfl)) ?_
   have hb5:i<g.Cells.size:=(by omega)
   refine gF (ny fhg37_4) rfl rfl (xix (tv (tS g.Cells) rfl) (tv (tN i) rfl) hb5 U9) (gF (ny fhg37_4) rfl rfl (xne (tv (T.int .u8 (QB g.Cells i)) rfl) (VEv.int .u8 46)) (fO (OF.pickT (VEv.tmpB rfl (ny fhg37_4)) (tv (tB (!(decide (QB g.Cells i=46)))) rfl)) (nt ?_)))
   refine cn (QB g.Cells i=46) rfl (fun fhc2=> ?_) fun fhc2=> ?_
   ·refine sr ?_
    refine fO (OF.assign (VEv.bool false)) (nt (rt (vinB.r (tr (tr (vinB.r (tr (vb (b':=false) rfl ?_))))))))
    (symm;rw [decide_eq_false_iff_not];rintro ⟨g1,g2,g3,g4⟩;(have:=g4 i fhc1;unfold gOk at this;omega))
   refine sk (vinB.n (tn (VRun.region (mO (tN i) rfl (fO (QF (tv (tN i) rfl) (VEv.int .i64 1) (by omega)) (aO (tN (i+1)) rfl (VRunO.nil (tn ?_))))))))
   refine ⟨(i+1:Nat),?_,?_,Wk.mk (fun k=>k) ?_ ?_ ?_⟩
   ·refine QX hI' fhc1 ?_;unfold gOk;omega
   ·omega
   ·exact (b2 (b2 bn))
   ·exact (b3 bn)
   ·exact nd rfl
  refine QC 5 5 true 37 (nz fhg37_4) rfl rfl rfl (fO (OF.pickF (VEv.tmpB rfl (nz fhg37_4)) (VEv.bool false)) (nt (cf rfl (sk (vinB.n (tn (VRun.region (mO (tN i) rfl (fO (QF (tv (tN i) rfl) (VEv.int .i64 1) (by omega)) (aO (tN (i+1)) rfl (VRunO.nil ?_)))))))))))
  refine tn ?_
  refine ⟨(i+1:Nat),?_,?_,Wk.mk (fun k=>k) ?_ ?_ ?_⟩
  ·refine QX hI' fhc1 ?_;unfold gOk;omega
  ·omega
  ·exact (b2 (b2 bn))
  ·exact (b3 bn)
  ·exact nd rfl
 refine VRun.exit (vthn.e (vthn.e (vinB.e (tn (sr (fO (OF.assign (VEv.bool true)) (nt (rt (vb (b':=true) rfl ?_)))))))))
 (symm;rw [decide_eq_true_eq];refine ⟨?_,?_,?_,JS hI' fhc1⟩<;>assumption)
theorem ZQ (n:Nat) (g:D.Grid) (hc:g.Cells.size≤maxLen):Pure (Qr Tryz.prog (n+2)) 60 [(T.agg (Qa false g))] (tB (decide (gridOk g))):=by
 refine Pure.intro (rs:= [ResultVar.tmp 2]) Tryz.func60 rfl rfl rfl (E0:= [(0,(T.agg (Qa false g)))]) rfl ?_
 obtain ⟨hlim,hmx,hmax⟩:=QJ
 refine sr (kO (B.box (ts:=(Qa false g)) (tv (T.agg (Qa false g)) rfl) nofun rfl) (fO (OF.assign (VEv.bool false)) (nt (sq (sr (lf (tI g.Rows) rfl JD rfl rfl Q0 (cO (cS (vc (tv (tI g.Rows) rfl) (vc (VEv.int .i64 2) (vc (VEv.int .i64 6) vn))) (Yl rfl) (Zf (n+0) g.Rows 2 6) rfl rfl) (fO (Q1 (tv (tB (decide (2≤g.Rows∧g.Rows≤6))) rfl)) (mO (tB (!(decide (2≤g.Rows∧g.Rows≤6)))) rfl ?_)))))))))
 refine gn (2≤g.Rows∧g.Rows≤6) (fun fhg8_1=> ?_) fun fhg8_1=> ?_
 ·refine QC 4 4 false 8 (ny fhg8_1) rfl rfl rfl ?_
  refine fO (OF.pickT (VEv.tmpB rfl (ny fhg8_1)) (VEv.bool true)) (mO (tB true) rfl (QC 9 10 false 14 (b:=true) rfl rfl rfl rfl (fO (OF.pickT (tv (tB true) rfl) (VEv.bool true)) (nt (ct rfl (sr (fO (OF.assign (VEv.bool false)) (nt (rt (tr (vb (b':=false) rfl ?_)))))))))))
  (symm;rw [decide_eq_false_iff_not];rintro ⟨g1,g2,g3,g4⟩;omega)
 refine Yn (tI g.Cols) (nz fhg8_1) rfl rfl rfl rfl Q7 rfl rfl Q0 (VRunO.chain (VWant.on rfl rfl (nz fhg8_1)) (cS (vc (tv (tI g.Cols) rfl) (vc (VEv.int .i64 2) (vc (VEv.int .i64 6) vn))) (Yl rfl) (Zf (n+0) g.Cols 2 6) rfl rfl) (gF (nz fhg8_1) rfl rfl (Q1 (tv (tB (decide (2≤g.Cols∧g.Cols≤6))) rfl)) (fO (OF.pickF (VEv.tmpB rfl (nz fhg8_1)) (tv (tB (!(decide (2≤g.Cols∧g.Cols≤6)))) rfl)) (mO (tB (!(decide (2≤g.Cols∧g.Cols≤6)))) rfl ?_))))
 refine gn (2≤g.Cols∧g.Cols≤6) (fun fhg14_2=> ?_) fun fhg14_2=> ?_
 ·refine QC 9 10 false 14 (ny fhg14_2) rfl rfl rfl ?_
  refine fO (OF.pickT (VEv.tmpB rfl (ny fhg14_2)) (VEv.bool true)) (nt (ct rfl (sr (fO (OF.assign (VEv.bool false)) (nt (rt (tr (vb (b':=false) rfl ?_))))))))
  (symm;rw [decide_eq_false_iff_not];rintro ⟨g1,g2,g3,g4⟩;omega)
 refine Yn (tS g.Cells) (nz fhg14_2) rfl rfl rfl rfl QD rfl rfl Z3 (gL (nz fhg14_2) rfl rfl (B.lenS (tv (tS g.Cells) rfl) U9) (Yn (tI g.Rows) (nz fhg14_2) rfl rfl rfl rfl JD rfl rfl Q0 (Yn (tI g.Cols) (nz fhg14_2) rfl rfl rfl rfl Q7 rfl rfl Q0 (gF (nz fhg14_2) rfl rfl (B.mul (n:=(g.Rows*g.Cols)) (tv (tI g.Rows) rfl) (tv (tI g.Cols) rfl) (by (refine Qlu ?_ ?_ ?_ ?_<;>omega))) (gF (nz fhg14_2) rfl rfl (xne (tv (tN g.Cells.size) rfl) (tv (tI (g.Rows*g.Cols)) rfl)) (fO (OF.pickF (VEv.tmpB rfl (nz fhg14_2)) (tv (tB (!(decide (((g.Cells.size:Nat):Int)=(g.Rows*g.Cols))))) rfl)) (nt ?_)))))))
 refine cn (((g.Cells.size:Nat):Int)=(g.Rows*g.Cols)) rfl (fun fhc0=> ?_) fun fhc0=> ?_
 ·refine sr ?_
  refine fO (OF.assign (VEv.bool false)) (nt (rt (tr (vb (b':=false) rfl ?_))))
  (symm;rw [decide_eq_false_iff_not];rintro ⟨g1,g2,g3,g4⟩;omega)
 refine sk (tn (sq (sr (lf (tS g.Cells) rfl QD rfl rfl Z3 (lO (B.lenS (tv (tS g.Cells) rfl) U9) (fO (OF.move (VEv.int .i64 0)) (nt (VRun.block ?_))))))))
 refine VRun.loop (A:=Nat) (fun s_=> [(1,(T.op 0 0)),(27,(tN g.Cells.size)),(28,(tN s_))]) (fun s_=>Q3 [(0,(Obj.cells (Qa false g)))]) 1 (fun s_=>s_≤g.Cells.size∧∀j,j<s_→gOk g.Cells j) (fun s_=>g.Cells.size - s_) (0:Nat) ?_ (Wk.mk (fun k=>k) ?_ ?_ ?_) ?_
 ·exact ⟨Nat.zero_le _,fun j hj=>by omega⟩
 ·exact (b2 (b2 (b2 bn)))
 ·exact (b3 bn)
 ·exact nd rfl
 rintro i (hI':i≤g.Cells.size∧∀j,j<i→gOk g.Cells j)
 show VRun _ _ _ [(1,(T.op 0 0)),(27,(tN g.Cells.size)),(28,(tN i))] (Q3 [(0,(Obj.cells (Qa false g)))]) 1 _
 have hI1:=hI'.1
 refine sr (fO (Zt (tv (tN i) rfl) (tv (tN g.Cells.size) rfl)) (nt (sq ?_)))
 refine cd (i<g.Cells.size) rfl (fun fhc1=> ?_) fun fhc1=> ?_
 ·refine sk ?_
  refine tn (sq (VRun.block (sr (mO (tN i) rfl (aO (tN i) rfl (nt (sr (lf (tS g.Cells) rfl QD rfl rfl Z3 (mO (tN i) rfl ?_)))))))))
  have hb3:i<g.Cells.size:=(by omega)
  refine fO (xix (tv (tS g.Cells) rfl) (tv (tN i) rfl) hb3 U9) (fO (xne (tv (T.int .u8 (QB g.Cells i)) rfl) (VEv.int .u8 35)) (mO (tB (!(decide (QB g.Cells i=35)))) rfl ?_))
  refine gn (QB g.Cells i=35) (fun fhg36_4=> ?_) fun fhg36_4=> ?_
  ·refine Yn (tS g.Cells) (ny fhg36_4) rfl rfl rfl rfl QD rfl rfl Z3 ?_
   refine gF (ny fhg36_4) rfl rfl (OF.move (tv (tN i) rfl)) ?_
   have hb5:i<g.Cells.size:=(by omega)
   refine gF (ny fhg36_4) rfl rfl (xix (tv (tS g.Cells) rfl) (tv (tN i) rfl) hb5 U9) (gF (ny fhg36_4) rfl rfl (xne (tv (T.int .u8 (QB g.Cells i)) rfl) (VEv.int .u8 46)) (fO (OF.pickT (VEv.tmpB rfl (ny fhg36_4)) (tv (tB (!(decide (QB g.Cells i=46)))) rfl)) (nt ?_)))
   refine cn (QB g.Cells i=46) rfl (fun fhc2=> ?_) fun fhc2=> ?_
   ·refine sr ?_
    refine fO (OF.assign (VEv.bool false)) (nt (rt (vinB.r (tr (tr (vinB.r (tr (vb (b':=false) rfl ?_))))))))
    (symm;rw [decide_eq_false_iff_not];rintro ⟨g1,g2,g3,g4⟩;(have:=g4 i fhc1;unfold gOk at this;omega))
   refine sk (vinB.n (tn (VRun.region (fO (QF (tv (tN i) rfl) (VEv.int .i64 1) (by omega)) (mO (tN (i+1)) rfl (VRunO.nil (tn ?_)))))))
   refine ⟨(i+1:Nat),?_,?_,Wk.mk (fun k=>k) ?_ ?_ ?_⟩
   ·refine QX hI' fhc1 ?_;unfold gOk;omega
   ·omega
   ·exact (b2 (b2 (b2 bn)))
   ·exact (b3 bn)
   ·exact nd rfl
  refine QC 5 5 true 36 (nz fhg36_4) rfl rfl rfl (fO (OF.pickF (VEv.tmpB rfl (nz fhg36_4)) (VEv.bool false)) (nt (cf rfl (sk (vinB.n (tn (VRun.region (fO (QF (tv (tN i) rfl) (VEv.int .i64 1) (by omega)) (mO (tN (i+1)) rfl (VRunO.nil (tn ?_)))))))))))
  refine ⟨(i+1:Nat),?_,?_,Wk.mk (fun k=>k) ?_ ?_ ?_⟩
  ·refine QX hI' fhc1 ?_;unfold gOk;omega
  ·omega
  ·exact (b2 (b2 (b2 bn)))
  ·exact (b3 bn)
  ·exact nd rfl
 refine VRun.exit (vthn.e (vthn.e (vinB.e (tn (sr (fO (OF.assign (VEv.bool true)) (nt (rt (vb (b':=true) rfl ?_)))))))))
 (symm;rw [decide_eq_true_eq];refine ⟨?_,?_,?_,JS hI' fhc1⟩<;>assumption)
noncomputable section
def Zu (s:ByteArray):Nat→ByteArray
 | 0=>⟨#[]⟩
 | i+1=>s.extract i (i+1)++Zu s i
def back (s:ByteArray):ByteArray:=if s.size≤100 then Zu s s.size else ⟨#[]⟩
theorem QcD {s:ByteArray}:∀ {i:Nat},i≤s.size→(Zu s i).size=i
 | 0,_=>rfl
 | i+1,h=>by
  simp only [Zu,ByteArray.size_append,ByteArray.size_extract,QcD (show i≤s.size by omega)]
  omega
theorem Qfq {s:ByteArray} {i:Nat} (h1:i≤s.size) (h2:s.size≤100∨i=0) (h3:¬i<s.size∨¬s.size≤100):Zu s i=back s:=by
 unfold back
 split
 ·rw [show i=s.size by omega]
 ·rw [show i=0 by omega];rfl
def Yt (g:D.Grid):D.Grid:=if gridOk g then D.Grid.mk g.Rows g.Cols (back g.Cells) else D.Grid.mk 0 0 ByteArray.empty
def QcG (g:D.Grid):Prop:=gridOk g∧D.Grid.mk g.Rows g.Cols (back g.Cells)=g
instance (g:D.Grid):Decidable (QcG g):=Classical.propDecidable _
theorem QbV {g:D.Grid} (h:gridOk g):Yt g=g↔QcG g:=by
 unfold Yt QcG
 rw [if_pos h]
 exact ⟨fun e=>⟨h,e⟩,fun e=>e.2⟩
end
theorem Qco (n:Nat) (s:ByteArray) (hc:s.size≤maxLen):Pure (Qr Tryz.prog (n+1)) 130 [(tS s)] (tS (back s)):=by
 refine Pure.intro (rs:= [ResultVar.tmp 2]) Tryz.func130 rfl rfl rfl (E0:= [(0,(tS s))]) rfl ?_
 obtain ⟨hlim,hmx,hmax⟩:=QJ
 refine sr (fO (OF.assign (VEv.str (⟨#[]⟩:ByteArray))) (nt (sr (fO (OF.assign (VEv.str (⟨#[]⟩:ByteArray))) (nt (sq (sr (fO (OF.assign (VEv.int .i64 0)) (nt (VRun.block ?_))))))))))
 refine VRun.loop (A:=Nat) (fun s_=> [(0,(tS s)),(2,(tS (⟨#[]⟩:ByteArray))),(3,(tS (Zu s s_))),(4,(tN s_))]) (fun s_=>Q3 []) 0 (fun s_=>s_≤s.size∧(s.size≤100∨s_=0)) (fun s_=>s.size - s_) (0:Nat) ?_ (Wk.mk (fun k=>k) ?_ ?_ ?_) ?_
 ·exact ⟨Nat.zero_le _, .inr rfl⟩
 ·exact (b2 (b2 (bc ⟨(congrArg T.str (show (⟨#[]⟩:ByteArray)=Zu s 0 from (by rfl))),rfl⟩ (b2 bn))))
 ·exact bn
 ·exact nd rfl
 rintro i (hI':i≤s.size∧(s.size≤100∨i=0))
 show VRun _ _ _ [(0,(tS s)),(2,(tS (⟨#[]⟩:ByteArray))),(3,(tS (Zu s i))),(4,(tN i))] (Q3 []) 0 _
 have hI1:=hI'.1
 have hbs:=QcD hI1
 refine sq (sr (mO (tN i) rfl (mO (tS s) rfl (lO (B.lenS (tv (tS s) rfl) U9) (fO (Zt (tv (tN i) rfl) (tv (tN s.size) rfl)) (mO (tB (decide (i<s.size))) rfl ?_))))))
 refine gw (i<s.size) (fun fhg9_1=> ?_) fun fhg9_1=> ?_
 ·refine gF (dy fhg9_1) rfl rfl (OF.move (tv (tS s) rfl)) ?_
  refine gL (dy fhg9_1) rfl rfl (B.lenS (tv (tS s) rfl) U9) (gF (dy fhg9_1) rfl rfl (B.leq (c:=(decide (s.size≤100))) (tv (tN s.size) rfl) (VEv.int .i64 100) (by exact Q8 (by omega))) (fO (OF.pickT (VEv.tmpB rfl (dy fhg9_1)) (tv (tB (decide (s.size≤100))) rfl)) (nt ?_)))
  refine cd (s.size≤100) rfl (fun fhc0=> ?_) fun fhc0=> ?_
  ·refine sk ?_
   refine tn (sq (VRun.block (VRun.region (mO (tS s) rfl (mO (tN i) rfl (mO (tN i) rfl (fO (QF (tv (tN i) rfl) (VEv.int .i64 1) (by omega)) (lO (OL.sliceS (i:=i) (j:=(i+1)) (tv (tS s) rfl) (tv (tN i) rfl) (tv (tN (i+1)) rfl) rfl rfl (by omega) (by omega) U9) (mO (tS (Zu s i)) rfl (fO (B.sadd (tv (tS (s.extract i (i+1))) rfl) (tv (tS (Zu s i)) rfl) (by (simp only [ByteArray.size_extract];omega))) (aO (tS ((s.extract i (i+1))++Zu s i)) rfl ?_)))))))))))
   refine VRunO.nil (vinB.n (tn (VRun.region (mO (tN i) rfl (fO (QF (tv (tN i) rfl) (VEv.int .i64 1) (by omega)) (aO (tN (i+1)) rfl (VRunO.nil (tn ?_))))))))
   refine ⟨(i+1:Nat),?_,?_,Wk.mk (fun k=>k) ?_ ?_ ?_⟩
   ·exact ⟨by omega, .inl (by omega)⟩
   ·omega
   ·exact (b2 (b2 (bc ⟨(congrArg T.str (show ((s.extract i (i+1))++Zu s i)=Zu s (i+1) from (by rfl))),rfl⟩ (b2 bn))))
   ·exact bn
   ·exact nd rfl
  refine VRun.exit (vthn.e (vthn.e (vinB.e (tn (sr (mO (tS (Zu s i)) rfl (aO (tS (Zu s i)) rfl (nt (rt ?_)))))))))
  refine vfin.eq (r':=(tS (Zu s i))) ?_ (vfin.r (VRes.tmp (t:=(tS (Zu s i))) rfl VRes.nil) (Give.str _))
  refine congrArg T.str ?_
  refine Qfq hI1 hI'.2 ?_;omega
 refine QC 3 4 true 9 (dz fhg9_1) rfl rfl rfl (fO (OF.pickF (VEv.tmpB rfl (dz fhg9_1)) (VEv.bool false)) (nt (cf rfl (VRun.exit (vthn.e (vthn.e (vinB.e (tn (sr (mO (tS (Zu s i)) rfl (aO (tS (Zu s i)) rfl ?_)))))))))))
 refine nt (rt ?_)
 refine vfin.eq (r':=(tS (Zu s i))) ?_ (vfin.r (VRes.tmp (t:=(tS (Zu s i))) rfl VRes.nil) (Give.str _))
 refine congrArg T.str ?_
 refine Qfq hI1 hI'.2 ?_;omega
theorem QcU (n:Nat) (g:D.Grid) (hc:g.Cells.size≤maxLen):Pure (Qr Tryz.prog (n+3)) 97 [(T.agg (Qa false g))] (T.agg (Qa true (Yt g))):=by
 refine Pure.intro (rs:= [ResultVar.cell 2 33]) Tryz.func97 rfl rfl rfl (E0:= [(0,(T.agg (Qa false g)))]) rfl ?_
 obtain ⟨hlim,hmx,hmax⟩:=QJ
 refine sr (kO (B.box (ts:=(Qa false g)) (tv (T.agg (Qa false g)) rfl) nofun rfl) (kO (B.alloc (t:=(T.agg [(tN 0),(tN 0),(tS ByteArray.empty)])) (ts:= [(tN 0),(tN 0),(tS ByteArray.empty)]) Qhx Qjq nofun (fun _=> .agg _ _ rfl (YD (RL.cons (.int _ _) (RL.cons (.int _ _) (RL.cons (.str _) (RL.nil _)))))) rfl) (nt (sq (sr (lO (OL.loadOn (us:=(Qa false g)) (tv (T.op 0 0) rfl) rfl QY QR (lb rfl) rfl) (cO (cS (vc (tv (T.agg (Qa false g)) rfl) vn) (LendL.cons (lg Qt) ln) (Zr (n+0) g (by assumption)) rfl rfl) (fO (Q1 (tv (tB (decide (gridOk g))) rfl)) (nt ?_)))))))))
 refine cn (gridOk g) rfl (fun fhc0=> ?_) fun fhc0=> ?_
 ·refine sr ?_
  refine fO (OF.build (l:= []) (zs:= [(tN 0),(tN 0),(tS ByteArray.empty)]) (out:= [(tN 0),(tN 0),(tS ByteArray.empty)]) VEvp.nil bn Tryz.underlying33 Qhx (fun _=>RL.cons (.int _ _) (RL.cons (.int _ _) (RL.cons (.str _) (RL.nil _)))) (by kernel_rfl) (by kernel_rfl)) (cO (B.storeW (us:= [(tN 0),(tN 0),(tS ByteArray.empty)]) (tv (T.op 1 0) rfl) (tv (T.agg [(tN 0),(tN 0),(tS ByteArray.empty)]) rfl) nofun rfl rfl rfl Qgm QR (bc rfl (bc rfl (bc rfl bn)))) (nt (rt (tr ?_))))
  refine vfin.eq (r':=(T.agg [(tN 0),(tN 0),(tS ByteArray.empty)])) ?_ (vfin.r (VRes.celln (ws:= [(tN 0),(tN 0),(tS ByteArray.empty)]) rfl rfl QY QR (lb rfl) rfl VRes.nil) (Give.agg (GiveL.cons (Give.int _ _) (GiveL.cons (Give.int _ _) (GiveL.cons (Give.str _) GiveL.nil (by decide)) (by decide)) (by decide))))
  (rw [Yt,if_neg fhc0];rfl)
 refine sk (tn (sr (lf (tS g.Cells) rfl QD rfl rfl Z3 (cO (cS (vc (tv (tS g.Cells) rfl) vn) (Yl rfl) (Qco (n+1) g.Cells (by assumption)) rfl rfl) (fO (OF.fieldAddrO (tv (T.op 0 0) rfl) QD) (cO (B.storeO (us:= [(tS (back g.Cells))]) (ws:= [(tI g.Rows),(tI g.Cols),(tS (back g.Cells))]) (tv (T.op 0 2) rfl) (tv (tS (back g.Cells)) rfl) nofun rfl rfl (lb rfl) if9 sz9 (bc rfl bn) rfl) (nt (sr (lO (OL.loadOn (us:= [(tI g.Rows),(tI g.Cols),(tS (back g.Cells))]) (tv (T.op 0 0) rfl) rfl QY QR (lb rfl) rfl) (cO (B.storeW (us:= [(tI g.Rows),(tI g.Cols),(tS (back g.Cells))]) (tv (T.op 1 0) rfl) (tv (T.agg [(tI g.Rows),(tI g.Cols),(tS (back g.Cells))]) rfl) nofun rfl rfl rfl Qgm QR (bc rfl (bc rfl (bc rfl bn)))) (nt ?_)))))))))))
 refine rt ?_
 refine vfin.eq (r':=(T.agg [(tI g.Rows),(tI g.Cols),(tS (back g.Cells))])) ?_ (vfin.r (VRes.celln (ws:= [(tI g.Rows),(tI g.Cols),(tS (back g.Cells))]) rfl rfl QY QR (lb rfl) rfl VRes.nil) (Give.agg (GiveL.cons (Give.int _ _) (GiveL.cons (Give.int _ _) (GiveL.cons (Give.str _) GiveL.nil (by decide)) (by decide)) (by decide))))
 (rw [Yt,if_pos fhc0];rfl)
theorem Qa3 (n:Nat) (g:D.Grid) (hc:g.Cells.size≤maxLen):Pure (Qr Tryz.prog (n+4)) 73 [(T.agg (Qa false g))] (tB (decide (QcG g))):=by
 refine Pure.intro (rs:= [ResultVar.tmp 2]) Tryz.func73 rfl rfl rfl (E0:= [(0,(T.agg (Qa false g)))]) rfl ?_
 obtain ⟨hlim,hmx,hmax⟩:=QJ
 refine sr (kO (B.box (ts:=(Qa false g)) (tv (T.agg (Qa false g)) rfl) nofun rfl) (fO (OF.assign (VEv.bool false)) (nt (sq (VRun.draw (B:= [[],[0],[0,1],[1,0,2],[2,0,1,3],[1,0,2],[5,3,1,0,2,4],[4,3,5,6,1,0,2],[2,0,1,6,5,3,4,7]]) (by kernel_rfl) (by kernel_rfl) (lD (OL.loadOn (us:=(Qa false g)) (tv (T.op 0 0) rfl) rfl QY QR (lb rfl) rfl) rfl rfl (VRunD.quiet (bi:= [0]) rfl VWant.always rfl rfl rfl bn (cS (vc (tv (T.agg (Qa false g)) rfl) vn) (LendL.cons (lg Qt) ln) (Zr (n+1) g (by assumption)) rfl rfl) (mD (tB (decide (gridOk g))) rfl rfl ?_))))))))
 refine gw (gridOk g) (fun fhg5_1=> ?_) fun fhg5_1=> ?_
 ·refine VRunD.look rfl (VWant.on rfl rfl (dy fhg5_1)) rfl (OL.loadOn (us:=(Qa false g)) (tv (T.op 0 0) rfl) rfl QY QR (lb rfl) rfl) ?_
  refine VRunD.quiet (bi:= [2,0,1,3]) rfl (VWant.on rfl rfl (dy fhg5_1)) rfl rfl rfl bn (cS (vc (tv (T.agg (Qa false g)) rfl) vn) (LendL.cons (lg Qt) ln) (QcU (n+0) g (by assumption)) rfl rfl) (VRunD.look rfl (VWant.on rfl rfl (dy fhg5_1)) rfl (OL.loadOn (us:=(Qa false g)) (tv (T.op 0 0) rfl) rfl QY QR (lb rfl) rfl) (VRunD.free rfl (VWant.on rfl rfl (dy fhg5_1)) rfl (B.eql33 (a:=Yt g) (b:=g) (m:=true) (m':=false) (tv (T.agg (Qa true (Yt g))) rfl) (tv (T.agg (Qa false g)) rfl)) (fD (OF.pickT (VEv.tmpB rfl (dy fhg5_1)) (tv (tB (decide (Yt g=g))) rfl)) rfl rfl (fD (OF.assign (tv (tB (decide (Yt g=g))) rfl)) rfl rfl (VRunD.nil (tn (rt (vb (b':=(decide (Yt g=g))) rfl ?_))))))))
  (refine Q8 ?_;refine QbV ?_;assumption)
 refine oD rfl rfl (dz fhg5_1) rfl (oD rfl rfl (dz fhg5_1) rfl (oD rfl rfl (dz fhg5_1) rfl (oD rfl rfl (dz fhg5_1) rfl (fD (OF.pickF (VEv.tmpB rfl (dz fhg5_1)) (VEv.bool false)) rfl rfl (fD (OF.assign (tv (tB false) rfl)) rfl rfl (VRunD.nil (tn (rt (vb (b':=false) rfl ?_)))))))))
 (symm;rw [decide_eq_false_iff_not];intro h;have:=h.1;contradiction)
noncomputable section
theorem Qey (l:List Int):(Yu l).data.toList=l.map fun n=>UInt8.ofNat n.toNat:=by
 have h:∀(l:List Int) (r:ByteArray),(l.foldl (fun r n=>r.push (UInt8.ofNat n.toNat)) r).data.toList=r.data.toList++l.map fun n=>UInt8.ofNat n.toNat:=by
  intro l
  induction l with
  | nil=>intro r;simp
  | cons n l ih=>intro r;rw [List.foldl_cons,ih];simp [ByteArray.push]
 simpa [Yu] using h l ByteArray.empty
theorem Qeo {a b:ByteArray} (h:a.data.toList=b.data.toList):a=b:=by
 cases a;cases b
 simp only at h
 congr 1
 exact Array.toList_inj.1 h
theorem QiQ (s:ByteArray):(bys s).map (fun n=>UInt8.ofNat n.toNat)=s.data.toList:=by
 simp [bys,Function.comp_def]
theorem Qcv {s:ByteArray}:∀ {i:Nat},i≤s.size→(Zu s i).data.toList=(s.data.toList.take i).reverse
 | 0,_=>rfl
 | i+1,h=>by
  have hi:i<s.data.toList.length:=by rw [Array.length_toList];exact h
  rw [Zu,ByteArray.data_append,Array.toList_append,Qcv (show i≤s.size by omega),List.take_add_one,List.getElem?_eq_getElem hi,List.reverse_append]
  congr 1
  rw [ByteArray.data_extract,Array.toList_extract,List.extract_eq_take_drop]
  simp [List.drop_eq_getElem_cons hi]
theorem Qid {s:ByteArray} (h:s.size≤100):Yu (bys s).reverse=back s:=by
 unfold back
 rw [if_pos h]
 refine Qeo ?_
 rw [Qey,List.map_reverse,QiQ,Qcv (Nat.le_refl _),List.take_of_length_le (by rw [Array.length_toList];exact Nat.le_refl _)]
theorem Qin {s:ByteArray} (h:100<s.size):back s=⟨#[]⟩:=by
 unfold back
 rw [if_neg (by omega)]
end
theorem Qcn (n:Nat) (s:ByteArray) (hc:s.size≤maxLen):Pure (Qr Tryz.prog (n+2)) 135 [(tS s)] (tS (back s)):=by
 refine Pure.intro (rs:= [ResultVar.tmp 2]) Tryz.func135 rfl rfl rfl (E0:= [(0,(tS s))]) rfl ?_
 obtain ⟨hlim,hmx,hmax⟩:=QJ
 refine sr (fO (OF.assign (VEv.str (⟨#[]⟩:ByteArray))) (nt (sq (sr (mO (tS s) rfl (lO (B.lenS (tv (tS s) rfl) U9) (fO (B.gtr (c:=(decide (100<s.size))) (tv (tN s.size) rfl) (VEv.int .i64 100) (by exact Q8 (by omega))) (nt ?_))))))))
 refine cd (100<s.size) rfl (fun fhc0=> ?_) fun fhc0=> ?_
 ·refine sr ?_
  refine fO (OF.assign (VEv.str (⟨#[]⟩:ByteArray))) (nt (rt (tr ?_)))
  refine vfin.eq (r':=(tS (⟨#[]⟩:ByteArray))) ?_ (vfin.r (VRes.tmp (t:=(tS (⟨#[]⟩:ByteArray))) rfl VRes.nil) (Give.str _))
  refine congrArg T.str ?_
  exact (Qin fhc0).symm
 refine sk (tn (sr (mO (tS s) rfl (kO (B.convSB (tv (tS s) rfl) U9 U92 U5) (aO (T.os 1 0 0 (((bys s).map (QW true)).length)) rfl (nt (sr (mO (T.os 1 0 0 (((bys s).map (QW true)).length)) rfl (cO (OC.callMut (rows:=((bys s).map (QW true))) (rows':=(((bys s).reverse).map (QW true))) rfl (vc (tv (T.os 1 0 0 (((bys s).map (QW true)).length)) rfl) vn) rfl rfl bn (Zq (fun _=>rfl) _) (Zq (fun _=>rfl) _) (YW (n+0) (bys s) (by (rw [QgS];omega)))) (nt (sr ?_)))))))))))
 refine mO (T.os 1 0 0 (((bys s).map (QW true)).length)) rfl (lO (B.convBS (l:=(bys s).reverse) (tv (T.os 1 0 0 (((bys s).map (QW true)).length)) rfl) rfl (by simp only [List.length_map,List.length_reverse,List.length_set]) U92 U5 U9) (aO (tS (Yu ((bys s).reverse))) rfl (nt (rt ?_))))
 refine vfin.eq (r':=(tS (Yu ((bys s).reverse)))) ?_ (vfin.r (VRes.tmp (t:=(tS (Yu ((bys s).reverse)))) rfl VRes.nil) (Give.str _))
 refine congrArg T.str ?_
 refine Qid ?_;omega
theorem QcK (n:Nat) (g:D.Grid) (hc:g.Cells.size≤maxLen):Pure (Qr Tryz.prog (n+3)) 103 [(T.agg (Qa false g))] (T.agg (Qa true (Yt g))):=by
 refine Pure.intro (rs:= [ResultVar.cell 2 33]) Tryz.func103 rfl rfl rfl (E0:= [(0,(T.agg (Qa false g)))]) rfl ?_
 obtain ⟨hlim,hmx,hmax⟩:=QJ
 refine sr (kO (B.box (ts:=(Qa false g)) (tv (T.agg (Qa false g)) rfl) nofun rfl) (kO (B.alloc (t:=(T.agg [(tN 0),(tN 0),(tS ByteArray.empty)])) (ts:= [(tN 0),(tN 0),(tS ByteArray.empty)]) Qhx Qjq nofun (fun _=> .agg _ _ rfl (YD (RL.cons (.int _ _) (RL.cons (.int _ _) (RL.cons (.str _) (RL.nil _)))))) rfl) (nt (sq (sr (lO (OL.loadOn (us:=(Qa false g)) (tv (T.op 0 0) rfl) rfl QY QR (lb rfl) rfl) (cO (cS (vc (tv (T.agg (Qa false g)) rfl) vn) (LendL.cons (lg Qt) ln) (ZQ (n+0) g (by assumption)) rfl rfl) (fO (Q1 (tv (tB (decide (gridOk g))) rfl)) (nt ?_)))))))))
 refine cn (gridOk g) rfl (fun fhc0=> ?_) fun fhc0=> ?_
 ·refine sr ?_
  refine fO (OF.build (l:= []) (zs:= [(tN 0),(tN 0),(tS ByteArray.empty)]) (out:= [(tN 0),(tN 0),(tS ByteArray.empty)]) VEvp.nil bn Tryz.underlying33 Qhx (fun _=>RL.cons (.int _ _) (RL.cons (.int _ _) (RL.cons (.str _) (RL.nil _)))) (by kernel_rfl) (by kernel_rfl)) (cO (B.storeW (us:= [(tN 0),(tN 0),(tS ByteArray.empty)]) (tv (T.op 1 0) rfl) (tv (T.agg [(tN 0),(tN 0),(tS ByteArray.empty)]) rfl) nofun rfl rfl rfl Qgm QR (bc rfl (bc rfl (bc rfl bn)))) (nt (rt (tr ?_))))
  refine vfin.eq (r':=(T.agg [(tN 0),(tN 0),(tS ByteArray.empty)])) ?_ (vfin.r (VRes.celln (ws:= [(tN 0),(tN 0),(tS ByteArray.empty)]) rfl rfl QY QR (lb rfl) rfl VRes.nil) (Give.agg (GiveL.cons (Give.int _ _) (GiveL.cons (Give.int _ _) (GiveL.cons (Give.str _) GiveL.nil (by decide)) (by decide)) (by decide))))
  (rw [Yt,if_neg fhc0];rfl)
 refine sk (tn (sr (lf (tS g.Cells) rfl QD rfl rfl Z3 (cO (cS (vc (tv (tS g.Cells) rfl) vn) (Yl rfl) (Qcn (n+0) g.Cells (by assumption)) rfl rfl) (fO (OF.fieldAddrO (tv (T.op 0 0) rfl) QD) (cO (B.storeO (us:= [(tS (back g.Cells))]) (ws:= [(tI g.Rows),(tI g.Cols),(tS (back g.Cells))]) (tv (T.op 0 2) rfl) (tv (tS (back g.Cells)) rfl) nofun rfl rfl (lb rfl) if9 sz9 (bc rfl bn) rfl) (nt (sr (lO (OL.loadOn (us:= [(tI g.Rows),(tI g.Cols),(tS (back g.Cells))]) (tv (T.op 0 0) rfl) rfl QY QR (lb rfl) rfl) (cO (B.storeW (us:= [(tI g.Rows),(tI g.Cols),(tS (back g.Cells))]) (tv (T.op 1 0) rfl) (tv (T.agg [(tI g.Rows),(tI g.Cols),(tS (back g.Cells))]) rfl) nofun rfl rfl rfl Qgm QR (bc rfl (bc rfl (bc rfl bn)))) (nt ?_)))))))))))
 refine rt ?_
 refine vfin.eq (r':=(T.agg [(tI g.Rows),(tI g.Cols),(tS (back g.Cells))])) ?_ (vfin.r (VRes.celln (ws:= [(tI g.Rows),(tI g.Cols),(tS (back g.Cells))]) rfl rfl QY QR (lb rfl) rfl VRes.nil) (Give.agg (GiveL.cons (Give.int _ _) (GiveL.cons (Give.int _ _) (GiveL.cons (Give.str _) GiveL.nil (by decide)) (by decide)) (by decide))))
 (rw [Yt,if_pos fhc0];rfl)
theorem Qbg (n:Nat) (g:D.Grid) (hc:g.Cells.size≤maxLen):Pure (Qr Tryz.prog (n+4)) 78 [(T.agg (Qa false g))] (tB (decide (QcG g))):=by
 refine Pure.intro (rs:= [ResultVar.tmp 2]) Tryz.func78 rfl rfl rfl (E0:= [(0,(T.agg (Qa false g)))]) rfl ?_
 obtain ⟨hlim,hmx,hmax⟩:=QJ
 refine sr (kO (B.box (ts:=(Qa false g)) (tv (T.agg (Qa false g)) rfl) nofun rfl) (fO (OF.assign (VEv.bool false)) (nt (sq (VRun.draw (B:= [[],[0],[0,1],[1,0,2],[1,0,2],[2,0,1,4],[4,5,2,0,1,3],[3,5,4,6,1,0,2],[2,0,1,6,4,5,3,7]]) (by kernel_rfl) (by kernel_rfl) (lD (OL.loadOn (us:=(Qa false g)) (tv (T.op 0 0) rfl) rfl QY QR (lb rfl) rfl) rfl rfl (VRunD.quiet (bi:= [0]) rfl VWant.always rfl rfl rfl bn (cS (vc (tv (T.agg (Qa false g)) rfl) vn) (LendL.cons (lg Qt) ln) (ZQ (n+1) g (by assumption)) rfl rfl) (mD (tB (decide (gridOk g))) rfl rfl ?_))))))))
 refine gw (gridOk g) (fun fhg5_1=> ?_) fun fhg5_1=> ?_
 ·refine VRunD.look rfl (VWant.on rfl rfl (dy fhg5_1)) rfl (OL.loadOn (us:=(Qa false g)) (tv (T.op 0 0) rfl) rfl QY QR (lb rfl) rfl) ?_
  refine VRunD.look rfl (VWant.on rfl rfl (dy fhg5_1)) rfl (OL.loadOn (us:=(Qa false g)) (tv (T.op 0 0) rfl) rfl QY QR (lb rfl) rfl) (VRunD.quiet (bi:= [2,0,1,4]) rfl (VWant.on rfl rfl (dy fhg5_1)) rfl rfl rfl bn (cS (vc (tv (T.agg (Qa false g)) rfl) vn) (LendL.cons (lg Qt) ln) (QcK (n+0) g (by assumption)) rfl rfl) (VRunD.free rfl (VWant.on rfl rfl (dy fhg5_1)) rfl (B.eql33 (a:=g) (b:=Yt g) (m:=false) (m':=true) (tv (T.agg (Qa false g)) rfl) (tv (T.agg (Qa true (Yt g))) rfl)) (fD (OF.pickT (VEv.tmpB rfl (dy fhg5_1)) (tv (tB (decide (g=Yt g))) rfl)) rfl rfl (fD (OF.assign (tv (tB (decide (g=Yt g))) rfl)) rfl rfl (VRunD.nil (tn (rt (vb (b':=(decide (g=Yt g))) rfl ?_))))))))
  (refine Q8 ⟨fun e=> ?_,fun e=> ?_⟩<;>first | exact (QbV ‹_›).1 e.symm | exact ((QbV ‹_›).2 e).symm)
 refine oD rfl rfl (dz fhg5_1) rfl (oD rfl rfl (dz fhg5_1) rfl (oD rfl rfl (dz fhg5_1) rfl (oD rfl rfl (dz fhg5_1) rfl (fD (OF.pickF (VEv.tmpB rfl (dz fhg5_1)) (VEv.bool false)) rfl rfl (fD (OF.assign (tv (tB false) rfl)) rfl rfl (VRunD.nil (tn (rt (vb (b':=false) rfl ?_)))))))))
 (symm;rw [decide_eq_false_iff_not];intro h;have:=h.1;contradiction)
end Go.Proofs.YthifchndolccgaaGreatDoor.AE
namespace Go.Proofs.YthifchndolccgaaGreatDoor.AE
open Go Go.RowKit
set_option linter.unusedVariables false
set_option linter.unusedSimpArgs false
set_option maxRecDepth 20000
set_option maxHeartbeats 2000000
noncomputable section
def ZR (c f:Int):Prop:=(c=35→f=35)∧(c=46→f=63∨(97≤f∧f≤122))
def Qje (g:D.Grid) (f:ByteArray):Prop:=gridOk g∧f.size=g.Cells.size∧∀j,j<f.size→ZR (QB g.Cells j) (QB f j)
instance (g:D.Grid) (f:ByteArray):Decidable (Qje g f):=Classical.propDecidable _
end
theorem Qjm (n:Nat) (g:D.Grid) (f:ByteArray) (hc:g.Cells.size≤maxLen) (hf:f.size≤maxLen):Pure (Qr Tryz.prog (n+3)) 119 [(T.agg (Qa false g)),(tS f)] (tB (decide (Qje g f))):=by
 refine Pure.intro (rs:= [ResultVar.tmp 4]) Tryz.func119 rfl rfl rfl (E0:= [(0,(T.agg (Qa false g))),(1,(tS f))]) rfl ?_
 obtain ⟨hlim,hmx,hmax⟩:=QJ
 refine sr (kO (B.box (ts:=(Qa false g)) (tv (T.agg (Qa false g)) rfl) nofun rfl) (fO (OF.assign (VEv.bool false)) (nt (sq (sr (lO (OL.loadOn (us:=(Qa false g)) (tv (T.op 0 0) rfl) rfl QY QR (lb rfl) rfl) (cO (cS (vc (tv (T.agg (Qa false g)) rfl) vn) (LendL.cons (lg Qt) ln) (Zr (n+0) g (by assumption)) rfl rfl) (fO (Q1 (tv (tB (decide (gridOk g))) rfl)) (mO (tB (!(decide (gridOk g)))) rfl ?_)))))))))
 refine gn (gridOk g) (fun fhg10_1=> ?_) fun fhg10_1=> ?_
 ·refine QC 6 3 false 10 (ny fhg10_1) rfl rfl rfl ?_
  refine fO (OF.pickT (VEv.tmpB rfl (ny fhg10_1)) (VEv.bool true)) (nt (ct rfl (sr (fO (OF.assign (VEv.bool false)) (nt (rt (tr (vb (b':=false) rfl ?_))))))))
  (symm;rw [decide_eq_false_iff_not];rintro ⟨g1,g2,g3⟩;contradiction)
 refine gF (nz fhg10_1) rfl rfl (OF.move (tv (tS f) rfl)) (gL (nz fhg10_1) rfl rfl (B.lenS (tv (tS f) rfl) U9) (Yn (tS g.Cells) (nz fhg10_1) rfl rfl rfl rfl QD rfl rfl Z3 (gL (nz fhg10_1) rfl rfl (B.lenS (tv (tS g.Cells) rfl) U9) (gF (nz fhg10_1) rfl rfl (QhC (tv (tN f.size) rfl) (tv (tN g.Cells.size) rfl)) (fO (OF.pickF (VEv.tmpB rfl (nz fhg10_1)) (tv (tB (!(decide (f.size=g.Cells.size)))) rfl)) (nt ?_))))))
 refine cn (f.size=g.Cells.size) rfl (fun fhc0=> ?_) fun fhc0=> ?_
 ·refine sr ?_
  refine fO (OF.assign (VEv.bool false)) (nt (rt (tr (vb (b':=false) rfl ?_))))
  (symm;rw [decide_eq_false_iff_not];rintro ⟨g1,g2,g3⟩;contradiction)
 refine sk (tn (sq (sr (fO (OF.assign (VEv.int .i64 0)) (nt (VRun.block ?_))))))
 refine VRun.loop (A:=Nat) (fun s_=> [(1,(tS f)),(2,(T.op 0 0)),(5,(tN s_))]) (fun s_=>Q3 [(0,(Obj.cells (Qa false g)))]) 1 (fun s_=>s_≤f.size∧∀j,j<s_→ZR (QB g.Cells j) (QB f j)) (fun s_=>f.size - s_) (0:Nat) ?_ (Wk.mk (fun k=>k) ?_ ?_ ?_) ?_
 ·exact ⟨Nat.zero_le _,fun j hj=>by omega⟩
 ·exact (b2 (b2 (b2 bn)))
 ·exact (b3 bn)
 ·exact nd rfl
 rintro i (hI':i≤f.size∧∀j,j<i→ZR (QB g.Cells j) (QB f j))
 show VRun _ _ _ [(1,(tS f)),(2,(T.op 0 0)),(5,(tN i))] (Q3 [(0,(Obj.cells (Qa false g)))]) 1 _
 have hI1:=hI'.1
 have hgo:gridOk g:=by assumption
 refine sq (sr (mO (tN i) rfl (mO (tS f) rfl (lO (B.lenS (tv (tS f) rfl) U9) (fO (Zt (tv (tN i) rfl) (tv (tN f.size) rfl)) (nt ?_))))))
 refine cd (i<f.size) rfl (fun fhc1=> ?_) fun fhc1=> ?_
 ·have hgi:=hgo.2.2.2 i (by omega)
  unfold gOk at hgi
  refine sk (tn (sq (VRun.block (sr (mO (tS f) rfl (mO (tN i) rfl ?_))))))
  have hb2:i<f.size:=(by omega)
  refine fO (xix (tv (tS f) rfl) (tv (tN i) rfl) hb2 U9) (fO (YR (tv (T.int .u8 (QB f i)) rfl) (VEv.int .u8 63)) (mO (tB (decide (QB f i=63))) rfl ?_))
  refine gw (QB f i=63) (fun fhg28_3=> ?_) fun fhg28_3=> ?_
  ·refine QC 5 4 false 28 (dy fhg28_3) rfl rfl rfl ?_
   refine JA 4 9 true 33 rfl rfl rfl (oO rfl rfl (dy fhg28_3) (fO (OF.pickT (VEv.tmpB rfl (dy fhg28_3)) (VEv.bool true)) (aO (tB true) rfl (nt (sr (lf (tS g.Cells) rfl QD rfl rfl Z3 (mO (tN i) rfl ?_)))))))
   have hb4:i<g.Cells.size:=(by omega)
   refine fO (xix (tv (tS g.Cells) rfl) (tv (tN i) rfl) hb4 U9) (fO (YR (tv (T.int .u8 (QB g.Cells i)) rfl) (VEv.int .u8 35)) (mO (tB (decide (QB g.Cells i=35))) rfl ?_))
   refine gw (QB g.Cells i=35) (fun fhg45_5=> ?_) fun fhg45_5=> ?_
   ·refine gF (dy fhg45_5) rfl rfl (OF.move (tv (tS f) rfl)) ?_
    refine gF (dy fhg45_5) rfl rfl (OF.move (tv (tN i) rfl)) ?_
    have hb6:i<f.size:=(by omega)
    refine gF (dy fhg45_5) rfl rfl (xix (tv (tS f) rfl) (tv (tN i) rfl) hb6 U9) (gF (dy fhg45_5) rfl rfl (xne (tv (T.int .u8 (QB f i)) rfl) (VEv.int .u8 35)) (fO (OF.pickT (VEv.tmpB rfl (dy fhg45_5)) (tv (tB (!(decide (QB f i=35)))) rfl)) (mO (tB (!(decide (QB f i=35)))) rfl ?_)))
    refine gn (QB f i=35) (fun fhg51_7=> ?_) fun fhg51_7=> ?_
    ·refine QC 6 11 false 51 (ny fhg51_7) rfl rfl rfl ?_
     refine JA 2 17 true 57 rfl rfl rfl (oO rfl rfl (ny fhg51_7) (fO (OF.pickT (VEv.tmpB rfl (ny fhg51_7)) (VEv.bool true)) (nt (ct rfl (sr (fO (OF.assign (VEv.bool false)) (nt (rt (vinB.r (tr (tr ?_)))))))))))
     refine vinB.r (tr (vb (b':=false) rfl ?_))
     (symm;rw [decide_eq_false_iff_not];rintro ⟨g1,g2,g3⟩;(have g4:=g3 i fhc1;unfold ZR at g4;omega))
    refine Yn (tS g.Cells) (nz fhg51_7) rfl rfl rfl rfl QD rfl rfl Z3 (gF (nz fhg51_7) rfl rfl (OF.move (tv (tN i) rfl)) ?_)
    have hb8:i<g.Cells.size:=(by omega)
    refine gF (nz fhg51_7) rfl rfl (xix (tv (tS g.Cells) rfl) (tv (tN i) rfl) hb8 U9) (gF (nz fhg51_7) rfl rfl (YR (tv (T.int .u8 (QB g.Cells i)) rfl) (VEv.int .u8 46)) (gF (nz fhg51_7) rfl rfl (OF.move (tv (tB (decide (QB g.Cells i=46))) rfl)) ?_))
    refine gw (QB g.Cells i=46) (fun fhg57_9=> ?_) fun fhg57_9=> ?_
    ·refine gF (dy fhg57_9) rfl rfl (OF.move (tv (tB true) rfl)) ?_
     refine gF (dy fhg57_9) rfl rfl (B.not (c:=false) (tv (tB true) rfl) rfl) (gF (nz fhg51_7) rfl rfl (OF.pickT (VEv.tmpB rfl (dy fhg57_9)) (tv (tB false) rfl)) (fO (OF.pickF (VEv.tmpB rfl (nz fhg51_7)) (tv (tB false) rfl)) (nt (cf rfl (sk (vinB.n (tn (VRun.region (mO (tN i) rfl (fO (QF (tv (tN i) rfl) (VEv.int .i64 1) (by omega)) (aO (tN (i+1)) rfl ?_)))))))))))
     refine VRunO.nil (tn ?_)
     refine ⟨(i+1:Nat),?_,?_,Wk.mk (fun k=>k) ?_ ?_ ?_⟩
     ·refine QX hI' fhc1 ?_;unfold ZR;omega
     ·omega
     ·exact (b2 (b2 (b2 bn)))
     ·exact (b3 bn)
     ·exact nd rfl
    refine QC 2 17 true 57 (dz fhg57_9) rfl rfl rfl (gF (nz fhg51_7) rfl rfl (OF.pickF (VEv.tmpB rfl (dz fhg57_9)) (VEv.bool false)) (fO (OF.pickF (VEv.tmpB rfl (nz fhg51_7)) (tv (tB false) rfl)) (nt (cf rfl (sk (vinB.n (tn (VRun.region (mO (tN i) rfl (fO (QF (tv (tN i) rfl) (VEv.int .i64 1) (by omega)) (aO (tN (i+1)) rfl ?_)))))))))))
    refine VRunO.nil (tn ?_)
    refine ⟨(i+1:Nat),?_,?_,Wk.mk (fun k=>k) ?_ ?_ ?_⟩
    ·refine QX hI' fhc1 ?_;unfold ZR;omega
    ·omega
    ·exact (b2 (b2 (b2 bn)))
    ·exact (b3 bn)
    ·exact nd rfl
   refine QC 4 5 true 45 (dz fhg45_5) rfl rfl rfl (fO (OF.pickF (VEv.tmpB rfl (dz fhg45_5)) (VEv.bool false)) (mO (tB false) rfl (VRunO.free (VWant.on (b:=false) rfl rfl rfl) (OF.fieldAddrO (tv (T.op 0 0) rfl) QD) (VRunO.look (VWant.on (b:=false) rfl rfl rfl) (OL.loadO1 (t:=(tS g.Cells)) (tv (T.op 0 2) rfl) rfl rfl Z3) (VRunO.free (VWant.on (b:=false) rfl rfl rfl) (OF.move (tv (tN i) rfl)) ?_)))))
   have hb10:i<g.Cells.size:=(by omega)
   refine VRunO.free (VWant.on (b:=false) rfl rfl rfl) (xix (tv (tS g.Cells) rfl) (tv (tN i) rfl) hb10 U9) (VRunO.free (VWant.on (b:=false) rfl rfl rfl) (YR (tv (T.int .u8 (QB g.Cells i)) rfl) (VEv.int .u8 46)) (VRunO.free (VWant.on (b:=false) rfl rfl rfl) (OF.move (tv (tB (decide (QB g.Cells i=46))) rfl)) ?_))
   refine gw (QB g.Cells i=46) (fun fhg57_11=> ?_) fun fhg57_11=> ?_
   ·refine gF (dy fhg57_11) rfl rfl (OF.move (tv (tB true) rfl)) ?_
    refine gF (dy fhg57_11) rfl rfl (B.not (c:=false) (tv (tB true) rfl) rfl) (VRunO.free (VWant.on (b:=false) rfl rfl rfl) (OF.pickT (VEv.tmpB rfl (dy fhg57_11)) (tv (tB false) rfl)) (fO (OF.pickF (tv (tB false) rfl) (tv (tB false) rfl)) (nt (cf rfl (sk (vinB.n (tn (VRun.region (mO (tN i) rfl (fO (QF (tv (tN i) rfl) (VEv.int .i64 1) (by omega)) (aO (tN (i+1)) rfl ?_)))))))))))
    refine VRunO.nil (tn ?_)
    refine ⟨(i+1:Nat),?_,?_,Wk.mk (fun k=>k) ?_ ?_ ?_⟩
    ·refine QX hI' fhc1 ?_;unfold ZR;omega
    ·omega
    ·exact (b2 (b2 (b2 bn)))
    ·exact (b3 bn)
    ·exact nd rfl
   refine QC 2 17 true 57 (dz fhg57_11) rfl rfl rfl (VRunO.free (VWant.on (b:=false) rfl rfl rfl) (OF.pickF (VEv.tmpB rfl (dz fhg57_11)) (VEv.bool false)) (fO (OF.pickF (tv (tB false) rfl) (tv (tB false) rfl)) (nt (cf rfl (sk (vinB.n (tn (VRun.region (mO (tN i) rfl (fO (QF (tv (tN i) rfl) (VEv.int .i64 1) (by omega)) (aO (tN (i+1)) rfl ?_)))))))))))
   refine VRunO.nil (tn ?_)
   refine ⟨(i+1:Nat),?_,?_,Wk.mk (fun k=>k) ?_ ?_ ?_⟩
   ·refine QX hI' fhc1 ?_;unfold ZR;omega
   ·omega
   ·exact (b2 (b2 (b2 bn)))
   ·exact (b3 bn)
   ·exact nd rfl
  refine gF (dz fhg28_3) rfl rfl (OF.move (tv (tS f) rfl)) (gF (dz fhg28_3) rfl rfl (OF.move (tv (tN i) rfl)) ?_)
  have hb12:i<f.size:=(by omega)
  refine gF (dz fhg28_3) rfl rfl (xix (tv (tS f) rfl) (tv (tN i) rfl) hb12 U9) (gF (dz fhg28_3) rfl rfl (xge (tv (T.int .u8 (QB f i)) rfl) (VEv.int .u8 97)) (gF (dz fhg28_3) rfl rfl (OF.move (tv (tB (decide (97≤QB f i))) rfl)) ?_))
  refine gw (97≤QB f i) (fun fhg33_13=> ?_) fun fhg33_13=> ?_
  ·refine gF (dy fhg33_13) rfl rfl (OF.move (tv (tS f) rfl)) ?_
   refine gF (dy fhg33_13) rfl rfl (OF.move (tv (tN i) rfl)) ?_
   have hb14:i<f.size:=(by omega)
   refine gF (dy fhg33_13) rfl rfl (xix (tv (tS f) rfl) (tv (tN i) rfl) hb14 U9) (gF (dy fhg33_13) rfl rfl (xle (tv (T.int .u8 (QB f i)) rfl) (VEv.int .u8 122)) (gF (dz fhg28_3) rfl rfl (OF.pickT (VEv.tmpB rfl (dy fhg33_13)) (tv (tB (decide (QB f i≤122))) rfl)) (fO (OF.pickF (VEv.tmpB rfl (dz fhg28_3)) (tv (tB (decide (QB f i≤122))) rfl)) (aO (tB (decide (QB f i≤122))) rfl (nt (sr (lf (tS g.Cells) rfl QD rfl rfl Z3 (mO (tN i) rfl ?_))))))))
   have hb15:i<g.Cells.size:=(by omega)
   refine fO (xix (tv (tS g.Cells) rfl) (tv (tN i) rfl) hb15 U9) (fO (YR (tv (T.int .u8 (QB g.Cells i)) rfl) (VEv.int .u8 35)) (mO (tB (decide (QB g.Cells i=35))) rfl ?_))
   refine gw (QB g.Cells i=35) (fun fhg45_16=> ?_) fun fhg45_16=> ?_
   ·refine gF (dy fhg45_16) rfl rfl (OF.move (tv (tS f) rfl)) ?_
    refine gF (dy fhg45_16) rfl rfl (OF.move (tv (tN i) rfl)) ?_
    have hb17:i<f.size:=(by omega)
    refine gF (dy fhg45_16) rfl rfl (xix (tv (tS f) rfl) (tv (tN i) rfl) hb17 U9) (gF (dy fhg45_16) rfl rfl (xne (tv (T.int .u8 (QB f i)) rfl) (VEv.int .u8 35)) (fO (OF.pickT (VEv.tmpB rfl (dy fhg45_16)) (tv (tB (!(decide (QB f i=35)))) rfl)) (mO (tB (!(decide (QB f i=35)))) rfl ?_)))
    refine gn (QB f i=35) (fun fhg51_18=> ?_) fun fhg51_18=> ?_
    ·refine QC 6 11 false 51 (ny fhg51_18) rfl rfl rfl ?_
     refine JA 2 17 true 57 rfl rfl rfl (oO rfl rfl (ny fhg51_18) (fO (OF.pickT (VEv.tmpB rfl (ny fhg51_18)) (VEv.bool true)) (nt (ct rfl (sr (fO (OF.assign (VEv.bool false)) (nt (rt (vinB.r (tr (tr ?_)))))))))))
     refine vinB.r (tr (vb (b':=false) rfl ?_))
     (symm;rw [decide_eq_false_iff_not];rintro ⟨g1,g2,g3⟩;(have g4:=g3 i fhc1;unfold ZR at g4;omega))
    refine Yn (tS g.Cells) (nz fhg51_18) rfl rfl rfl rfl QD rfl rfl Z3 (gF (nz fhg51_18) rfl rfl (OF.move (tv (tN i) rfl)) ?_)
    have hb19:i<g.Cells.size:=(by omega)
    refine gF (nz fhg51_18) rfl rfl (xix (tv (tS g.Cells) rfl) (tv (tN i) rfl) hb19 U9) (gF (nz fhg51_18) rfl rfl (YR (tv (T.int .u8 (QB g.Cells i)) rfl) (VEv.int .u8 46)) (gF (nz fhg51_18) rfl rfl (OF.move (tv (tB (decide (QB g.Cells i=46))) rfl)) ?_))
    refine gw (QB g.Cells i=46) (fun fhg57_20=> ?_) fun fhg57_20=> ?_
    ·refine gF (dy fhg57_20) rfl rfl (OF.move (tv (tB (decide (QB f i≤122))) rfl)) ?_
     refine gF (dy fhg57_20) rfl rfl (Q1 (tv (tB (decide (QB f i≤122))) rfl)) (gF (nz fhg51_18) rfl rfl (OF.pickT (VEv.tmpB rfl (dy fhg57_20)) (tv (tB (!(decide (QB f i≤122)))) rfl)) (fO (OF.pickF (VEv.tmpB rfl (nz fhg51_18)) (tv (tB (!(decide (QB f i≤122)))) rfl)) (nt ?_)))
     refine cn (QB f i≤122) rfl (fun fhc2=> ?_) fun fhc2=> ?_
     ·refine sr ?_
      refine fO (OF.assign (VEv.bool false)) (nt (rt (vinB.r (tr (tr (vinB.r (tr (vb (b':=false) rfl ?_))))))))
      (symm;rw [decide_eq_false_iff_not];rintro ⟨g1,g2,g3⟩;omega)
     refine sk (vinB.n (tn (VRun.region (mO (tN i) rfl (fO (QF (tv (tN i) rfl) (VEv.int .i64 1) (by omega)) (aO (tN (i+1)) rfl (VRunO.nil (tn ?_))))))))
     refine ⟨(i+1:Nat),?_,?_,Wk.mk (fun k=>k) ?_ ?_ ?_⟩
     ·refine QX hI' fhc1 ?_;unfold ZR;omega
     ·omega
     ·exact (b2 (b2 (b2 bn)))
     ·exact (b3 bn)
     ·exact nd rfl
    refine QC 2 17 true 57 (dz fhg57_20) rfl rfl rfl (gF (nz fhg51_18) rfl rfl (OF.pickF (VEv.tmpB rfl (dz fhg57_20)) (VEv.bool false)) (fO (OF.pickF (VEv.tmpB rfl (nz fhg51_18)) (tv (tB false) rfl)) (nt (cf rfl (sk (vinB.n (tn (VRun.region (mO (tN i) rfl (fO (QF (tv (tN i) rfl) (VEv.int .i64 1) (by omega)) (aO (tN (i+1)) rfl ?_)))))))))))
    refine VRunO.nil (tn ?_)
    refine ⟨(i+1:Nat),?_,?_,Wk.mk (fun k=>k) ?_ ?_ ?_⟩
    ·refine QX hI' fhc1 ?_;unfold ZR;omega
    ·omega
    ·exact (b2 (b2 (b2 bn)))
    ·exact (b3 bn)
    ·exact nd rfl
   refine QC 4 5 true 45 (dz fhg45_16) rfl rfl rfl (fO (OF.pickF (VEv.tmpB rfl (dz fhg45_16)) (VEv.bool false)) (mO (tB false) rfl (VRunO.free (VWant.on (b:=false) rfl rfl rfl) (OF.fieldAddrO (tv (T.op 0 0) rfl) QD) (VRunO.look (VWant.on (b:=false) rfl rfl rfl) (OL.loadO1 (t:=(tS g.Cells)) (tv (T.op 0 2) rfl) rfl rfl Z3) (VRunO.free (VWant.on (b:=false) rfl rfl rfl) (OF.move (tv (tN i) rfl)) ?_)))))
   have hb21:i<g.Cells.size:=(by omega)
   refine VRunO.free (VWant.on (b:=false) rfl rfl rfl) (xix (tv (tS g.Cells) rfl) (tv (tN i) rfl) hb21 U9) (VRunO.free (VWant.on (b:=false) rfl rfl rfl) (YR (tv (T.int .u8 (QB g.Cells i)) rfl) (VEv.int .u8 46)) (VRunO.free (VWant.on (b:=false) rfl rfl rfl) (OF.move (tv (tB (decide (QB g.Cells i=46))) rfl)) ?_))
   refine gw (QB g.Cells i=46) (fun fhg57_22=> ?_) fun fhg57_22=> ?_
   ·refine gF (dy fhg57_22) rfl rfl (OF.move (tv (tB (decide (QB f i≤122))) rfl)) ?_
    refine gF (dy fhg57_22) rfl rfl (Q1 (tv (tB (decide (QB f i≤122))) rfl)) (VRunO.free (VWant.on (b:=false) rfl rfl rfl) (OF.pickT (VEv.tmpB rfl (dy fhg57_22)) (tv (tB (!(decide (QB f i≤122)))) rfl)) (fO (OF.pickF (tv (tB false) rfl) (tv (tB (!(decide (QB f i≤122)))) rfl)) (nt ?_)))
    refine cn (QB f i≤122) rfl (fun fhc2=> ?_) fun fhc2=> ?_
    ·refine sr ?_
     refine fO (OF.assign (VEv.bool false)) (nt (rt (vinB.r (tr (tr (vinB.r (tr (vb (b':=false) rfl ?_))))))))
     (symm;rw [decide_eq_false_iff_not];rintro ⟨g1,g2,g3⟩;(have g4:=g3 i fhc1;unfold ZR at g4;omega))
    refine sk (vinB.n (tn (VRun.region (mO (tN i) rfl (fO (QF (tv (tN i) rfl) (VEv.int .i64 1) (by omega)) (aO (tN (i+1)) rfl (VRunO.nil (tn ?_))))))))
    refine ⟨(i+1:Nat),?_,?_,Wk.mk (fun k=>k) ?_ ?_ ?_⟩
    ·refine QX hI' fhc1 ?_;unfold ZR;omega
    ·omega
    ·exact (b2 (b2 (b2 bn)))
    ·exact (b3 bn)
    ·exact nd rfl
   refine QC 2 17 true 57 (dz fhg57_22) rfl rfl rfl (VRunO.free (VWant.on (b:=false) rfl rfl rfl) (OF.pickF (VEv.tmpB rfl (dz fhg57_22)) (VEv.bool false)) (fO (OF.pickF (tv (tB false) rfl) (tv (tB false) rfl)) (nt (cf rfl (sk (vinB.n (tn (VRun.region (mO (tN i) rfl (fO (QF (tv (tN i) rfl) (VEv.int .i64 1) (by omega)) (aO (tN (i+1)) rfl ?_)))))))))))
   refine VRunO.nil (tn ?_)
   refine ⟨(i+1:Nat),?_,?_,Wk.mk (fun k=>k) ?_ ?_ ?_⟩
   ·refine QX hI' fhc1 ?_;unfold ZR;omega
   ·omega
   ·exact (b2 (b2 (b2 bn)))
   ·exact (b3 bn)
   ·exact nd rfl
  refine QC 4 9 true 33 (dz fhg33_13) rfl rfl rfl (gF (dz fhg28_3) rfl rfl (OF.pickF (VEv.tmpB rfl (dz fhg33_13)) (VEv.bool false)) (fO (OF.pickF (VEv.tmpB rfl (dz fhg28_3)) (tv (tB false) rfl)) (aO (tB false) rfl (nt (sr (lf (tS g.Cells) rfl QD rfl rfl Z3 (mO (tN i) rfl ?_)))))))
  have hb23:i<g.Cells.size:=(by omega)
  refine fO (xix (tv (tS g.Cells) rfl) (tv (tN i) rfl) hb23 U9) (fO (YR (tv (T.int .u8 (QB g.Cells i)) rfl) (VEv.int .u8 35)) (mO (tB (decide (QB g.Cells i=35))) rfl ?_))
  refine gw (QB g.Cells i=35) (fun fhg45_24=> ?_) fun fhg45_24=> ?_
  ·refine gF (dy fhg45_24) rfl rfl (OF.move (tv (tS f) rfl)) ?_
   refine gF (dy fhg45_24) rfl rfl (OF.move (tv (tN i) rfl)) ?_
   have hb25:i<f.size:=(by omega)
   refine gF (dy fhg45_24) rfl rfl (xix (tv (tS f) rfl) (tv (tN i) rfl) hb25 U9) (gF (dy fhg45_24) rfl rfl (xne (tv (T.int .u8 (QB f i)) rfl) (VEv.int .u8 35)) (fO (OF.pickT (VEv.tmpB rfl (dy fhg45_24)) (tv (tB (!(decide (QB f i=35)))) rfl)) (mO (tB (!(decide (QB f i=35)))) rfl ?_)))
   refine gn (QB f i=35) (fun fhg51_26=> ?_) fun fhg51_26=> ?_
   ·refine QC 6 11 false 51 (ny fhg51_26) rfl rfl rfl ?_
    refine JA 2 17 true 57 rfl rfl rfl (oO rfl rfl (ny fhg51_26) (fO (OF.pickT (VEv.tmpB rfl (ny fhg51_26)) (VEv.bool true)) (nt (ct rfl (sr (fO (OF.assign (VEv.bool false)) (nt (rt (vinB.r (tr (tr ?_)))))))))))
    refine vinB.r (tr (vb (b':=false) rfl ?_))
    (symm;rw [decide_eq_false_iff_not];rintro ⟨g1,g2,g3⟩;(have g4:=g3 i fhc1;unfold ZR at g4;omega))
   refine Yn (tS g.Cells) (nz fhg51_26) rfl rfl rfl rfl QD rfl rfl Z3 (gF (nz fhg51_26) rfl rfl (OF.move (tv (tN i) rfl)) ?_)
   have hb27:i<g.Cells.size:=(by omega)
   refine gF (nz fhg51_26) rfl rfl (xix (tv (tS g.Cells) rfl) (tv (tN i) rfl) hb27 U9) (gF (nz fhg51_26) rfl rfl (YR (tv (T.int .u8 (QB g.Cells i)) rfl) (VEv.int .u8 46)) (gF (nz fhg51_26) rfl rfl (OF.move (tv (tB (decide (QB g.Cells i=46))) rfl)) ?_))
   refine gw (QB g.Cells i=46) (fun fhg57_28=> ?_) fun fhg57_28=> ?_
   ·refine gF (dy fhg57_28) rfl rfl (OF.move (tv (tB false) rfl)) ?_
    refine gF (dy fhg57_28) rfl rfl (B.not (c:=true) (tv (tB false) rfl) rfl) (gF (nz fhg51_26) rfl rfl (OF.pickT (VEv.tmpB rfl (dy fhg57_28)) (tv (tB true) rfl)) (fO (OF.pickF (VEv.tmpB rfl (nz fhg51_26)) (tv (tB true) rfl)) (nt (ct rfl (sr (fO (OF.assign (VEv.bool false)) (nt (rt (vinB.r (tr (tr ?_)))))))))))
    refine vinB.r (tr (vb (b':=false) rfl ?_))
    (symm;rw [decide_eq_false_iff_not];rintro ⟨g1,g2,g3⟩;omega)
   refine QC 2 17 true 57 (dz fhg57_28) rfl rfl rfl (gF (nz fhg51_26) rfl rfl (OF.pickF (VEv.tmpB rfl (dz fhg57_28)) (VEv.bool false)) (fO (OF.pickF (VEv.tmpB rfl (nz fhg51_26)) (tv (tB false) rfl)) (nt (cf rfl (sk (vinB.n (tn (VRun.region (mO (tN i) rfl (fO (QF (tv (tN i) rfl) (VEv.int .i64 1) (by omega)) (aO (tN (i+1)) rfl ?_)))))))))))
   refine VRunO.nil (tn ?_)
   refine ⟨(i+1:Nat),?_,?_,Wk.mk (fun k=>k) ?_ ?_ ?_⟩
   ·refine QX hI' fhc1 ?_;unfold ZR;omega
   ·omega
   ·exact (b2 (b2 (b2 bn)))
   ·exact (b3 bn)
   ·exact nd rfl
  refine QC 4 5 true 45 (dz fhg45_24) rfl rfl rfl (fO (OF.pickF (VEv.tmpB rfl (dz fhg45_24)) (VEv.bool false)) (mO (tB false) rfl (VRunO.free (VWant.on (b:=false) rfl rfl rfl) (OF.fieldAddrO (tv (T.op 0 0) rfl) QD) (VRunO.look (VWant.on (b:=false) rfl rfl rfl) (OL.loadO1 (t:=(tS g.Cells)) (tv (T.op 0 2) rfl) rfl rfl Z3) (VRunO.free (VWant.on (b:=false) rfl rfl rfl) (OF.move (tv (tN i) rfl)) ?_)))))
  have hb29:i<g.Cells.size:=(by omega)
  refine VRunO.free (VWant.on (b:=false) rfl rfl rfl) (xix (tv (tS g.Cells) rfl) (tv (tN i) rfl) hb29 U9) (VRunO.free (VWant.on (b:=false) rfl rfl rfl) (YR (tv (T.int .u8 (QB g.Cells i)) rfl) (VEv.int .u8 46)) (VRunO.free (VWant.on (b:=false) rfl rfl rfl) (OF.move (tv (tB (decide (QB g.Cells i=46))) rfl)) ?_))
  refine gw (QB g.Cells i=46) (fun fhg57_30=> ?_) fun fhg57_30=> ?_
  ·refine gF (dy fhg57_30) rfl rfl (OF.move (tv (tB false) rfl)) ?_
   refine gF (dy fhg57_30) rfl rfl (B.not (c:=true) (tv (tB false) rfl) rfl) (VRunO.free (VWant.on (b:=false) rfl rfl rfl) (OF.pickT (VEv.tmpB rfl (dy fhg57_30)) (tv (tB true) rfl)) (fO (OF.pickF (tv (tB false) rfl) (tv (tB true) rfl)) (nt (ct rfl (sr (fO (OF.assign (VEv.bool false)) (nt (rt (vinB.r (tr (tr ?_)))))))))))
   refine vinB.r (tr (vb (b':=false) rfl ?_))
   (symm;rw [decide_eq_false_iff_not];rintro ⟨g1,g2,g3⟩;(have g4:=g3 i fhc1;unfold ZR at g4;omega))
  refine QC 2 17 true 57 (dz fhg57_30) rfl rfl rfl (VRunO.free (VWant.on (b:=false) rfl rfl rfl) (OF.pickF (VEv.tmpB rfl (dz fhg57_30)) (VEv.bool false)) (fO (OF.pickF (tv (tB false) rfl) (tv (tB false) rfl)) (nt (cf rfl (sk (vinB.n (tn (VRun.region (mO (tN i) rfl (fO (QF (tv (tN i) rfl) (VEv.int .i64 1) (by omega)) (aO (tN (i+1)) rfl ?_)))))))))))
  refine VRunO.nil (tn ?_)
  refine ⟨(i+1:Nat),?_,?_,Wk.mk (fun k=>k) ?_ ?_ ?_⟩
  ·refine QX hI' fhc1 ?_;unfold ZR;omega
  ·omega
  ·exact (b2 (b2 (b2 bn)))
  ·exact (b3 bn)
  ·exact nd rfl
 refine VRun.exit (vthn.e (vthn.e (vinB.e (tn (sr (fO (OF.assign (VEv.bool true)) (nt (rt (vb (b':=true) rfl ?_)))))))))
 (symm;rw [decide_eq_true_eq];refine ⟨?_,?_,JS hI' fhc1⟩<;>assumption)
theorem QdE (n:Nat) (g:D.Grid) (c:Int) (hc:g.Cells.size≤maxLen):Pure (Qr Tryz.prog (n+3)) 100 [(T.agg (Qa false g)),(tI c)] (tB (decide (gridOk g∧(0≤c∧c≤((g.Cells.size:Nat):Int) - 1)∧QB g.Cells (Int.toNat c)=46))):=by
 refine Pure.intro (rs:= [ResultVar.tmp 4]) Tryz.func100 rfl rfl rfl (E0:= [(0,(T.agg (Qa false g))),(1,(tI c))]) rfl ?_
 obtain ⟨hlim,hmx,hmax⟩:=QJ
 refine sr (kO (B.box (ts:=(Qa false g)) (tv (T.agg (Qa false g)) rfl) nofun rfl) (fO (OF.assign (VEv.bool false)) (nt (sr (lO (OL.loadOn (us:=(Qa false g)) (tv (T.op 0 0) rfl) rfl QY QR (lb rfl) rfl) (cO (cS (vc (tv (T.agg (Qa false g)) rfl) vn) (LendL.cons (lg Qt) ln) (Zr (n+0) g (by assumption)) rfl rfl) (mO (tB (decide (gridOk g))) rfl ?_)))))))
 refine gw (gridOk g) (fun fhg7_1=> ?_) fun fhg7_1=> ?_
 ·refine gF (dy fhg7_1) rfl rfl (OF.move (tv (tI c) rfl)) ?_
  refine Yn (tS g.Cells) (dy fhg7_1) rfl rfl rfl rfl QD rfl rfl Z3 (gL (dy fhg7_1) rfl rfl (B.lenS (tv (tS g.Cells) rfl) U9) (gF (dy fhg7_1) rfl rfl (B.sub (n:=(((g.Cells.size:Nat):Int) - 1)) (tv (tN g.Cells.size) rfl) (VEv.int .i64 1) (by (rw [Qy (by omega)];done))) (VRunO.chain (VWant.on rfl rfl (dy fhg7_1)) (cS (vc (tv (tI c) rfl) (vc (VEv.int .i64 0) (vc (tv (tI (((g.Cells.size:Nat):Int) - 1)) rfl) vn))) (Yl rfl) (QV (n+1) c 0 (((g.Cells.size:Nat):Int) - 1)) rfl rfl) (fO (OF.pickT (VEv.tmpB rfl (dy fhg7_1)) (tv (tB (decide (0≤c∧c≤(((g.Cells.size:Nat):Int) - 1)))) rfl)) (mO (tB (decide (0≤c∧c≤(((g.Cells.size:Nat):Int) - 1)))) rfl ?_)))))
  refine gw (0≤c∧c≤(((g.Cells.size:Nat):Int) - 1)) (fun fhg15_2=> ?_) fun fhg15_2=> ?_
  ·refine Yn (tS g.Cells) (dy fhg15_2) rfl rfl rfl rfl QD rfl rfl Z3 ?_
   refine gF (dy fhg15_2) rfl rfl (OF.move (tv (tI c) rfl)) ?_
   have hb3:(Int.toNat c)<g.Cells.size:=(by omega)
   refine gF (dy fhg15_2) rfl rfl (B.index (n:=(QB g.Cells (Int.toNat c))) (i:=(Int.toNat c)) (tv (tS g.Cells) rfl) (tv (tI c) rfl) (by omega) hb3 U9 (YP hb3)) (gF (dy fhg15_2) rfl rfl (YR (tv (T.int .u8 (QB g.Cells (Int.toNat c))) rfl) (VEv.int .u8 46)) (fO (OF.pickT (VEv.tmpB rfl (dy fhg15_2)) (tv (tB (decide (QB g.Cells (Int.toNat c)=46))) rfl)) (aO (tB (decide (QB g.Cells (Int.toNat c)=46))) rfl (nt (rt (vb (b':=(decide (QB g.Cells (Int.toNat c)=46))) rfl ?_))))))
   (refine Q8 ⟨fun h=>⟨?_,?_,h⟩,fun h=>h.2.2⟩<;>assumption)
  refine QC 5 10 true 15 (dz fhg15_2) rfl rfl rfl (fO (OF.pickF (VEv.tmpB rfl (dz fhg15_2)) (VEv.bool false)) (aO (tB false) rfl (nt (rt (vb (b':=false) rfl ?_)))))
  (symm;rw [decide_eq_false_iff_not];rintro ⟨g1,g2,g3⟩;contradiction)
 refine QC 6 2 true 7 (dz fhg7_1) rfl rfl rfl (fO (OF.pickF (VEv.tmpB rfl (dz fhg7_1)) (VEv.bool false)) (mO (tB false) rfl (QC 5 10 true 15 (b:=false) rfl rfl rfl rfl (fO (OF.pickF (tv (tB false) rfl) (VEv.bool false)) (aO (tB false) rfl (nt (rt (vb (b':=false) rfl ?_))))))))
 (symm;rw [decide_eq_false_iff_not];rintro ⟨g1,g2,g3⟩;contradiction)
theorem QeW (n:Nat) (l:List Int) (v:Int) (hl:l.length≤Yd):Pure (Qr Tryz.prog (n+1)) 134 [(rd 1 Qd l),(tI v)] (tB (decide (v∈l))):=by
 refine Pure.intro (rs:= [ResultVar.tmp 4]) Tryz.func134 rfl rfl rfl (E0:= [(0,(rd 1 Qd l)),(1,(tI v))]) rfl ?_
 obtain ⟨hlim,hmx,hmax⟩:=QJ
 refine sr (fO (OF.assign (VEv.bool false)) (nt (sq (sr (fO (OF.assign (VEv.int .i64 0)) (nt (VRun.block ?_)))))))
 refine VRun.loop (A:=Nat) (fun s_=> [(0,(rd 1 Qd l)),(1,(tI v)),(5,(tN s_))]) (fun s_=>Q3 []) 0 (fun s_=>NoneTo (fun y=>y=v) l s_) (fun s_=>l.length - s_) (0:Nat) ?_ (Wk.mk (fun k=>k) ?_ ?_ ?_) ?_
 ·exact NoneTo.start _ _
 ·exact (b2 (b2 (b2 bn)))
 ·exact bn
 ·exact nd rfl
 rintro i (hI':NoneTo (fun y=>y=v) l i)
 show VRun _ _ _ [(0,(rd 1 Qd l)),(1,(tI v)),(5,(tN i))] (Q3 []) 0 _
 have hI1:=hI'.1
 refine sq (sr (mO (tN i) rfl (mO (rd 1 Qd l) rfl (lO (B.lenR (m:=l.length) (tv (rd 1 Qd l) rfl) YQ (List.length_map ..)) (fO (Zt (tv (tN i) rfl) (tv (tN l.length) rfl)) (nt ?_))))))
 refine cd (i<l.length) rfl (fun fhc0=> ?_) fun fhc0=> ?_
 ·refine sk ?_
  refine tn (sq (VRun.block (sr (mO (rd 1 Qd l) rfl (mO (tN i) rfl ?_)))))
  obtain ⟨x1,hx1⟩:∃x,l[i]? =some x:=⟨_,List.getElem?_eq_getElem (by omega)⟩
  refine fO (OF.indexAddrR (row:=(Qd false x1)) (i:=i) (tv (rd 1 Qd l) rfl) (tv (tN i) rfl) rfl (QA _ hx1) YQ Z8 Jp) (lO (OL.loadR1 (t:=(tI x1)) (tv (T.rp [(tI x1)]) rfl) rfl Q0) (mO (tI v) rfl (fO (YR (tv (tI x1) rfl) (tv (tI v) rfl)) (nt ?_))))
  refine cd (x1=v) rfl (fun fhc1=> ?_) fun fhc1=> ?_
  ·refine sr ?_
   refine fO (OF.assign (VEv.bool true)) (nt (rt (vinB.r (tr (tr (vinB.r (tr (vb (b':=true) rfl ?_))))))))
   symm;rw [decide_eq_true_eq,← fhc1];exact List.mem_of_getElem? hx1
  refine sk (vinB.n (tn (VRun.region (mO (tN i) rfl (fO (QF (tv (tN i) rfl) (VEv.int .i64 1) (by omega)) (aO (tN (i+1)) rfl (VRunO.nil (tn ?_))))))))
  refine ⟨(i+1:Nat),?_,?_,Wk.mk (fun k=>k) ?_ ?_ ?_⟩
  ·exact hI'.next hx1 fhc1
  ·omega
  ·exact (b2 (b2 (b2 bn)))
  ·exact bn
  ·exact nd rfl
 refine VRun.exit (vthn.e (vthn.e (vinB.e (tn (sr (fO (OF.assign (VEv.bool false)) (nt (rt (vb (b':=false) rfl ?_)))))))))
 symm;rw [decide_eq_false_iff_not];intro h;exact hI'.mem fhc0 v h rfl
theorem JI (n:Nat) (a:List Int) (b:Int) (ha:a.length≤Yd):Pure (Qr Tryz.prog (n+1)) 165 [(rd 1 Qd a),(tI b)] (tI (ixF (fun y=>b=y) a)):=by
 refine Pure.intro (rs:= [ResultVar.tmp 4]) Tryz.func165 rfl rfl rfl (E0:= [(0,(rd 1 Qd a)),(1,(tI b))]) rfl ?_
 obtain ⟨hlim,hmx,hmax⟩:=QJ
 refine sr (fO (OF.assign (VEv.int .i64 0)) (nt (sq (sr (mO (rd 1 Qd a) rfl (lO (B.lenR (m:=a.length) (tv (rd 1 Qd a) rfl) YQ (List.length_map ..)) (fO (OF.move (VEv.int .i64 0)) (nt (VRun.block ?_)))))))))
 refine VRun.loop (A:=Nat) (fun s_=> [(0,(rd 1 Qd a)),(1,(tI b)),(7,(tN a.length)),(8,(tN s_))]) (fun s_=>Q3 []) 0 (fun s_=>NoneTo (fun y=>b=y) a s_) (fun s_=>a.length - s_) (0:Nat) ?_ (Wk.mk (fun k=>k) ?_ ?_ ?_) ?_
 ·exact NoneTo.start _ _
 ·exact (b2 (b2 (b2 (b2 bn))))
 ·exact bn
 ·exact nd rfl
 rintro i (hI':NoneTo (fun y=>b=y) a i)
 show VRun _ _ _ [(0,(rd 1 Qd a)),(1,(tI b)),(7,(tN a.length)),(8,(tN i))] (Q3 []) 0 _
 have hI1:=hI'.1
 refine sr (fO (Zt (tv (tN i) rfl) (tv (tN a.length) rfl)) (nt (sq ?_)))
 refine cd (i<a.length) rfl (fun fhc0=> ?_) fun fhc0=> ?_
 ·refine sk ?_
  refine tn (sq (VRun.block (sr (mO (tN i) rfl (aO (tN i) rfl (nt (sr (mO (tI b) rfl (mO (rd 1 Qd a) rfl (mO (tN i) rfl ?_))))))))))
  obtain ⟨x1,hx1⟩:∃x,a[i]? =some x:=⟨_,List.getElem?_eq_getElem (by omega)⟩
  refine fO (OF.indexAddrR (row:=(Qd false x1)) (i:=i) (tv (rd 1 Qd a) rfl) (tv (tN i) rfl) rfl (QA _ hx1) YQ Z8 Jp) (lO (OL.loadR1 (t:=(tI x1)) (tv (T.rp [(tI x1)]) rfl) rfl Q0) (fO (YR (tv (tI b) rfl) (tv (tI x1) rfl)) (nt ?_)))
  refine cd (b=x1) rfl (fun fhc1=> ?_) fun fhc1=> ?_
  ·refine sr ?_
   refine mO (tN i) rfl (aO (tN i) rfl (nt (rt (vinB.r (tr (tr (vinB.r (tr (vi (n':=((i:Nat):Int)) rfl ?_)))))))))
   exact (Qcc hx1 fhc1 hI'.2).symm
  refine sk (vinB.n (tn (VRun.region (fO (QF (tv (tN i) rfl) (VEv.int .i64 1) (by omega)) (mO (tN (i+1)) rfl (VRunO.nil (tn ?_)))))))
  refine ⟨(i+1:Nat),?_,?_,Wk.mk (fun k=>k) ?_ ?_ ?_⟩
  ·exact hI'.next hx1 fhc1
  ·omega
  ·exact (b2 (b2 (b2 (b2 bn))))
  ·exact bn
  ·exact nd rfl
 refine VRun.exit (vthn.e (vthn.e (vinB.e (tn (sr (fO (OF.assign (VEv.int .i64 (-1))) (nt (rt (vi (n':=(-1)) rfl ?_)))))))))
 exact (Qdj (hI'.all fhc0)).symm
theorem Y2 (n:Nat) (a:List Int) (b:Int) (ha:a.length≤Yd):Pure (Qr Tryz.prog (n+2)) 150 [(rd 1 Qd a),(tI b)] (tB (decide (b∈a))):=by
 refine Pure.intro (rs:= [ResultVar.tmp 4]) Tryz.func150 rfl rfl rfl (E0:= [(0,(rd 1 Qd a)),(1,(tI b))]) rfl ?_
 obtain ⟨hlim,hmx,hmax⟩:=QJ
 refine sr (fO (OF.assign (VEv.bool false)) (nt (sr (mO (rd 1 Qd a) rfl (mO (tI b) rfl (cO (cS (vc (tv (rd 1 Qd a) rfl) (vc (tv (tI b) rfl) vn)) (Yl rfl) (JI (n+0) a b (by assumption)) rfl rfl) (fO (xge (tv (tI (ixF (fun y=>b=y) a)) rfl) (VEv.int .i64 0)) (aO (tB (decide (0≤ixF (fun y=>b=y) a))) rfl (nt (rt (vb (b':=(decide (0≤ixF (fun y=>b=y) a))) rfl ?_)))))))))))
 refine Q8 ?_
 rw [QgC]
 exact ⟨fun ⟨x,h1,h2⟩=>h2▸h1,fun h=>⟨b,h,rfl⟩⟩
end Go.Proofs.YthifchndolccgaaGreatDoor.AE
namespace Go.Proofs.YthifchndolccgaaGreatDoor.AE
open Go Go.RowKit
set_option linter.unusedVariables false
set_option linter.unusedSimpArgs false
set_option maxRecDepth 20000
set_option maxHeartbeats 2000000
noncomputable section
def J9 (ok:Nat→Prop) [DecidablePred ok]:Nat→Nat→Nat
 | 0,n=>n
 | f+1,n=>if ok n then J9 ok f (n+1) else n
theorem Qen {ok:Nat→Prop} [DecidablePred ok] {n:Nat} (h:ok n) (hn:n<6):J9 ok (6 - n) n=J9 ok (6 - (n+1)) (n+1):=by
 obtain ⟨k,hk⟩:∃k,6 - n=k+1:=⟨5 - n,by omega⟩
 rw [hk,show 6 - (n+1)=k by omega]
 simp only [J9,if_pos h]
theorem Qf3 {ok:Nat→Prop} [DecidablePred ok] {n f:Nat} (h:¬ok n):J9 ok f n=n:=by
 cases f with
 | zero=>rfl
 | succ f=>simp only [J9,if_neg h]
def slA (g:D.Grid) (cell n:Nat):Prop:=((cell % g.Cols.toNat+n:Nat):Int)<g.Cols∧QB g.Cells (cell+n*1)=46
def slD (g:D.Grid) (cell n:Nat):Prop:=((cell / g.Cols.toNat+n:Nat):Int)<g.Rows∧QB g.Cells (Int.toNat (((cell:Nat):Int)+((n:Nat):Int)*g.Cols))=46
instance (g:D.Grid) (cell:Nat):DecidablePred (slA g cell):=fun _=>Classical.propDecidable _
instance (g:D.Grid) (cell:Nat):DecidablePred (slD g cell):=fun _=>Classical.propDecidable _
def QfH (g:D.Grid) (cell:Nat):Nat:=if QB g.Cells cell=46∧¬(0<cell % g.Cols.toNat∧QB g.Cells (Int.toNat (((cell:Nat):Int) - 1))=46) then J9 (slA g cell) 6 0 else 0
def Qfy (g:D.Grid) (cell:Nat):Nat:=if QB g.Cells cell=46∧¬(0<cell / g.Cols.toNat∧QB g.Cells (Int.toNat (((cell:Nat):Int) - g.Cols))=46) then J9 (slD g cell) 6 0 else 0
def Qo (g:D.Grid) (cell:Nat) (down:Bool):Nat:=if down=true then Qfy g cell else QfH g cell
theorem Qjv {c:Nat} {w:Int} (h:2≤w):((c:Nat):Int).tmod w=((c % w.toNat:Nat):Int):=by
 obtain ⟨k,rfl⟩:=Int.eq_ofNat_of_zero_le (show 0≤w by omega)
 rfl
theorem QkM {c:Nat} {w:Int} (h:2≤w) (hc:c≤36):IntKind.i64.wrap (((c:Nat):Int).tdiv w)=((c / w.toNat:Nat):Int):=by
 obtain ⟨k,rfl⟩:=Int.eq_ofNat_of_zero_le (show 0≤w by omega)
 have:c / k≤c:=Nat.div_le_self _ _
 show IntKind.i64.wrap ((c / k:Nat):Int)=((c / k:Nat):Int)
 generalize c / k=q at *
 rw [Qy (by omega)]
theorem QcP {n:Nat} {c:Int} (h:n≤6) (h2:2≤c) (h3:c≤6):0≤((n:Nat):Int)*c∧((n:Nat):Int)*c≤36:=by
 have e1:0≤((n:Nat):Int)*c:=Int.mul_nonneg (by omega) (by omega)
 have e2:((n:Nat):Int)*c≤6*6:=Int.mul_le_mul (by omega) h3 (by omega) (by decide)
 omega
theorem Qes {n:Nat} {c:Int} (h:n≤6) (h2:2≤c) (h3:c≤6):IntKind.i64.wrap (((n:Nat):Int)*c)=((n:Nat):Int)*c:=by
 have:=QcP h h2 h3
 rw [Qy (by omega)]
theorem Qbo {g:D.Grid} {cell:Nat} (hg:gridOk g) (hc:cell<g.Cells.size):(cell % g.Cols.toNat<g.Cols.toNat∧cell / g.Cols.toNat<g.Rows.toNat)∧(0<cell % g.Cols.toNat→1≤cell)∧(0<cell / g.Cols.toNat→g.Cols.toNat≤cell)∧(∀n:Nat,((cell % g.Cols.toNat+n:Nat):Int)<g.Cols→cell+n<g.Cells.size)∧∀n:Nat,((cell / g.Cols.toNat+n:Nat):Int)<g.Rows→((cell:Nat):Int)+((n:Nat):Int)*g.Cols<g.Cells.size:=by
 obtain ⟨⟨a1,a2⟩,⟨b1,b2⟩,hs,_⟩:=hg
 obtain ⟨w,hw⟩:=Int.eq_ofNat_of_zero_le (show 0≤g.Cols by omega)
 obtain ⟨r,hr⟩:=Int.eq_ofNat_of_zero_le (show 0≤g.Rows by omega)
 have hs2:g.Cells.size=r*w:=by rw [hw,hr] at hs;exact_mod_cast hs
 have hw0:0<w:=by omega
 have hwn:g.Cols.toNat=w:=by omega
 have hrn:g.Rows.toNat=r:=by omega
 rw [hwn,hrn]
 have h1:cell % w<w:=Nat.mod_lt _ hw0
 have h2:cell / w<r:=(Nat.div_lt_iff_lt_mul hw0).2 (hs2▸hc)
 have h3:w*(cell / w)+cell % w=cell:=Nat.div_add_mod cell w
 have h4:∀k,k<r→w*k+w≤r*w:=fun k hk=>by
  have:=Nat.mul_le_mul_left w (show k+1≤r from hk)
  rw [Nat.mul_add,Nat.mul_one,Nat.mul_comm w r] at this
  exact this
 refine ⟨⟨h1,h2⟩,fun h=> ?_,fun h=> ?_,fun n hn=> ?_,fun n hn=> ?_⟩
 ·have:=Nat.mod_le cell w;omega
 ·have:=Nat.mul_le_mul_left w (show 1≤cell / w from h)
  rw [Nat.mul_one] at this
  generalize w*(cell / w)=q2 at *
  generalize cell % w=q3 at *
  omega
 ·have:=h4 _ h2
  generalize w*(cell / w)=q2 at *
  generalize cell % w=q3 at *
  omega
 ·have h5:=h4 (cell / w+n) (by omega)
  rw [Nat.mul_add] at h5
  have h6:((n:Nat):Int)*g.Cols=((w*n:Nat):Int):=by rw [hw,Int.mul_comm];rfl
  rw [h6]
  generalize w*n=q at *
  generalize w*(cell / w)=q2 at *
  generalize cell % w=q3 at *
  omega
theorem Qgl {g:D.Grid} {cell:Nat} (h:¬QB g.Cells cell=46∨(0<cell % g.Cols.toNat∧QB g.Cells (Int.toNat (((cell:Nat):Int) - 1))=46)):QfH g cell=0:=if_neg (by omega)
theorem Qf8 {g:D.Grid} {cell:Nat} (h:¬QB g.Cells cell=46∨(0<cell / g.Cols.toNat∧QB g.Cells (Int.toNat (((cell:Nat):Int) - g.Cols))=46)):Qfy g cell=0:=if_neg (by omega)
theorem QhW {g:D.Grid} {cell n:Nat} (h:QB g.Cells cell=46∧¬(0<cell % g.Cols.toNat∧QB g.Cells (Int.toNat (((cell:Nat):Int) - 1))=46)) (hr:J9 (slA g cell) 6 0=J9 (slA g cell) (6 - n) n) (hn:¬slA g cell n):QfH g cell=n:=by
 rw [QfH,if_pos h,hr,Qf3 hn]
theorem Qhu {g:D.Grid} {cell n:Nat} (h:QB g.Cells cell=46∧¬(0<cell / g.Cols.toNat∧QB g.Cells (Int.toNat (((cell:Nat):Int) - g.Cols))=46)) (hr:J9 (slD g cell) 6 0=J9 (slD g cell) (6 - n) n) (hn:¬slD g cell n):Qfy g cell=n:=by
 rw [Qfy,if_pos h,hr,Qf3 hn]
theorem zD {g:D.Grid} {cell:Nat} {down:Bool} (hd:down=true) (h:¬QB g.Cells cell=46∨(0<cell / g.Cols.toNat∧QB g.Cells (Int.toNat (((cell:Nat):Int) - g.Cols))=46)):(0:Int)=((Qo g cell down:Nat):Int):=by
 rw [Qo,if_pos hd,Qf8 h];rfl
theorem zA {g:D.Grid} {cell:Nat} {down:Bool} (hd:down=false) (h:¬QB g.Cells cell=46∨(0<cell % g.Cols.toNat∧QB g.Cells (Int.toNat (((cell:Nat):Int) - 1))=46)):(0:Int)=((Qo g cell down:Nat):Int):=by
 rw [Qo,if_neg (by simp [hd]),Qgl h];rfl
def Ys (g:D.Grid) (cell:Nat) (down:Bool) (n:Nat):Prop:=if down=true then J9 (slD g cell) 6 0=J9 (slD g cell) (6 - n) n else J9 (slA g cell) 6 0=J9 (slA g cell) (6 - n) n
theorem Yi (g:D.Grid) (cell:Nat) (down:Bool):Ys g cell down 0:=by
 unfold Ys
 split<;>rfl
theorem rD {g:D.Grid} {cell n:Nat} {down:Bool} (hd:down=true) (h:QB g.Cells cell=46∧¬(0<cell / g.Cols.toNat∧QB g.Cells (Int.toNat (((cell:Nat):Int) - g.Cols))=46)) (hr:Ys g cell down n) (hn:¬slD g cell n):((n:Nat):Int)=((Qo g cell down:Nat):Int):=by
 rw [Ys,if_pos hd] at hr
 rw [Qo,if_pos hd,Qhu h hr hn]
theorem rA {g:D.Grid} {cell n:Nat} {down:Bool} (hd:down=false) (h:QB g.Cells cell=46∧¬(0<cell % g.Cols.toNat∧QB g.Cells (Int.toNat (((cell:Nat):Int) - 1))=46)) (hr:Ys g cell down n) (hn:¬slA g cell n):((n:Nat):Int)=((Qo g cell down:Nat):Int):=by
 rw [Ys,if_neg (by simp [hd])] at hr
 rw [Qo,if_neg (by simp [hd]),QhW h hr hn]
theorem Qhi {g:D.Grid} {cell n:Nat} {down:Bool} (hd:down=true) (hr:Ys g cell down n) (hn:slD g cell n) (h6:n<6):Ys g cell down (n+1):=by
 rw [Ys,if_pos hd] at *
 rw [hr,Qen hn h6]
theorem QgL {g:D.Grid} {cell n:Nat} {down:Bool} (hd:down=false) (hr:Ys g cell down n) (hn:slA g cell n) (h6:n<6):Ys g cell down (n+1):=by
 rw [Ys,if_neg (by simp [hd])] at *
 rw [hr,Qen hn h6]
end
theorem QaY (n:Nat) (g:D.Grid) (cell:Nat) (down:Bool) (hg:gridOk g) (hc:cell<g.Cells.size):Pure (Qr Tryz.prog (n+1)) 72 [(T.agg (Qa false g)),(tN cell),(tB down)] (tN (Qo g cell down)):=by
 refine Pure.intro (rs:= [ResultVar.tmp 6]) Tryz.func72 rfl rfl rfl (E0:= [(0,(T.agg (Qa false g))),(1,(tN cell)),(2,(tB down))]) rfl ?_
 obtain ⟨hlim,hmx,hmax⟩:=QJ
 have hsz:=hg.size
 have hA:=hg.1
 have hB:=hg.2.1
 obtain ⟨hC1,hC2,hC3,hC4,hC5⟩:=Qbo hg hc
 have hq0:0≤((cell:Nat):Int) / ((g.Cols.toNat:Nat):Int):=Int.ediv_nonneg (by omega) (by omega)
 have hm0:0≤((cell:Nat):Int) % ((g.Cols.toNat:Nat):Int):=Int.emod_nonneg _ (by omega)
 refine sr (kO (B.box (ts:=(Qa false g)) (tv (T.agg (Qa false g)) rfl) nofun rfl) (fO (OF.assign (VEv.int .i64 0)) (nt (sr (fO (OF.assign (VEv.int .i64 1)) (nt (sr (mO (tN cell) rfl (lf (tI g.Cols) rfl Q7 rfl rfl Q0 (fO (B.rem (n:=((cell % g.Cols.toNat:Nat):Int)) (tv (tN cell) rfl) (tv (tI g.Cols) rfl) (by omega) (by (refine Qjv ?_;omega))) (aO (tN (cell % g.Cols.toNat)) rfl ?_)))))))))))
 refine nt (sr (lf (tI g.Cols) rfl Q7 rfl rfl Q0 (aO (tI g.Cols) rfl (nt (sq (sr (mO (tB down) rfl (nt ?_))))))))
 refine VRun.cond (tv (tB down) rfl) (fun hc0=> ?_) (fun hc0=> ?_)
 ·have fhc0:down=true:=hc0
  refine sr (lf (tI g.Cols) rfl Q7 rfl rfl Q0 (aO (tI g.Cols) rfl (nt (sr (mO (tN cell) rfl (lf (tI g.Cols) rfl Q7 rfl rfl Q0 (fO (B.quo (n:=((cell / g.Cols.toNat:Nat):Int)) (tv (tN cell) rfl) (tv (tI g.Cols) rfl) (by omega) (by (refine QkM ?_ ?_<;>omega))) (aO (tN (cell / g.Cols.toNat)) rfl (nt (VRun.region (lf (tI g.Rows) rfl JD rfl rfl Q0 ?_)))))))))))
  refine aO (tI g.Rows) rfl (VRunO.nil (tn (sq (sr (lf (tS g.Cells) rfl QD rfl rfl Z3 (mO (tN cell) rfl ?_))))))
  have hb1:cell<g.Cells.size:=(by omega)
  refine fO (xix (tv (tS g.Cells) rfl) (tv (tN cell) rfl) hb1 U9) (fO (xne (tv (T.int .u8 (QB g.Cells cell)) rfl) (VEv.int .u8 46)) (mO (tB (!(decide (QB g.Cells cell=46)))) rfl ?_))
  refine gn (QB g.Cells cell=46) (fun fhg31_2=> ?_) fun fhg31_2=> ?_
  ·refine QC 3 5 false 31 (ny fhg31_2) rfl rfl rfl ?_
   refine JA 7 8 true 34 rfl rfl rfl (oO rfl rfl (ny fhg31_2) (fO (OF.pickT (VEv.tmpB rfl (ny fhg31_2)) (VEv.bool true)) (nt (ct rfl (sr (fO (OF.assign (VEv.int .i64 0)) (nt (rt (tr (vi (n':=0) rfl ?_))))))))))
   (refine zD fhc0 ?_;omega)
  refine gF (nz fhg31_2) rfl rfl (OF.move (tv (tN (cell / g.Cols.toNat)) rfl)) (gF (nz fhg31_2) rfl rfl (B.gtr (c:=(decide (0<cell / g.Cols.toNat))) (tv (tN (cell / g.Cols.toNat)) rfl) (VEv.int .i64 0) (by exact Q8 (by omega))) (gF (nz fhg31_2) rfl rfl (OF.move (tv (tB (decide (0<cell / g.Cols.toNat))) rfl)) ?_))
  refine gw (0<cell / g.Cols.toNat) (fun fhg34_3=> ?_) fun fhg34_3=> ?_
  ·refine Yn (tS g.Cells) (dy fhg34_3) rfl rfl rfl rfl QD rfl rfl Z3 ?_
   refine gF (dy fhg34_3) rfl rfl (OF.move (tv (tN cell) rfl)) (gF (dy fhg34_3) rfl rfl (OF.move (tv (tI g.Cols) rfl)) (gF (dy fhg34_3) rfl rfl (B.sub (n:=(((cell:Nat):Int) - g.Cols)) (tv (tN cell) rfl) (tv (tI g.Cols) rfl) (by (rw [Qy (by omega)];done))) ?_))
   have hb4:(Int.toNat (((cell:Nat):Int) - g.Cols))<g.Cells.size:=(by omega)
   refine gF (dy fhg34_3) rfl rfl (B.index (n:=(QB g.Cells (Int.toNat (((cell:Nat):Int) - g.Cols)))) (i:=(Int.toNat (((cell:Nat):Int) - g.Cols))) (tv (tS g.Cells) rfl) (tv (tI (((cell:Nat):Int) - g.Cols)) rfl) (by omega) hb4 U9 (YP hb4)) (gF (dy fhg34_3) rfl rfl (YR (tv (T.int .u8 (QB g.Cells (Int.toNat (((cell:Nat):Int) - g.Cols)))) rfl) (VEv.int .u8 46)) (gF (nz fhg31_2) rfl rfl (OF.pickT (VEv.tmpB rfl (dy fhg34_3)) (tv (tB (decide (QB g.Cells (Int.toNat (((cell:Nat):Int) - g.Cols))=46))) rfl)) (fO (OF.pickF (VEv.tmpB rfl (nz fhg31_2)) (tv (tB (decide (QB g.Cells (Int.toNat (((cell:Nat):Int) - g.Cols))=46))) rfl)) (nt ?_))))
   refine cd (QB g.Cells (Int.toNat (((cell:Nat):Int) - g.Cols))=46) rfl (fun fhc1=> ?_) fun fhc1=> ?_
   ·refine sr ?_
    refine fO (OF.assign (VEv.int .i64 0)) (nt (rt (tr (vi (n':=0) rfl ?_))))
    (refine zD fhc0 ?_;omega)
   refine sk (tn (sr (fO (OF.assign (VEv.int .i64 0)) (nt (sq (VRun.block ?_))))))
   refine VRun.loop (A:=Nat) (fun s_=> [(1,(tN cell)),(3,(T.op 0 0)),(6,(tN 0)),(7,(tI g.Cols)),(8,(tN (cell / g.Cols.toNat))),(9,(tI g.Rows)),(10,(tN s_))]) (fun s_=>Q3 [(0,(Obj.cells (Qa false g)))]) 1 (fun s_=>s_≤6∧Ys g cell down s_) (fun s_=>6 - s_) (0:Nat) ?_ (Wk.mk (fun k=>k) ?_ ?_ ?_) ?_
   ·exact ⟨Nat.zero_le _,Yi _ _ _⟩
   ·exact (b2 (b2 (b2 (b2 (b2 (b2 (b2 bn)))))))
   ·exact (b3 bn)
   ·exact nd rfl
   rintro n (hI':n≤6∧Ys g cell down n)
   show VRun _ _ _ [(1,(tN cell)),(3,(T.op 0 0)),(6,(tN 0)),(7,(tI g.Cols)),(8,(tN (cell / g.Cols.toNat))),(9,(tI g.Rows)),(10,(tN n))] (Q3 [(0,(Obj.cells (Qa false g)))]) 1 _
   have hI1:=hI'.1
   have hN:=QcP hI1 hB.1 hB.2
   have hC6:=hC4 n
   have hC7:=hC5 n
   refine sq (sr (mO (tN (cell / g.Cols.toNat)) rfl (mO (tN n) rfl (fO (B.add (n:=(((cell / g.Cols.toNat+n):Nat):Int)) (tv (tN (cell / g.Cols.toNat)) rfl) (tv (tN n) rfl) (by (rw [Qy (by omega)];omega))) (mO (tI g.Rows) rfl (fO (xls (tv (tN (cell / g.Cols.toNat+n)) rfl) (tv (tI g.Rows) rfl)) (mO (tB (decide ((((cell / g.Cols.toNat+n):Nat):Int)<g.Rows))) rfl ?_)))))))
   refine gw ((((cell / g.Cols.toNat+n):Nat):Int)<g.Rows) (fun fhg49_5=> ?_) fun fhg49_5=> ?_
   ·refine Yn (tS g.Cells) (dy fhg49_5) rfl rfl rfl rfl QD rfl rfl Z3 ?_
    refine gF (dy fhg49_5) rfl rfl (OF.move (tv (tN cell) rfl)) (gF (dy fhg49_5) rfl rfl (OF.move (tv (tN n) rfl)) (gF (dy fhg49_5) rfl rfl (OF.move (tv (tI g.Cols) rfl)) (gF (dy fhg49_5) rfl rfl (B.mul (n:=(((n:Nat):Int)*g.Cols)) (tv (tN n) rfl) (tv (tI g.Cols) rfl) (by (refine Qes ?_ ?_ ?_<;>omega))) (gF (dy fhg49_5) rfl rfl (B.add (n:=(((cell:Nat):Int)+(((n:Nat):Int)*g.Cols))) (tv (tN cell) rfl) (tv (tI (((n:Nat):Int)*g.Cols)) rfl) (by (rw [Qy (by omega)];done))) ?_))))
    have hb6:(Int.toNat (((cell:Nat):Int)+(((n:Nat):Int)*g.Cols)))<g.Cells.size:=(by omega)
    refine gF (dy fhg49_5) rfl rfl (B.index (n:=(QB g.Cells (Int.toNat (((cell:Nat):Int)+(((n:Nat):Int)*g.Cols))))) (i:=(Int.toNat (((cell:Nat):Int)+(((n:Nat):Int)*g.Cols)))) (tv (tS g.Cells) rfl) (tv (tI (((cell:Nat):Int)+(((n:Nat):Int)*g.Cols))) rfl) (by omega) hb6 U9 (YP hb6)) (gF (dy fhg49_5) rfl rfl (YR (tv (T.int .u8 (QB g.Cells (Int.toNat (((cell:Nat):Int)+(((n:Nat):Int)*g.Cols))))) rfl) (VEv.int .u8 46)) (fO (OF.pickT (VEv.tmpB rfl (dy fhg49_5)) (tv (tB (decide (QB g.Cells (Int.toNat (((cell:Nat):Int)+(((n:Nat):Int)*g.Cols)))=46))) rfl)) (nt ?_)))
    refine cd (QB g.Cells (Int.toNat (((cell:Nat):Int)+(((n:Nat):Int)*g.Cols)))=46) rfl (fun fhc2=> ?_) fun fhc2=> ?_
    ·refine sk ?_
     refine tn (VRun.block (VRun.region (mO (tN n) rfl (fO (QF (tv (tN n) rfl) (VEv.int .i64 1) (by omega)) (aO (tN (n+1)) rfl (VRunO.nil (vinB.n (tn ?_))))))))
     refine ⟨(n+1:Nat),?_,?_,Wk.mk (fun k=>k) ?_ ?_ ?_⟩
     ·(refine ⟨?_,Qhi fhc0 hI'.2 ?_ ?_⟩<;>first | omega | (unfold slD;omega))
     ·omega
     ·exact (b2 (b2 (b2 (b2 (b2 (b2 (b2 bn)))))))
     ·exact (b3 bn)
     ·exact nd rfl
    refine VRun.exit (vthn.e (vthn.e (vinB.e (tn (sr (mO (tN n) rfl (aO (tN n) rfl (nt (rt (vi (n':=((n:Nat):Int)) rfl ?_))))))))))
    (refine rD fhc0 ?_ hI'.2 ?_<;>first | omega | (unfold slD;omega))
   refine QC 9 5 true 49 (dz fhg49_5) rfl rfl rfl (fO (OF.pickF (VEv.tmpB rfl (dz fhg49_5)) (VEv.bool false)) (nt (cf rfl (VRun.exit (vthn.e (vthn.e (vinB.e (tn (sr (mO (tN n) rfl (aO (tN n) rfl ?_)))))))))))
   refine nt (rt (vi (n':=((n:Nat):Int)) rfl ?_))
   (refine rD fhc0 ?_ hI'.2 ?_<;>first | omega | (unfold slD;omega))
  refine QC 7 8 true 34 (dz fhg34_3) rfl rfl rfl (gF (nz fhg31_2) rfl rfl (OF.pickF (VEv.tmpB rfl (dz fhg34_3)) (VEv.bool false)) (fO (OF.pickF (VEv.tmpB rfl (nz fhg31_2)) (tv (tB false) rfl)) (nt (cf rfl (sk (tn (sr (fO (OF.assign (VEv.int .i64 0)) (nt (sq (VRun.block ?_)))))))))))
  refine VRun.loop (A:=Nat) (fun s_=> [(1,(tN cell)),(3,(T.op 0 0)),(6,(tN 0)),(7,(tI g.Cols)),(8,(tN (cell / g.Cols.toNat))),(9,(tI g.Rows)),(10,(tN s_))]) (fun s_=>Q3 [(0,(Obj.cells (Qa false g)))]) 1 (fun s_=>s_≤6∧Ys g cell down s_) (fun s_=>6 - s_) (0:Nat) ?_ (Wk.mk (fun k=>k) ?_ ?_ ?_) ?_
  ·exact ⟨Nat.zero_le _,Yi _ _ _⟩
  ·exact (b2 (b2 (b2 (b2 (b2 (b2 (b2 bn)))))))
  ·exact (b3 bn)
  ·exact nd rfl
  rintro n (hI':n≤6∧Ys g cell down n)
  show VRun _ _ _ [(1,(tN cell)),(3,(T.op 0 0)),(6,(tN 0)),(7,(tI g.Cols)),(8,(tN (cell / g.Cols.toNat))),(9,(tI g.Rows)),(10,(tN n))] (Q3 [(0,(Obj.cells (Qa false g)))]) 1 _
  have hI1:=hI'.1
  have hN:=QcP hI1 hB.1 hB.2
  have hC6:=hC4 n
  have hC7:=hC5 n
  refine sq (sr (mO (tN (cell / g.Cols.toNat)) rfl (mO (tN n) rfl (fO (B.add (n:=(((cell / g.Cols.toNat+n):Nat):Int)) (tv (tN (cell / g.Cols.toNat)) rfl) (tv (tN n) rfl) (by (rw [Qy (by omega)];omega))) (mO (tI g.Rows) rfl (fO (xls (tv (tN (cell / g.Cols.toNat+n)) rfl) (tv (tI g.Rows) rfl)) (mO (tB (decide ((((cell / g.Cols.toNat+n):Nat):Int)<g.Rows))) rfl ?_)))))))
  refine gw ((((cell / g.Cols.toNat+n):Nat):Int)<g.Rows) (fun fhg49_7=> ?_) fun fhg49_7=> ?_
  ·refine Yn (tS g.Cells) (dy fhg49_7) rfl rfl rfl rfl QD rfl rfl Z3 ?_
   refine gF (dy fhg49_7) rfl rfl (OF.move (tv (tN cell) rfl)) (gF (dy fhg49_7) rfl rfl (OF.move (tv (tN n) rfl)) (gF (dy fhg49_7) rfl rfl (OF.move (tv (tI g.Cols) rfl)) (gF (dy fhg49_7) rfl rfl (B.mul (n:=(((n:Nat):Int)*g.Cols)) (tv (tN n) rfl) (tv (tI g.Cols) rfl) (by (refine Qes ?_ ?_ ?_<;>omega))) (gF (dy fhg49_7) rfl rfl (B.add (n:=(((cell:Nat):Int)+(((n:Nat):Int)*g.Cols))) (tv (tN cell) rfl) (tv (tI (((n:Nat):Int)*g.Cols)) rfl) (by (rw [Qy (by omega)];done))) ?_))))
   have hb8:(Int.toNat (((cell:Nat):Int)+(((n:Nat):Int)*g.Cols)))<g.Cells.size:=(by omega)
   refine gF (dy fhg49_7) rfl rfl (B.index (n:=(QB g.Cells (Int.toNat (((cell:Nat):Int)+(((n:Nat):Int)*g.Cols))))) (i:=(Int.toNat (((cell:Nat):Int)+(((n:Nat):Int)*g.Cols)))) (tv (tS g.Cells) rfl) (tv (tI (((cell:Nat):Int)+(((n:Nat):Int)*g.Cols))) rfl) (by omega) hb8 U9 (YP hb8)) (gF (dy fhg49_7) rfl rfl (YR (tv (T.int .u8 (QB g.Cells (Int.toNat (((cell:Nat):Int)+(((n:Nat):Int)*g.Cols))))) rfl) (VEv.int .u8 46)) (fO (OF.pickT (VEv.tmpB rfl (dy fhg49_7)) (tv (tB (decide (QB g.Cells (Int.toNat (((cell:Nat):Int)+(((n:Nat):Int)*g.Cols)))=46))) rfl)) (nt ?_)))
   refine cd (QB g.Cells (Int.toNat (((cell:Nat):Int)+(((n:Nat):Int)*g.Cols)))=46) rfl (fun fhc2=> ?_) fun fhc2=> ?_
   ·refine sk ?_
    refine tn (VRun.block (VRun.region (mO (tN n) rfl (fO (QF (tv (tN n) rfl) (VEv.int .i64 1) (by omega)) (aO (tN (n+1)) rfl (VRunO.nil (vinB.n (tn ?_))))))))
    refine ⟨(n+1:Nat),?_,?_,Wk.mk (fun k=>k) ?_ ?_ ?_⟩
    ·(refine ⟨?_,Qhi fhc0 hI'.2 ?_ ?_⟩<;>first | omega | (unfold slD;omega))
    ·omega
    ·exact (b2 (b2 (b2 (b2 (b2 (b2 (b2 bn)))))))
    ·exact (b3 bn)
    ·exact nd rfl
   refine VRun.exit (vthn.e (vthn.e (vinB.e (tn (sr (mO (tN n) rfl (aO (tN n) rfl (nt (rt (vi (n':=((n:Nat):Int)) rfl ?_))))))))))
   (refine rD fhc0 ?_ hI'.2 ?_<;>first | omega | (unfold slD;omega))
  refine QC 9 5 true 49 (dz fhg49_7) rfl rfl rfl (fO (OF.pickF (VEv.tmpB rfl (dz fhg49_7)) (VEv.bool false)) (nt (cf rfl (VRun.exit (vthn.e (vthn.e (vinB.e (tn (sr (mO (tN n) rfl (aO (tN n) rfl ?_)))))))))))
  refine nt (rt (vi (n':=((n:Nat):Int)) rfl ?_))
  (refine rD fhc0 ?_ hI'.2 ?_<;>first | omega | (unfold slD;omega))
 have fhc0:down=false:=hc0
 refine sk (tn (sq (sr (lf (tS g.Cells) rfl QD rfl rfl Z3 (mO (tN cell) rfl ?_)))))
 have hb9:cell<g.Cells.size:=(by omega)
 refine fO (xix (tv (tS g.Cells) rfl) (tv (tN cell) rfl) hb9 U9) (fO (xne (tv (T.int .u8 (QB g.Cells cell)) rfl) (VEv.int .u8 46)) (mO (tB (!(decide (QB g.Cells cell=46)))) rfl ?_))
 refine gn (QB g.Cells cell=46) (fun fhg31_10=> ?_) fun fhg31_10=> ?_
 ·refine QC 3 5 false 31 (ny fhg31_10) rfl rfl rfl ?_
  refine JA 7 8 true 34 rfl rfl rfl (oO rfl rfl (ny fhg31_10) (fO (OF.pickT (VEv.tmpB rfl (ny fhg31_10)) (VEv.bool true)) (nt (ct rfl (sr (fO (OF.assign (VEv.int .i64 0)) (nt (rt (tr (vi (n':=0) rfl ?_))))))))))
  (refine zA fhc0 ?_;omega)
 refine gF (nz fhg31_10) rfl rfl (OF.move (tv (tN (cell % g.Cols.toNat)) rfl)) (gF (nz fhg31_10) rfl rfl (B.gtr (c:=(decide (0<cell % g.Cols.toNat))) (tv (tN (cell % g.Cols.toNat)) rfl) (VEv.int .i64 0) (by exact Q8 (by omega))) (gF (nz fhg31_10) rfl rfl (OF.move (tv (tB (decide (0<cell % g.Cols.toNat))) rfl)) ?_))
 refine gw (0<cell % g.Cols.toNat) (fun fhg34_11=> ?_) fun fhg34_11=> ?_
 ·refine Yn (tS g.Cells) (dy fhg34_11) rfl rfl rfl rfl QD rfl rfl Z3 ?_
  refine gF (dy fhg34_11) rfl rfl (OF.move (tv (tN cell) rfl)) (gF (dy fhg34_11) rfl rfl (OF.move (tv (tN 1) rfl)) (gF (dy fhg34_11) rfl rfl (B.sub (n:=(((cell:Nat):Int) - 1)) (tv (tN cell) rfl) (tv (tN 1) rfl) (by (rw [Qy (by omega)];omega))) ?_))
  have hb12:(Int.toNat (((cell:Nat):Int) - 1))<g.Cells.size:=(by omega)
  refine gF (dy fhg34_11) rfl rfl (B.index (n:=(QB g.Cells (Int.toNat (((cell:Nat):Int) - 1)))) (i:=(Int.toNat (((cell:Nat):Int) - 1))) (tv (tS g.Cells) rfl) (tv (tI (((cell:Nat):Int) - 1)) rfl) (by omega) hb12 U9 (YP hb12)) (gF (dy fhg34_11) rfl rfl (YR (tv (T.int .u8 (QB g.Cells (Int.toNat (((cell:Nat):Int) - 1)))) rfl) (VEv.int .u8 46)) (gF (nz fhg31_10) rfl rfl (OF.pickT (VEv.tmpB rfl (dy fhg34_11)) (tv (tB (decide (QB g.Cells (Int.toNat (((cell:Nat):Int) - 1))=46))) rfl)) (fO (OF.pickF (VEv.tmpB rfl (nz fhg31_10)) (tv (tB (decide (QB g.Cells (Int.toNat (((cell:Nat):Int) - 1))=46))) rfl)) (nt ?_))))
  refine cd (QB g.Cells (Int.toNat (((cell:Nat):Int) - 1))=46) rfl (fun fhc1=> ?_) fun fhc1=> ?_
  ·refine sr ?_
   refine fO (OF.assign (VEv.int .i64 0)) (nt (rt (tr (vi (n':=0) rfl ?_))))
   (refine zA fhc0 ?_;omega)
  refine sk (tn (sr (fO (OF.assign (VEv.int .i64 0)) (nt (sq (VRun.block ?_))))))
  refine VRun.loop (A:=Nat) (fun s_=> [(1,(tN cell)),(3,(T.op 0 0)),(6,(tN 0)),(7,(tN 1)),(8,(tN (cell % g.Cols.toNat))),(9,(tI g.Cols)),(10,(tN s_))]) (fun s_=>Q3 [(0,(Obj.cells (Qa false g)))]) 1 (fun s_=>s_≤6∧Ys g cell down s_) (fun s_=>6 - s_) (0:Nat) ?_ (Wk.mk (fun k=>k) ?_ ?_ ?_) ?_
  ·exact ⟨Nat.zero_le _,Yi _ _ _⟩
  ·exact (b2 (b2 (b2 (b2 (b2 (b2 (b2 bn)))))))
  ·exact (b3 bn)
  ·exact nd rfl
  rintro n (hI':n≤6∧Ys g cell down n)
  show VRun _ _ _ [(1,(tN cell)),(3,(T.op 0 0)),(6,(tN 0)),(7,(tN 1)),(8,(tN (cell % g.Cols.toNat))),(9,(tI g.Cols)),(10,(tN n))] (Q3 [(0,(Obj.cells (Qa false g)))]) 1 _
  have hI1:=hI'.1
  have hN:=QcP hI1 hB.1 hB.2
  have hC6:=hC4 n
  have hC7:=hC5 n
  refine sq (sr (mO (tN (cell % g.Cols.toNat)) rfl (mO (tN n) rfl (fO (B.add (n:=(((cell % g.Cols.toNat+n):Nat):Int)) (tv (tN (cell % g.Cols.toNat)) rfl) (tv (tN n) rfl) (by (rw [Qy (by omega)];omega))) (mO (tI g.Cols) rfl (fO (xls (tv (tN (cell % g.Cols.toNat+n)) rfl) (tv (tI g.Cols) rfl)) (mO (tB (decide ((((cell % g.Cols.toNat+n):Nat):Int)<g.Cols))) rfl ?_)))))))
  refine gw ((((cell % g.Cols.toNat+n):Nat):Int)<g.Cols) (fun fhg49_13=> ?_) fun fhg49_13=> ?_
  ·refine Yn (tS g.Cells) (dy fhg49_13) rfl rfl rfl rfl QD rfl rfl Z3 ?_
   refine gF (dy fhg49_13) rfl rfl (OF.move (tv (tN cell) rfl)) (gF (dy fhg49_13) rfl rfl (OF.move (tv (tN n) rfl)) (gF (dy fhg49_13) rfl rfl (OF.move (tv (tN 1) rfl)) (gF (dy fhg49_13) rfl rfl (B.mul (n:=(((n*1):Nat):Int)) (tv (tN n) rfl) (tv (tN 1) rfl) (by (rw [Qy (by omega)];omega))) (gF (dy fhg49_13) rfl rfl (B.add (n:=(((cell+(n*1)):Nat):Int)) (tv (tN cell) rfl) (tv (tN (n*1)) rfl) (by (rw [Qy (by omega)];omega))) ?_))))
   have hb14:(cell+(n*1))<g.Cells.size:=(by omega)
   refine gF (dy fhg49_13) rfl rfl (xix (tv (tS g.Cells) rfl) (tv (tN (cell+(n*1))) rfl) hb14 U9) (gF (dy fhg49_13) rfl rfl (YR (tv (T.int .u8 (QB g.Cells (cell+(n*1)))) rfl) (VEv.int .u8 46)) (fO (OF.pickT (VEv.tmpB rfl (dy fhg49_13)) (tv (tB (decide (QB g.Cells (cell+(n*1))=46))) rfl)) (nt ?_)))
   refine cd (QB g.Cells (cell+(n*1))=46) rfl (fun fhc2=> ?_) fun fhc2=> ?_
   ·refine sk ?_
    refine tn (VRun.block (VRun.region (mO (tN n) rfl (fO (QF (tv (tN n) rfl) (VEv.int .i64 1) (by omega)) (aO (tN (n+1)) rfl (VRunO.nil (vinB.n (tn ?_))))))))
    refine ⟨(n+1:Nat),?_,?_,Wk.mk (fun k=>k) ?_ ?_ ?_⟩
    ·(refine ⟨?_,QgL fhc0 hI'.2 ?_ ?_⟩<;>first | omega | (unfold slA;omega))
    ·omega
    ·exact (b2 (b2 (b2 (b2 (b2 (b2 (b2 bn)))))))
    ·exact (b3 bn)
    ·exact nd rfl
   refine VRun.exit (vthn.e (vthn.e (vinB.e (tn (sr (mO (tN n) rfl (aO (tN n) rfl (nt (rt (vi (n':=((n:Nat):Int)) rfl ?_))))))))))
   (refine rA fhc0 ?_ hI'.2 ?_<;>first | omega | (unfold slA;omega))
  refine QC 9 5 true 49 (dz fhg49_13) rfl rfl rfl (fO (OF.pickF (VEv.tmpB rfl (dz fhg49_13)) (VEv.bool false)) (nt (cf rfl (VRun.exit (vthn.e (vthn.e (vinB.e (tn (sr (mO (tN n) rfl (aO (tN n) rfl ?_)))))))))))
  refine nt (rt (vi (n':=((n:Nat):Int)) rfl ?_))
  (refine rA fhc0 ?_ hI'.2 ?_<;>first | omega | (unfold slA;omega))
 refine QC 7 8 true 34 (dz fhg34_11) rfl rfl rfl (gF (nz fhg31_10) rfl rfl (OF.pickF (VEv.tmpB rfl (dz fhg34_11)) (VEv.bool false)) (fO (OF.pickF (VEv.tmpB rfl (nz fhg31_10)) (tv (tB false) rfl)) (nt (cf rfl (sk (tn (sr (fO (OF.assign (VEv.int .i64 0)) (nt (sq (VRun.block ?_)))))))))))
 refine VRun.loop (A:=Nat) (fun s_=> [(1,(tN cell)),(3,(T.op 0 0)),(6,(tN 0)),(7,(tN 1)),(8,(tN (cell % g.Cols.toNat))),(9,(tI g.Cols)),(10,(tN s_))]) (fun s_=>Q3 [(0,(Obj.cells (Qa false g)))]) 1 (fun s_=>s_≤6∧Ys g cell down s_) (fun s_=>6 - s_) (0:Nat) ?_ (Wk.mk (fun k=>k) ?_ ?_ ?_) ?_
 ·exact ⟨Nat.zero_le _,Yi _ _ _⟩
 ·exact (b2 (b2 (b2 (b2 (b2 (b2 (b2 bn)))))))
 ·exact (b3 bn)
 ·exact nd rfl
 rintro n (hI':n≤6∧Ys g cell down n)
 show VRun _ _ _ [(1,(tN cell)),(3,(T.op 0 0)),(6,(tN 0)),(7,(tN 1)),(8,(tN (cell % g.Cols.toNat))),(9,(tI g.Cols)),(10,(tN n))] (Q3 [(0,(Obj.cells (Qa false g)))]) 1 _
 have hI1:=hI'.1
 have hN:=QcP hI1 hB.1 hB.2
 have hC6:=hC4 n
 have hC7:=hC5 n
 refine sq (sr (mO (tN (cell % g.Cols.toNat)) rfl (mO (tN n) rfl (fO (B.add (n:=(((cell % g.Cols.toNat+n):Nat):Int)) (tv (tN (cell % g.Cols.toNat)) rfl) (tv (tN n) rfl) (by (rw [Qy (by omega)];omega))) (mO (tI g.Cols) rfl (fO (xls (tv (tN (cell % g.Cols.toNat+n)) rfl) (tv (tI g.Cols) rfl)) (mO (tB (decide ((((cell % g.Cols.toNat+n):Nat):Int)<g.Cols))) rfl ?_)))))))
 refine gw ((((cell % g.Cols.toNat+n):Nat):Int)<g.Cols) (fun fhg49_15=> ?_) fun fhg49_15=> ?_
 ·refine Yn (tS g.Cells) (dy fhg49_15) rfl rfl rfl rfl QD rfl rfl Z3 ?_
  refine gF (dy fhg49_15) rfl rfl (OF.move (tv (tN cell) rfl)) (gF (dy fhg49_15) rfl rfl (OF.move (tv (tN n) rfl)) (gF (dy fhg49_15) rfl rfl (OF.move (tv (tN 1) rfl)) (gF (dy fhg49_15) rfl rfl (B.mul (n:=(((n*1):Nat):Int)) (tv (tN n) rfl) (tv (tN 1) rfl) (by (rw [Qy (by omega)];omega))) (gF (dy fhg49_15) rfl rfl (B.add (n:=(((cell+(n*1)):Nat):Int)) (tv (tN cell) rfl) (tv (tN (n*1)) rfl) (by (rw [Qy (by omega)];omega))) ?_))))
  have hb16:(cell+(n*1))<g.Cells.size:=(by omega)
  refine gF (dy fhg49_15) rfl rfl (xix (tv (tS g.Cells) rfl) (tv (tN (cell+(n*1))) rfl) hb16 U9) (gF (dy fhg49_15) rfl rfl (YR (tv (T.int .u8 (QB g.Cells (cell+(n*1)))) rfl) (VEv.int .u8 46)) (fO (OF.pickT (VEv.tmpB rfl (dy fhg49_15)) (tv (tB (decide (QB g.Cells (cell+(n*1))=46))) rfl)) (nt ?_)))
  refine cd (QB g.Cells (cell+(n*1))=46) rfl (fun fhc2=> ?_) fun fhc2=> ?_
  ·refine sk ?_
   refine tn (VRun.block (VRun.region (mO (tN n) rfl (fO (QF (tv (tN n) rfl) (VEv.int .i64 1) (by omega)) (aO (tN (n+1)) rfl (VRunO.nil (vinB.n (tn ?_))))))))
   refine ⟨(n+1:Nat),?_,?_,Wk.mk (fun k=>k) ?_ ?_ ?_⟩
   ·(refine ⟨?_,QgL fhc0 hI'.2 ?_ ?_⟩<;>first | omega | (unfold slA;omega))
   ·omega
   ·exact (b2 (b2 (b2 (b2 (b2 (b2 (b2 bn)))))))
   ·exact (b3 bn)
   ·exact nd rfl
  refine VRun.exit (vthn.e (vthn.e (vinB.e (tn (sr (mO (tN n) rfl (aO (tN n) rfl (nt (rt (vi (n':=((n:Nat):Int)) rfl ?_))))))))))
  (refine rA fhc0 ?_ hI'.2 ?_<;>first | omega | (unfold slA;omega))
 refine QC 9 5 true 49 (dz fhg49_15) rfl rfl rfl (fO (OF.pickF (VEv.tmpB rfl (dz fhg49_15)) (VEv.bool false)) (nt (cf rfl (VRun.exit (vthn.e (vthn.e (vinB.e (tn (sr (mO (tN n) rfl (aO (tN n) rfl ?_)))))))))))
 refine nt (rt (vi (n':=((n:Nat):Int)) rfl ?_))
 (refine rA fhc0 ?_ hI'.2 ?_<;>first | omega | (unfold slA;omega))
theorem Qdn (n:Nat) (g:D.Grid) (cell:Nat) (down:Bool) (hg:gridOk g) (hc:cell<g.Cells.size):Pure (Qr Tryz.prog (n+1)) 82 [(T.agg (Qa false g)),(tN cell),(tB down)] (tN (Qo g cell down)):=by
 refine Pure.intro (rs:= [ResultVar.tmp 6]) Tryz.func82 rfl rfl rfl (E0:= [(0,(T.agg (Qa false g))),(1,(tN cell)),(2,(tB down))]) rfl ?_
 obtain ⟨hlim,hmx,hmax⟩:=QJ
 have hsz:=hg.size
 have hA:=hg.1
 have hB:=hg.2.1
 obtain ⟨hC1,hC2,hC3,hC4,hC5⟩:=Qbo hg hc
 have hq0:0≤((cell:Nat):Int) / ((g.Cols.toNat:Nat):Int):=Int.ediv_nonneg (by omega) (by omega)
 have hm0:0≤((cell:Nat):Int) % ((g.Cols.toNat:Nat):Int):=Int.emod_nonneg _ (by omega)
 refine sr (kO (B.box (ts:=(Qa false g)) (tv (T.agg (Qa false g)) rfl) nofun rfl) (fO (OF.assign (VEv.int .i64 0)) (nt (sq (VRun.draw (B:= [[],[],[1],[1,2,0],[],[4],[],[6,0,2,1,3],[3,1,2,0,6,7,4,5]]) (by kernel_rfl) (by kernel_rfl) (mD (tN cell) rfl rfl (fD (OF.fieldAddrO (tv (T.op 0 0) rfl) Q7) rfl rfl (lD (OL.loadO1 (t:=(tI g.Cols)) (tv (T.op 0 1) rfl) rfl rfl Q0) rfl rfl (fD (B.rem (n:=((cell % g.Cols.toNat:Nat):Int)) (tv (tN cell) rfl) (tv (tI g.Cols) rfl) (by omega) (by (refine Qjv ?_;omega))) rfl rfl (fD (OF.fieldAddrO (tv (T.op 0 0) rfl) Q7) rfl rfl (lD (OL.loadO1 (t:=(tI g.Cols)) (tv (T.op 0 1) rfl) rfl rfl Q0) rfl rfl ?_)))))))))))
 refine fD (OF.assign (VEv.int .i64 1)) rfl rfl (fD (OF.assign (tv (tN (cell % g.Cols.toNat)) rfl)) rfl rfl (fD (OF.assign (tv (tI g.Cols) rfl)) rfl rfl (VRunD.nil (tn (sq (sr (mO (tB down) rfl (nt ?_))))))))
 refine VRun.cond (tv (tB down) rfl) (fun hc0=> ?_) (fun hc0=> ?_)
 ·have fhc0:down=true:=hc0
  refine VRun.draw (B:= [[],[0],[],[],[3],[3,4,2],[],[6],[0,1],[1,0,8,2,4,3,5],[5,3,4,2,8,0,1,9,6,7]]) (by kernel_rfl) (by kernel_rfl) (fD (OF.fieldAddrO (tv (T.op 0 0) rfl) Q7) rfl rfl (lD (OL.loadO1 (t:=(tI g.Cols)) (tv (T.op 0 1) rfl) rfl rfl Q0) rfl rfl (mD (tN cell) rfl rfl (fD (OF.fieldAddrO (tv (T.op 0 0) rfl) Q7) rfl rfl (lD (OL.loadO1 (t:=(tI g.Cols)) (tv (T.op 0 1) rfl) rfl rfl Q0) rfl rfl (fD (B.quo (n:=((cell / g.Cols.toNat:Nat):Int)) (tv (tN cell) rfl) (tv (tI g.Cols) rfl) (by omega) (by (refine QkM ?_ ?_<;>omega))) rfl rfl (fD (OF.fieldAddrO (tv (T.op 0 0) rfl) JD) rfl rfl (lD (OL.loadO1 (t:=(tI g.Rows)) (tv (T.op 0 0) rfl) rfl rfl Q0) rfl rfl (fD (OF.assign (tv (tI g.Cols) rfl)) rfl rfl (fD (OF.assign (tv (tN (cell / g.Cols.toNat)) rfl)) rfl rfl (fD (OF.assign (tv (tI g.Rows) rfl)) rfl rfl ?_)))))))))))
  refine VRunD.nil (tn (sq (sr (lf (tS g.Cells) rfl QD rfl rfl Z3 (mO (tN cell) rfl ?_)))))
  have hb1:cell<g.Cells.size:=(by omega)
  refine fO (xix (tv (tS g.Cells) rfl) (tv (tN cell) rfl) hb1 U9) (fO (xne (tv (T.int .u8 (QB g.Cells cell)) rfl) (VEv.int .u8 46)) (mO (tB (!(decide (QB g.Cells cell=46)))) rfl ?_))
  refine gn (QB g.Cells cell=46) (fun fhg31_2=> ?_) fun fhg31_2=> ?_
  ·refine QC 3 5 false 31 (ny fhg31_2) rfl rfl rfl ?_
   refine JA 7 8 true 34 rfl rfl rfl (oO rfl rfl (ny fhg31_2) (fO (OF.pickT (VEv.tmpB rfl (ny fhg31_2)) (VEv.bool true)) (nt (ct rfl (sr (fO (OF.assign (VEv.int .i64 0)) (nt (rt (tr (vi (n':=0) rfl ?_))))))))))
   (refine zD fhc0 ?_;omega)
  refine gF (nz fhg31_2) rfl rfl (OF.move (tv (tN (cell / g.Cols.toNat)) rfl)) (gF (nz fhg31_2) rfl rfl (B.gtr (c:=(decide (0<cell / g.Cols.toNat))) (tv (tN (cell / g.Cols.toNat)) rfl) (VEv.int .i64 0) (by exact Q8 (by omega))) (gF (nz fhg31_2) rfl rfl (OF.move (tv (tB (decide (0<cell / g.Cols.toNat))) rfl)) ?_))
  refine gw (0<cell / g.Cols.toNat) (fun fhg34_3=> ?_) fun fhg34_3=> ?_
  ·refine Yn (tS g.Cells) (dy fhg34_3) rfl rfl rfl rfl QD rfl rfl Z3 ?_
   refine gF (dy fhg34_3) rfl rfl (OF.move (tv (tN cell) rfl)) (gF (dy fhg34_3) rfl rfl (OF.move (tv (tI g.Cols) rfl)) (gF (dy fhg34_3) rfl rfl (B.sub (n:=(((cell:Nat):Int) - g.Cols)) (tv (tN cell) rfl) (tv (tI g.Cols) rfl) (by (rw [Qy (by omega)];done))) ?_))
   have hb4:(Int.toNat (((cell:Nat):Int) - g.Cols))<g.Cells.size:=(by omega)
   refine gF (dy fhg34_3) rfl rfl (B.index (n:=(QB g.Cells (Int.toNat (((cell:Nat):Int) - g.Cols)))) (i:=(Int.toNat (((cell:Nat):Int) - g.Cols))) (tv (tS g.Cells) rfl) (tv (tI (((cell:Nat):Int) - g.Cols)) rfl) (by omega) hb4 U9 (YP hb4)) (gF (dy fhg34_3) rfl rfl (YR (tv (T.int .u8 (QB g.Cells (Int.toNat (((cell:Nat):Int) - g.Cols)))) rfl) (VEv.int .u8 46)) (gF (nz fhg31_2) rfl rfl (OF.pickT (VEv.tmpB rfl (dy fhg34_3)) (tv (tB (decide (QB g.Cells (Int.toNat (((cell:Nat):Int) - g.Cols))=46))) rfl)) (fO (OF.pickF (VEv.tmpB rfl (nz fhg31_2)) (tv (tB (decide (QB g.Cells (Int.toNat (((cell:Nat):Int) - g.Cols))=46))) rfl)) (nt ?_))))
   refine cd (QB g.Cells (Int.toNat (((cell:Nat):Int) - g.Cols))=46) rfl (fun fhc1=> ?_) fun fhc1=> ?_
   ·refine sr ?_
    refine fO (OF.assign (VEv.int .i64 0)) (nt (rt (tr (vi (n':=0) rfl ?_))))
    (refine zD fhc0 ?_;omega)
   refine sk (tn (sr (fO (OF.assign (VEv.int .i64 0)) (nt (sq (VRun.block ?_))))))
   refine VRun.loop (A:=Nat) (fun s_=> [(1,(tN cell)),(3,(T.op 0 0)),(6,(tN 0)),(7,(tI g.Cols)),(8,(tN (cell / g.Cols.toNat))),(9,(tI g.Rows)),(10,(tN s_))]) (fun s_=>Q3 [(0,(Obj.cells (Qa false g)))]) 1 (fun s_=>s_≤6∧Ys g cell down s_) (fun s_=>6 - s_) (0:Nat) ?_ (Wk.mk (fun k=>k) ?_ ?_ ?_) ?_
   ·exact ⟨Nat.zero_le _,Yi _ _ _⟩
   ·exact (b2 (b2 (b2 (b2 (b2 (b2 (b2 bn)))))))
   ·exact (b3 bn)
   ·exact nd rfl
   rintro n (hI':n≤6∧Ys g cell down n)
   show VRun _ _ _ [(1,(tN cell)),(3,(T.op 0 0)),(6,(tN 0)),(7,(tI g.Cols)),(8,(tN (cell / g.Cols.toNat))),(9,(tI g.Rows)),(10,(tN n))] (Q3 [(0,(Obj.cells (Qa false g)))]) 1 _
   have hI1:=hI'.1
   have hN:=QcP hI1 hB.1 hB.2
   have hC6:=hC4 n
   have hC7:=hC5 n
   refine sq (sr (mO (tN (cell / g.Cols.toNat)) rfl (mO (tN n) rfl (fO (B.add (n:=(((cell / g.Cols.toNat+n):Nat):Int)) (tv (tN (cell / g.Cols.toNat)) rfl) (tv (tN n) rfl) (by (rw [Qy (by omega)];omega))) (mO (tI g.Rows) rfl (fO (xls (tv (tN (cell / g.Cols.toNat+n)) rfl) (tv (tI g.Rows) rfl)) (mO (tB (decide ((((cell / g.Cols.toNat+n):Nat):Int)<g.Rows))) rfl ?_)))))))
   refine gw ((((cell / g.Cols.toNat+n):Nat):Int)<g.Rows) (fun fhg49_5=> ?_) fun fhg49_5=> ?_
   ·refine Yn (tS g.Cells) (dy fhg49_5) rfl rfl rfl rfl QD rfl rfl Z3 ?_
    refine gF (dy fhg49_5) rfl rfl (OF.move (tv (tN cell) rfl)) (gF (dy fhg49_5) rfl rfl (OF.move (tv (tN n) rfl)) (gF (dy fhg49_5) rfl rfl (OF.move (tv (tI g.Cols) rfl)) (gF (dy fhg49_5) rfl rfl (B.mul (n:=(((n:Nat):Int)*g.Cols)) (tv (tN n) rfl) (tv (tI g.Cols) rfl) (by (refine Qes ?_ ?_ ?_<;>omega))) (gF (dy fhg49_5) rfl rfl (B.add (n:=(((cell:Nat):Int)+(((n:Nat):Int)*g.Cols))) (tv (tN cell) rfl) (tv (tI (((n:Nat):Int)*g.Cols)) rfl) (by (rw [Qy (by omega)];done))) ?_))))
    have hb6:(Int.toNat (((cell:Nat):Int)+(((n:Nat):Int)*g.Cols)))<g.Cells.size:=(by omega)
    refine gF (dy fhg49_5) rfl rfl (B.index (n:=(QB g.Cells (Int.toNat (((cell:Nat):Int)+(((n:Nat):Int)*g.Cols))))) (i:=(Int.toNat (((cell:Nat):Int)+(((n:Nat):Int)*g.Cols)))) (tv (tS g.Cells) rfl) (tv (tI (((cell:Nat):Int)+(((n:Nat):Int)*g.Cols))) rfl) (by omega) hb6 U9 (YP hb6)) (gF (dy fhg49_5) rfl rfl (YR (tv (T.int .u8 (QB g.Cells (Int.toNat (((cell:Nat):Int)+(((n:Nat):Int)*g.Cols))))) rfl) (VEv.int .u8 46)) (fO (OF.pickT (VEv.tmpB rfl (dy fhg49_5)) (tv (tB (decide (QB g.Cells (Int.toNat (((cell:Nat):Int)+(((n:Nat):Int)*g.Cols)))=46))) rfl)) (nt ?_)))
    refine cd (QB g.Cells (Int.toNat (((cell:Nat):Int)+(((n:Nat):Int)*g.Cols)))=46) rfl (fun fhc2=> ?_) fun fhc2=> ?_
    ·refine sk ?_
     refine tn (VRun.block (VRun.region (mO (tN n) rfl (fO (QF (tv (tN n) rfl) (VEv.int .i64 1) (by omega)) (aO (tN (n+1)) rfl (VRunO.nil (vinB.n (tn ?_))))))))
     refine ⟨(n+1:Nat),?_,?_,Wk.mk (fun k=>k) ?_ ?_ ?_⟩
     ·(refine ⟨?_,Qhi fhc0 hI'.2 ?_ ?_⟩<;>first | omega | (unfold slD;omega))
     ·omega
     ·exact (b2 (b2 (b2 (b2 (b2 (b2 (b2 bn)))))))
     ·exact (b3 bn)
     ·exact nd rfl
    refine VRun.exit (vthn.e (vthn.e (vinB.e (tn (sr (mO (tN n) rfl (aO (tN n) rfl (nt (rt (vi (n':=((n:Nat):Int)) rfl ?_))))))))))
    (refine rD fhc0 ?_ hI'.2 ?_<;>first | omega | (unfold slD;omega))
   refine QC 9 5 true 49 (dz fhg49_5) rfl rfl rfl (fO (OF.pickF (VEv.tmpB rfl (dz fhg49_5)) (VEv.bool false)) (nt (cf rfl (VRun.exit (vthn.e (vthn.e (vinB.e (tn (sr (mO (tN n) rfl (aO (tN n) rfl ?_)))))))))))
   refine nt (rt (vi (n':=((n:Nat):Int)) rfl ?_))
   (refine rD fhc0 ?_ hI'.2 ?_<;>first | omega | (unfold slD;omega))
  refine QC 7 8 true 34 (dz fhg34_3) rfl rfl rfl (gF (nz fhg31_2) rfl rfl (OF.pickF (VEv.tmpB rfl (dz fhg34_3)) (VEv.bool false)) (fO (OF.pickF (VEv.tmpB rfl (nz fhg31_2)) (tv (tB false) rfl)) (nt (cf rfl (sk (tn (sr (fO (OF.assign (VEv.int .i64 0)) (nt (sq (VRun.block ?_)))))))))))
  refine VRun.loop (A:=Nat) (fun s_=> [(1,(tN cell)),(3,(T.op 0 0)),(6,(tN 0)),(7,(tI g.Cols)),(8,(tN (cell / g.Cols.toNat))),(9,(tI g.Rows)),(10,(tN s_))]) (fun s_=>Q3 [(0,(Obj.cells (Qa false g)))]) 1 (fun s_=>s_≤6∧Ys g cell down s_) (fun s_=>6 - s_) (0:Nat) ?_ (Wk.mk (fun k=>k) ?_ ?_ ?_) ?_
  ·exact ⟨Nat.zero_le _,Yi _ _ _⟩
  ·exact (b2 (b2 (b2 (b2 (b2 (b2 (b2 bn)))))))
  ·exact (b3 bn)
  ·exact nd rfl
  rintro n (hI':n≤6∧Ys g cell down n)
  show VRun _ _ _ [(1,(tN cell)),(3,(T.op 0 0)),(6,(tN 0)),(7,(tI g.Cols)),(8,(tN (cell / g.Cols.toNat))),(9,(tI g.Rows)),(10,(tN n))] (Q3 [(0,(Obj.cells (Qa false g)))]) 1 _
  have hI1:=hI'.1
  have hN:=QcP hI1 hB.1 hB.2
  have hC6:=hC4 n
  have hC7:=hC5 n
  refine sq (sr (mO (tN (cell / g.Cols.toNat)) rfl (mO (tN n) rfl (fO (B.add (n:=(((cell / g.Cols.toNat+n):Nat):Int)) (tv (tN (cell / g.Cols.toNat)) rfl) (tv (tN n) rfl) (by (rw [Qy (by omega)];omega))) (mO (tI g.Rows) rfl (fO (xls (tv (tN (cell / g.Cols.toNat+n)) rfl) (tv (tI g.Rows) rfl)) (mO (tB (decide ((((cell / g.Cols.toNat+n):Nat):Int)<g.Rows))) rfl ?_)))))))
  refine gw ((((cell / g.Cols.toNat+n):Nat):Int)<g.Rows) (fun fhg49_7=> ?_) fun fhg49_7=> ?_
  ·refine Yn (tS g.Cells) (dy fhg49_7) rfl rfl rfl rfl QD rfl rfl Z3 ?_
   refine gF (dy fhg49_7) rfl rfl (OF.move (tv (tN cell) rfl)) (gF (dy fhg49_7) rfl rfl (OF.move (tv (tN n) rfl)) (gF (dy fhg49_7) rfl rfl (OF.move (tv (tI g.Cols) rfl)) (gF (dy fhg49_7) rfl rfl (B.mul (n:=(((n:Nat):Int)*g.Cols)) (tv (tN n) rfl) (tv (tI g.Cols) rfl) (by (refine Qes ?_ ?_ ?_<;>omega))) (gF (dy fhg49_7) rfl rfl (B.add (n:=(((cell:Nat):Int)+(((n:Nat):Int)*g.Cols))) (tv (tN cell) rfl) (tv (tI (((n:Nat):Int)*g.Cols)) rfl) (by (rw [Qy (by omega)];done))) ?_))))
   have hb8:(Int.toNat (((cell:Nat):Int)+(((n:Nat):Int)*g.Cols)))<g.Cells.size:=(by omega)
   refine gF (dy fhg49_7) rfl rfl (B.index (n:=(QB g.Cells (Int.toNat (((cell:Nat):Int)+(((n:Nat):Int)*g.Cols))))) (i:=(Int.toNat (((cell:Nat):Int)+(((n:Nat):Int)*g.Cols)))) (tv (tS g.Cells) rfl) (tv (tI (((cell:Nat):Int)+(((n:Nat):Int)*g.Cols))) rfl) (by omega) hb8 U9 (YP hb8)) (gF (dy fhg49_7) rfl rfl (YR (tv (T.int .u8 (QB g.Cells (Int.toNat (((cell:Nat):Int)+(((n:Nat):Int)*g.Cols))))) rfl) (VEv.int .u8 46)) (fO (OF.pickT (VEv.tmpB rfl (dy fhg49_7)) (tv (tB (decide (QB g.Cells (Int.toNat (((cell:Nat):Int)+(((n:Nat):Int)*g.Cols)))=46))) rfl)) (nt ?_)))
   refine cd (QB g.Cells (Int.toNat (((cell:Nat):Int)+(((n:Nat):Int)*g.Cols)))=46) rfl (fun fhc2=> ?_) fun fhc2=> ?_
   ·refine sk ?_
    refine tn (VRun.block (VRun.region (mO (tN n) rfl (fO (QF (tv (tN n) rfl) (VEv.int .i64 1) (by omega)) (aO (tN (n+1)) rfl (VRunO.nil (vinB.n (tn ?_))))))))
    refine ⟨(n+1:Nat),?_,?_,Wk.mk (fun k=>k) ?_ ?_ ?_⟩
    ·(refine ⟨?_,Qhi fhc0 hI'.2 ?_ ?_⟩<;>first | omega | (unfold slD;omega))
    ·omega
    ·exact (b2 (b2 (b2 (b2 (b2 (b2 (b2 bn)))))))
    ·exact (b3 bn)
    ·exact nd rfl
   refine VRun.exit (vthn.e (vthn.e (vinB.e (tn (sr (mO (tN n) rfl (aO (tN n) rfl (nt (rt (vi (n':=((n:Nat):Int)) rfl ?_))))))))))
   (refine rD fhc0 ?_ hI'.2 ?_<;>first | omega | (unfold slD;omega))
  refine QC 9 5 true 49 (dz fhg49_7) rfl rfl rfl (fO (OF.pickF (VEv.tmpB rfl (dz fhg49_7)) (VEv.bool false)) (nt (cf rfl (VRun.exit (vthn.e (vthn.e (vinB.e (tn (sr (mO (tN n) rfl (aO (tN n) rfl ?_)))))))))))
  refine nt (rt (vi (n':=((n:Nat):Int)) rfl ?_))
  (refine rD fhc0 ?_ hI'.2 ?_<;>first | omega | (unfold slD;omega))
 have fhc0:down=false:=hc0
 refine sk (tn (sq (sr (lf (tS g.Cells) rfl QD rfl rfl Z3 (mO (tN cell) rfl ?_)))))
 have hb9:cell<g.Cells.size:=(by omega)
 refine fO (xix (tv (tS g.Cells) rfl) (tv (tN cell) rfl) hb9 U9) (fO (xne (tv (T.int .u8 (QB g.Cells cell)) rfl) (VEv.int .u8 46)) (mO (tB (!(decide (QB g.Cells cell=46)))) rfl ?_))
 refine gn (QB g.Cells cell=46) (fun fhg31_10=> ?_) fun fhg31_10=> ?_
 ·refine QC 3 5 false 31 (ny fhg31_10) rfl rfl rfl ?_
  refine JA 7 8 true 34 rfl rfl rfl (oO rfl rfl (ny fhg31_10) (fO (OF.pickT (VEv.tmpB rfl (ny fhg31_10)) (VEv.bool true)) (nt (ct rfl (sr (fO (OF.assign (VEv.int .i64 0)) (nt (rt (tr (vi (n':=0) rfl ?_))))))))))
  (refine zA fhc0 ?_;omega)
 refine gF (nz fhg31_10) rfl rfl (OF.move (tv (tN (cell % g.Cols.toNat)) rfl)) (gF (nz fhg31_10) rfl rfl (B.gtr (c:=(decide (0<cell % g.Cols.toNat))) (tv (tN (cell % g.Cols.toNat)) rfl) (VEv.int .i64 0) (by exact Q8 (by omega))) (gF (nz fhg31_10) rfl rfl (OF.move (tv (tB (decide (0<cell % g.Cols.toNat))) rfl)) ?_))
 refine gw (0<cell % g.Cols.toNat) (fun fhg34_11=> ?_) fun fhg34_11=> ?_
 ·refine Yn (tS g.Cells) (dy fhg34_11) rfl rfl rfl rfl QD rfl rfl Z3 ?_
  refine gF (dy fhg34_11) rfl rfl (OF.move (tv (tN cell) rfl)) (gF (dy fhg34_11) rfl rfl (OF.move (tv (tN 1) rfl)) (gF (dy fhg34_11) rfl rfl (B.sub (n:=(((cell:Nat):Int) - 1)) (tv (tN cell) rfl) (tv (tN 1) rfl) (by (rw [Qy (by omega)];omega))) ?_))
  have hb12:(Int.toNat (((cell:Nat):Int) - 1))<g.Cells.size:=(by omega)
  refine gF (dy fhg34_11) rfl rfl (B.index (n:=(QB g.Cells (Int.toNat (((cell:Nat):Int) - 1)))) (i:=(Int.toNat (((cell:Nat):Int) - 1))) (tv (tS g.Cells) rfl) (tv (tI (((cell:Nat):Int) - 1)) rfl) (by omega) hb12 U9 (YP hb12)) (gF (dy fhg34_11) rfl rfl (YR (tv (T.int .u8 (QB g.Cells (Int.toNat (((cell:Nat):Int) - 1)))) rfl) (VEv.int .u8 46)) (gF (nz fhg31_10) rfl rfl (OF.pickT (VEv.tmpB rfl (dy fhg34_11)) (tv (tB (decide (QB g.Cells (Int.toNat (((cell:Nat):Int) - 1))=46))) rfl)) (fO (OF.pickF (VEv.tmpB rfl (nz fhg31_10)) (tv (tB (decide (QB g.Cells (Int.toNat (((cell:Nat):Int) - 1))=46))) rfl)) (nt ?_))))
  refine cd (QB g.Cells (Int.toNat (((cell:Nat):Int) - 1))=46) rfl (fun fhc1=> ?_) fun fhc1=> ?_
  ·refine sr ?_
   refine fO (OF.assign (VEv.int .i64 0)) (nt (rt (tr (vi (n':=0) rfl ?_))))
   (refine zA fhc0 ?_;omega)
  refine sk (tn (sr (fO (OF.assign (VEv.int .i64 0)) (nt (sq (VRun.block ?_))))))
  refine VRun.loop (A:=Nat) (fun s_=> [(1,(tN cell)),(3,(T.op 0 0)),(6,(tN 0)),(7,(tN 1)),(8,(tN (cell % g.Cols.toNat))),(9,(tI g.Cols)),(10,(tN s_))]) (fun s_=>Q3 [(0,(Obj.cells (Qa false g)))]) 1 (fun s_=>s_≤6∧Ys g cell down s_) (fun s_=>6 - s_) (0:Nat) ?_ (Wk.mk (fun k=>k) ?_ ?_ ?_) ?_
  ·exact ⟨Nat.zero_le _,Yi _ _ _⟩
  ·exact (b2 (b2 (b2 (b2 (b2 (b2 (b2 bn)))))))
  ·exact (b3 bn)
  ·exact nd rfl
  rintro n (hI':n≤6∧Ys g cell down n)
  show VRun _ _ _ [(1,(tN cell)),(3,(T.op 0 0)),(6,(tN 0)),(7,(tN 1)),(8,(tN (cell % g.Cols.toNat))),(9,(tI g.Cols)),(10,(tN n))] (Q3 [(0,(Obj.cells (Qa false g)))]) 1 _
  have hI1:=hI'.1
  have hN:=QcP hI1 hB.1 hB.2
  have hC6:=hC4 n
  have hC7:=hC5 n
  refine sq (sr (mO (tN (cell % g.Cols.toNat)) rfl (mO (tN n) rfl (fO (B.add (n:=(((cell % g.Cols.toNat+n):Nat):Int)) (tv (tN (cell % g.Cols.toNat)) rfl) (tv (tN n) rfl) (by (rw [Qy (by omega)];omega))) (mO (tI g.Cols) rfl (fO (xls (tv (tN (cell % g.Cols.toNat+n)) rfl) (tv (tI g.Cols) rfl)) (mO (tB (decide ((((cell % g.Cols.toNat+n):Nat):Int)<g.Cols))) rfl ?_)))))))
  refine gw ((((cell % g.Cols.toNat+n):Nat):Int)<g.Cols) (fun fhg49_13=> ?_) fun fhg49_13=> ?_
  ·refine Yn (tS g.Cells) (dy fhg49_13) rfl rfl rfl rfl QD rfl rfl Z3 ?_
   refine gF (dy fhg49_13) rfl rfl (OF.move (tv (tN cell) rfl)) (gF (dy fhg49_13) rfl rfl (OF.move (tv (tN n) rfl)) (gF (dy fhg49_13) rfl rfl (OF.move (tv (tN 1) rfl)) (gF (dy fhg49_13) rfl rfl (B.mul (n:=(((n*1):Nat):Int)) (tv (tN n) rfl) (tv (tN 1) rfl) (by (rw [Qy (by omega)];omega))) (gF (dy fhg49_13) rfl rfl (B.add (n:=(((cell+(n*1)):Nat):Int)) (tv (tN cell) rfl) (tv (tN (n*1)) rfl) (by (rw [Qy (by omega)];omega))) ?_))))
   have hb14:(cell+(n*1))<g.Cells.size:=(by omega)
   refine gF (dy fhg49_13) rfl rfl (xix (tv (tS g.Cells) rfl) (tv (tN (cell+(n*1))) rfl) hb14 U9) (gF (dy fhg49_13) rfl rfl (YR (tv (T.int .u8 (QB g.Cells (cell+(n*1)))) rfl) (VEv.int .u8 46)) (fO (OF.pickT (VEv.tmpB rfl (dy fhg49_13)) (tv (tB (decide (QB g.Cells (cell+(n*1))=46))) rfl)) (nt ?_)))
   refine cd (QB g.Cells (cell+(n*1))=46) rfl (fun fhc2=> ?_) fun fhc2=> ?_
   ·refine sk ?_
    refine tn (VRun.block (VRun.region (mO (tN n) rfl (fO (QF (tv (tN n) rfl) (VEv.int .i64 1) (by omega)) (aO (tN (n+1)) rfl (VRunO.nil (vinB.n (tn ?_))))))))
    refine ⟨(n+1:Nat),?_,?_,Wk.mk (fun k=>k) ?_ ?_ ?_⟩
    ·(refine ⟨?_,QgL fhc0 hI'.2 ?_ ?_⟩<;>first | omega | (unfold slA;omega))
    ·omega
    ·exact (b2 (b2 (b2 (b2 (b2 (b2 (b2 bn)))))))
    ·exact (b3 bn)
    ·exact nd rfl
   refine VRun.exit (vthn.e (vthn.e (vinB.e (tn (sr (mO (tN n) rfl (aO (tN n) rfl (nt (rt (vi (n':=((n:Nat):Int)) rfl ?_))))))))))
   (refine rA fhc0 ?_ hI'.2 ?_<;>first | omega | (unfold slA;omega))
  refine QC 9 5 true 49 (dz fhg49_13) rfl rfl rfl (fO (OF.pickF (VEv.tmpB rfl (dz fhg49_13)) (VEv.bool false)) (nt (cf rfl (VRun.exit (vthn.e (vthn.e (vinB.e (tn (sr (mO (tN n) rfl (aO (tN n) rfl ?_)))))))))))
  refine nt (rt (vi (n':=((n:Nat):Int)) rfl ?_))
  (refine rA fhc0 ?_ hI'.2 ?_<;>first | omega | (unfold slA;omega))
 refine QC 7 8 true 34 (dz fhg34_11) rfl rfl rfl (gF (nz fhg31_10) rfl rfl (OF.pickF (VEv.tmpB rfl (dz fhg34_11)) (VEv.bool false)) (fO (OF.pickF (VEv.tmpB rfl (nz fhg31_10)) (tv (tB false) rfl)) (nt (cf rfl (sk (tn (sr (fO (OF.assign (VEv.int .i64 0)) (nt (sq (VRun.block ?_)))))))))))
 refine VRun.loop (A:=Nat) (fun s_=> [(1,(tN cell)),(3,(T.op 0 0)),(6,(tN 0)),(7,(tN 1)),(8,(tN (cell % g.Cols.toNat))),(9,(tI g.Cols)),(10,(tN s_))]) (fun s_=>Q3 [(0,(Obj.cells (Qa false g)))]) 1 (fun s_=>s_≤6∧Ys g cell down s_) (fun s_=>6 - s_) (0:Nat) ?_ (Wk.mk (fun k=>k) ?_ ?_ ?_) ?_
 ·exact ⟨Nat.zero_le _,Yi _ _ _⟩
 ·exact (b2 (b2 (b2 (b2 (b2 (b2 (b2 bn)))))))
 ·exact (b3 bn)
 ·exact nd rfl
 rintro n (hI':n≤6∧Ys g cell down n)
 show VRun _ _ _ [(1,(tN cell)),(3,(T.op 0 0)),(6,(tN 0)),(7,(tN 1)),(8,(tN (cell % g.Cols.toNat))),(9,(tI g.Cols)),(10,(tN n))] (Q3 [(0,(Obj.cells (Qa false g)))]) 1 _
 have hI1:=hI'.1
 have hN:=QcP hI1 hB.1 hB.2
 have hC6:=hC4 n
 have hC7:=hC5 n
 refine sq (sr (mO (tN (cell % g.Cols.toNat)) rfl (mO (tN n) rfl (fO (B.add (n:=(((cell % g.Cols.toNat+n):Nat):Int)) (tv (tN (cell % g.Cols.toNat)) rfl) (tv (tN n) rfl) (by (rw [Qy (by omega)];omega))) (mO (tI g.Cols) rfl (fO (xls (tv (tN (cell % g.Cols.toNat+n)) rfl) (tv (tI g.Cols) rfl)) (mO (tB (decide ((((cell % g.Cols.toNat+n):Nat):Int)<g.Cols))) rfl ?_)))))))
 refine gw ((((cell % g.Cols.toNat+n):Nat):Int)<g.Cols) (fun fhg49_15=> ?_) fun fhg49_15=> ?_
 ·refine Yn (tS g.Cells) (dy fhg49_15) rfl rfl rfl rfl QD rfl rfl Z3 ?_
  refine gF (dy fhg49_15) rfl rfl (OF.move (tv (tN cell) rfl)) (gF (dy fhg49_15) rfl rfl (OF.move (tv (tN n) rfl)) (gF (dy fhg49_15) rfl rfl (OF.move (tv (tN 1) rfl)) (gF (dy fhg49_15) rfl rfl (B.mul (n:=(((n*1):Nat):Int)) (tv (tN n) rfl) (tv (tN 1) rfl) (by (rw [Qy (by omega)];omega))) (gF (dy fhg49_15) rfl rfl (B.add (n:=(((cell+(n*1)):Nat):Int)) (tv (tN cell) rfl) (tv (tN (n*1)) rfl) (by (rw [Qy (by omega)];omega))) ?_))))
  have hb16:(cell+(n*1))<g.Cells.size:=(by omega)
  refine gF (dy fhg49_15) rfl rfl (xix (tv (tS g.Cells) rfl) (tv (tN (cell+(n*1))) rfl) hb16 U9) (gF (dy fhg49_15) rfl rfl (YR (tv (T.int .u8 (QB g.Cells (cell+(n*1)))) rfl) (VEv.int .u8 46)) (fO (OF.pickT (VEv.tmpB rfl (dy fhg49_15)) (tv (tB (decide (QB g.Cells (cell+(n*1))=46))) rfl)) (nt ?_)))
  refine cd (QB g.Cells (cell+(n*1))=46) rfl (fun fhc2=> ?_) fun fhc2=> ?_
  ·refine sk ?_
   refine tn (VRun.block (VRun.region (mO (tN n) rfl (fO (QF (tv (tN n) rfl) (VEv.int .i64 1) (by omega)) (aO (tN (n+1)) rfl (VRunO.nil (vinB.n (tn ?_))))))))
   refine ⟨(n+1:Nat),?_,?_,Wk.mk (fun k=>k) ?_ ?_ ?_⟩
   ·(refine ⟨?_,QgL fhc0 hI'.2 ?_ ?_⟩<;>first | omega | (unfold slA;omega))
   ·omega
   ·exact (b2 (b2 (b2 (b2 (b2 (b2 (b2 bn)))))))
   ·exact (b3 bn)
   ·exact nd rfl
  refine VRun.exit (vthn.e (vthn.e (vinB.e (tn (sr (mO (tN n) rfl (aO (tN n) rfl (nt (rt (vi (n':=((n:Nat):Int)) rfl ?_))))))))))
  (refine rA fhc0 ?_ hI'.2 ?_<;>first | omega | (unfold slA;omega))
 refine QC 9 5 true 49 (dz fhg49_15) rfl rfl rfl (fO (OF.pickF (VEv.tmpB rfl (dz fhg49_15)) (VEv.bool false)) (nt (cf rfl (VRun.exit (vthn.e (vthn.e (vinB.e (tn (sr (mO (tN n) rfl (aO (tN n) rfl ?_)))))))))))
 refine nt (rt (vi (n':=((n:Nat):Int)) rfl ?_))
 (refine rA fhc0 ?_ hI'.2 ?_<;>first | omega | (unfold slA;omega))
end Go.Proofs.YthifchndolccgaaGreatDoor.AE
namespace Go.Proofs.YthifchndolccgaaGreatDoor.AE
open Go Go.RowKit
set_option linter.unusedVariables false
set_option linter.unusedSimpArgs false
set_option maxRecDepth 20000
set_option maxHeartbeats 2000000
noncomputable section
def QhY (g:D.Grid) (st:List D.Slot×Nat) (i:Nat):List D.Slot×Nat :=
 let k:=if 2≤Qo g i false∨2≤Qo g i true then st.2+1 else st.2
 ((st.1++(if 2≤Qo g i false then [D.Slot.mk ((k:Nat):Int) false ((i:Nat):Int) ((Qo g i false:Nat):Int)] else []))++(if 2≤Qo g i true then [D.Slot.mk ((k:Nat):Int) true ((i:Nat):Int) ((Qo g i true:Nat):Int)] else []),k)
def Qe (g:D.Grid):Nat→List D.Slot×Nat
 | 0=>([],0)
 | i+1=>QhY g (Qe g i) i
def Qb (g:D.Grid):List D.Slot:=if gridOk g then (Qe g g.Cells.size).1 else []
theorem Yc (g:D.Grid) (i:Nat):(Qe g (i+1)).1=((Qe g i).1++(if 2≤Qo g i false then [D.Slot.mk (((Qe g (i+1)).2:Nat):Int) false ((i:Nat):Int) ((Qo g i false:Nat):Int)] else []))++(if 2≤Qo g i true then [D.Slot.mk (((Qe g (i+1)).2:Nat):Int) true ((i:Nat):Int) ((Qo g i true:Nat):Int)] else []):=rfl
theorem ZB (g:D.Grid) (i:Nat):(Qe g (i+1)).2=if 2≤Qo g i false∨2≤Qo g i true then (Qe g i).2+1 else (Qe g i).2:=rfl
theorem QaK (g:D.Grid):∀i,(Qe g i).2≤i∧(Qe g i).1.length≤2*i
 | 0=>⟨Nat.le_refl _,Nat.le_refl _⟩
 | i+1=>by
  have h:=QaK g i
  rw [Yc,ZB]
  refine ⟨by split<;>omega,?_⟩
  rw [List.length_append,List.length_append]
  have e:∀(c:Prop) [Decidable c] (x:D.Slot),(if c then [x] else []).length≤1:=fun c _ x=>by split<;>simp
  refine Nat.le_trans (Nat.add_le_add (Nat.add_le_add h.2 (e _ _)) (e _ _)) ?_
  omega
theorem Qcs {g:D.Grid} {i:Nat} (h1:i≤g.Cells.size) (h2:gridOk g∨i=0) (h3:¬i<g.Cells.size∨¬gridOk g):(Qe g i).1=Qb g:=by
 unfold Qb
 split
 ·rename_i hh
  rcases h3 with h3 | h3
  ·rw [show i=g.Cells.size by omega]
  ·contradiction
 ·rename_i hh
  rw [h2.resolve_left hh]
  rfl
theorem QhT {g:D.Grid} (h:¬gridOk g):Qb g= []:=if_neg h
theorem ZE (g:D.Grid):(Qb g).length≤72:=by
 unfold Qb
 split
 ·rename_i hh
  have:=hh.size
  have:=(QaK g g.Cells.size).2
  omega
 ·simp
end
theorem ZI (n:Nat) (g:D.Grid) (hc:g.Cells.size≤maxLen):Pure (Qr Tryz.prog (n+3)) 51 [(T.agg (Qa false g))] (T.sl true 4 ((Qb g).map (Qi true))):=by
 refine Pure.intro (rs:= [ResultVar.tmp 2]) Tryz.func51 rfl rfl rfl (E0:= [(0,(T.agg (Qa false g)))]) rfl ?_
 obtain ⟨hlim,hmx,hmax⟩:=QJ
 refine sr (kO (B.box (ts:=(Qa false g)) (tv (T.agg (Qa false g)) rfl) nofun rfl) (fO (OF.assign VEv.nils) (nt (sr (kO (OM.slice0 J8 Jg (by kernel_rfl) rfl (by rw [ZM];decide) ZM) (aO (T.os 4 1 0 0) rfl (nt (sr (fO (OF.assign (VEv.int .i64 0)) (nt (sq ?_)))))))))))
 refine sr (fO (OF.assign (VEv.int .i64 0)) (nt (VRun.block ?_)))
 have he1: []=(((Qe g 0).1).map (Qi true)):=by rfl
 refine VRun.loop (A:=Nat) (fun s_=> [(1,(T.op 0 0)),(2,T.nils),(3,(T.os 4 1 0 ((((Qe g s_).1).map (Qi true)).length))),(4,(tN ((Qe g s_).2))),(5,(tN s_))]) (fun s_=>Q3 [(0,(Obj.cells (Qa false g))),(1,(Obj.rows 4 (((Qe g s_).1).map (Qi true))))]) 2 (fun s_=>s_≤g.Cells.size∧(gridOk g∨s_=0)) (fun s_=>g.Cells.size - s_) (0:Nat) ?_ (Wk.mk (fun k=>k) ?_ ?_ ?_) ?_
 ·exact ⟨Nat.zero_le _, .inr rfl⟩
 ·exact (b2 (b2 (bc ⟨(congrArg (fun n_=>T.os 4 1 0 n_) (show 0=(((Qe g 0).1).map (Qi true)).length from (by rfl))),rfl⟩ (bc ⟨(congrArg (T.int .i64) (show 0=(((Qe g 0).2:Nat):Int) from (by rfl))),rfl⟩ (b2 bn)))))
 ·exact (b3 (bc ⟨(congrArg (fun l_=>some (Obj.rows 4 l_)) he1),(lb rfl),rfl⟩ bn))
 ·exact nd rfl
 rintro i (hI':i≤g.Cells.size∧(gridOk g∨i=0))
 show VRun _ _ _ [(1,(T.op 0 0)),(2,T.nils),(3,(T.os 4 1 0 ((((Qe g i).1).map (Qi true)).length))),(4,(tN ((Qe g i).2))),(5,(tN i))] (Q3 [(0,(Obj.cells (Qa false g))),(1,(Obj.rows 4 (((Qe g i).1).map (Qi true))))]) 2 _
 have hI1:=hI'.1
 have hbd:=QaK g i
 refine sq (sr (mO (tN i) rfl (lf (tS g.Cells) rfl QD rfl rfl Z3 (lO (B.lenS (tv (tS g.Cells) rfl) U9) (fO (Zt (tv (tN i) rfl) (tv (tN g.Cells.size) rfl)) (mO (tB (decide (i<g.Cells.size))) rfl ?_))))))
 refine gw (i<g.Cells.size) (fun fhg14_2=> ?_) fun fhg14_2=> ?_
 ·refine gL (dy fhg14_2) rfl rfl (OL.loadOn (us:=(Qa false g)) (tv (T.op 0 0) rfl) rfl QY QR (lb rfl) rfl) ?_
  refine VRunO.chain (VWant.on rfl rfl (dy fhg14_2)) (cS (vc (tv (T.agg (Qa false g)) rfl) vn) (LendL.cons (lg Qt) ln) (Zr (n+0) g (by assumption)) rfl rfl) (fO (OF.pickT (VEv.tmpB rfl (dy fhg14_2)) (tv (tB (decide (gridOk g))) rfl)) (nt ?_))
  refine cd (gridOk g) rfl (fun fhc0=> ?_) fun fhc0=> ?_
  ·have hgo:gridOk g:=by assumption
   have hsz:=hgo.size
   refine sk (tn (sq (VRun.block (sr (lO (OL.loadOn (us:=(Qa false g)) (tv (T.op 0 0) rfl) rfl QY QR (lb rfl) rfl) (mO (tN i) rfl (cO (cS (vc (tv (T.agg (Qa false g)) rfl) (vc (tv (tN i) rfl) (vc (VEv.bool false) vn))) (LendL.cons (lg Qt) (lp rfl (lp rfl ln))) (QaY (n+1) g i false (by assumption) (by assumption)) rfl rfl) (aO (tN (Qo g i false)) rfl (nt (sr (lO (OL.loadOn (us:=(Qa false g)) (tv (T.op 0 0) rfl) rfl QY QR (lb rfl) rfl) ?_)))))))))))
   refine mO (tN i) rfl (cO (cS (vc (tv (T.agg (Qa false g)) rfl) (vc (tv (tN i) rfl) (vc (VEv.bool true) vn))) (LendL.cons (lg Qt) (lp rfl (lp rfl ln))) (QaY (n+1) g i true (by assumption) (by assumption)) rfl rfl) (aO (tN (Qo g i true)) rfl (nt (sq (sr (mO (tN (Qo g i false)) rfl (fO (B.geq (c:=(decide (2≤Qo g i false))) (tv (tN (Qo g i false)) rfl) (VEv.int .i64 2) (by exact Q8 (by omega))) (mO (tB (decide (2≤Qo g i false))) rfl ?_))))))))
   refine gw (2≤Qo g i false) (fun fhg28_3=> ?_) fun fhg28_3=> ?_
   ·refine QC 2 2 false 28 (dy fhg28_3) rfl rfl rfl ?_
    refine fO (OF.pickT (VEv.tmpB rfl (dy fhg28_3)) (VEv.bool true)) (nt (ct rfl (VRun.region (mO (tN ((Qe g i).2)) rfl (fO (QF (tv (tN ((Qe g i).2)) rfl) (VEv.int .i64 1) (by omega)) (aO (tN ((Qe g i).2+1)) rfl (VRunO.nil (tn (sq (sr (mO (tN (Qo g i false)) rfl ?_)))))))))))
    refine fO (B.geq (c:=(decide (2≤Qo g i false))) (tv (tN (Qo g i false)) rfl) (VEv.int .i64 2) (by exact Q8 (by omega))) (nt (ck (dy fhg28_3) rfl (VRun.region (mO (T.os 4 1 0 ((((Qe g i).1).map (Qi true)).length)) rfl (mO (tN ((Qe g i).2+1)) rfl (mO (tN i) rfl (mO (tN (Qo g i false)) rfl (fO (OF.build (l:= [(0,(tN ((Qe g i).2+1))),(2,(tN i)),(3,(tN (Qo g i false)))]) (zs:= [(tN 0),(tB false),(tN 0),(tN 0)]) (out:= [(tN ((Qe g i).2+1)),(tB false),(tN i),(tN (Qo g i false))]) (VEvp.cons (i:=0) (tv (tN ((Qe g i).2+1)) rfl) (VEvp.cons (i:=2) (tv (tN i) rfl) (VEvp.cons (i:=3) (tv (tN (Qo g i false)) rfl) VEvp.nil))) (bc nofun (bc nofun (bc nofun bn))) Tryz.underlying97 Jg (fun _=>RL.cons (.int _ _) (RL.cons (.bool _) (RL.cons (.int _ _) (RL.cons (.int _ _) (RL.nil _))))) (by kernel_rfl) (by kernel_rfl)) (kO (OM.buildSlice (l:= [(T.agg [(tN ((Qe g i).2+1)),(tB false),(tN i),(tN (Qo g i false))])]) (VEvp.cons (tv (T.agg [(tN ((Qe g i).2+1)),(tB false),(tN i),(tN (Qo g i false))]) rfl) VEvp.nil) rfl (by decide) (bc (nofun) bn) (bc ((bc (rfl) (bc (rfl) (bc (rfl) (bc (rfl) bn))))) bn) (bc (rfl) bn) J8 Jg (by kernel_rfl) rfl (by rw [ZM];decide) ZM (Nat.le_of_ble_eq_true rfl)) (cO (B.append (rows:=(((Qe g i).1).map (Qi true))) (rows2:= [[(tN ((Qe g i).2+1)),(tB false),(tN i),(tN (Qo g i false))]]) (rows3:=(((Qe g i).1++ [(D.Slot.mk ((((Qe g i).2+1):Nat):Int) false ((i:Nat):Int) ((Qo g i false:Nat):Int))]).map (Qi true))) (VDst.own (tv (T.os 4 1 0 ((((Qe g i).1).map (Qi true)).length)) rfl) rfl rfl) (VSrc.own (tv (T.os 4 2 0 1) rfl) rfl rfl J8 (bc (bc rfl (bc rfl (bc rfl (bc rfl bn)))) bn)) (by decide) J8 ZM (by decide) Jg rfl (of_decide_eq_true (by kernel_rfl)) (by (simp only [List.length_map,List.length_append,List.length_cons,List.length_nil,List.length_replicate,List.length_set,List.length_drop,List.length_take,Yd] at *;omega)) ((List.map_append (f:=Qi true) (l₁:=(Qe g i).1) (l₂:= [(D.Slot.mk ((((Qe g i).2+1):Nat):Int) false ((i:Nat):Int) ((Qo g i false:Nat):Int))])).symm)) (aO (T.os 4 3 0 ((((Qe g i).1++ [(D.Slot.mk ((((Qe g i).2+1):Nat):Int) false ((i:Nat):Int) ((Qo g i false:Nat):Int))]).map (Qi true)).length)) rfl ?_)))))))))))
    refine VRunO.nil (tn (sr (mO (tN (Qo g i true)) rfl (fO (B.geq (c:=(decide (2≤Qo g i true))) (tv (tN (Qo g i true)) rfl) (VEv.int .i64 2) (by exact Q8 (by omega))) (nt ?_)))))
    refine cd (2≤Qo g i true) rfl (fun fhc3=> ?_) fun fhc3=> ?_
    ·refine VRun.region ?_
     refine mO (T.os 4 3 0 ((((Qe g i).1++ [(D.Slot.mk ((((Qe g i).2+1):Nat):Int) false ((i:Nat):Int) ((Qo g i false:Nat):Int))]).map (Qi true)).length)) rfl (mO (tN ((Qe g i).2+1)) rfl (mO (tN i) rfl (mO (tN (Qo g i true)) rfl (fO (OF.build (l:= [(0,(tN ((Qe g i).2+1))),(1,(tB true)),(2,(tN i)),(3,(tN (Qo g i true)))]) (zs:= [(tN 0),(tB false),(tN 0),(tN 0)]) (out:= [(tN ((Qe g i).2+1)),(tB true),(tN i),(tN (Qo g i true))]) (VEvp.cons (i:=0) (tv (tN ((Qe g i).2+1)) rfl) (VEvp.cons (i:=1) (VEv.bool true) (VEvp.cons (i:=2) (tv (tN i) rfl) (VEvp.cons (i:=3) (tv (tN (Qo g i true)) rfl) VEvp.nil)))) (bc nofun (bc nofun (bc nofun (bc nofun bn)))) Tryz.underlying97 Jg (fun _=>RL.cons (.int _ _) (RL.cons (.bool _) (RL.cons (.int _ _) (RL.cons (.int _ _) (RL.nil _))))) (by kernel_rfl) (by kernel_rfl)) (kO (OM.buildSlice (l:= [(T.agg [(tN ((Qe g i).2+1)),(tB true),(tN i),(tN (Qo g i true))])]) (VEvp.cons (tv (T.agg [(tN ((Qe g i).2+1)),(tB true),(tN i),(tN (Qo g i true))]) rfl) VEvp.nil) rfl (by decide) (bc (nofun) bn) (bc ((bc (rfl) (bc (rfl) (bc (rfl) (bc (rfl) bn))))) bn) (bc (rfl) bn) J8 Jg (by kernel_rfl) rfl (by rw [ZM];decide) ZM (Nat.le_of_ble_eq_true rfl)) (cO (B.append (rows:=(((Qe g i).1++ [(D.Slot.mk ((((Qe g i).2+1):Nat):Int) false ((i:Nat):Int) ((Qo g i false:Nat):Int))]).map (Qi true))) (rows2:= [[(tN ((Qe g i).2+1)),(tB true),(tN i),(tN (Qo g i true))]]) (rows3:=((((Qe g i).1++ [(D.Slot.mk ((((Qe g i).2+1):Nat):Int) false ((i:Nat):Int) ((Qo g i false:Nat):Int))])++ [(D.Slot.mk ((((Qe g i).2+1):Nat):Int) true ((i:Nat):Int) ((Qo g i true:Nat):Int))]).map (Qi true))) (VDst.own (tv (T.os 4 3 0 ((((Qe g i).1++ [(D.Slot.mk ((((Qe g i).2+1):Nat):Int) false ((i:Nat):Int) ((Qo g i false:Nat):Int))]).map (Qi true)).length)) rfl) rfl rfl) (VSrc.own (tv (T.os 4 4 0 1) rfl) rfl rfl J8 (bc (bc rfl (bc rfl (bc rfl (bc rfl bn)))) bn)) (by decide) J8 ZM (by decide) Jg rfl (of_decide_eq_true (by kernel_rfl)) (by (simp only [List.length_map,List.length_append,List.length_cons,List.length_nil,List.length_replicate,List.length_set,List.length_drop,List.length_take,Yd] at *;omega)) ((List.map_append (f:=Qi true) (l₁:=((Qe g i).1++ [(D.Slot.mk ((((Qe g i).2+1):Nat):Int) false ((i:Nat):Int) ((Qo g i false:Nat):Int))])) (l₂:= [(D.Slot.mk ((((Qe g i).2+1):Nat):Int) true ((i:Nat):Int) ((Qo g i true:Nat):Int))])).symm)) (aO (T.os 4 5 0 (((((Qe g i).1++ [(D.Slot.mk ((((Qe g i).2+1):Nat):Int) false ((i:Nat):Int) ((Qo g i false:Nat):Int))])++ [(D.Slot.mk ((((Qe g i).2+1):Nat):Int) true ((i:Nat):Int) ((Qo g i true:Nat):Int))]).map (Qi true)).length)) rfl (VRunO.nil (vinB.n (tn (VRun.region ?_)))))))))))
     refine mO (tN i) rfl (fO (QF (tv (tN i) rfl) (VEv.int .i64 1) (by omega)) (aO (tN (i+1)) rfl (VRunO.nil (tn ?_))))
     have hgo:gridOk g:=by assumption
     have he4:(((Qe g i).1++ [(D.Slot.mk ((((Qe g i).2+1):Nat):Int) false ((i:Nat):Int) ((Qo g i false:Nat):Int))])++ [(D.Slot.mk ((((Qe g i).2+1):Nat):Int) true ((i:Nat):Int) ((Qo g i true:Nat):Int))])=(Qe g (i+1)).1:=by (rw [Yc,ZB];simp [*];done)
     refine ⟨(i+1:Nat),?_,?_,Wk.mk (fun k=>if k=1 then 5 else k) ?_ ?_ ?_⟩
     ·exact ⟨by omega, .inl hgo⟩
     ·omega
     ·exact (b2 (b2 (bc ⟨(congrArg (fun l_=>T.os 4 5 0 (List.map (Qi true) l_).length) he4),rfl⟩ (bc ⟨(congrArg (T.int .i64) (show ((((Qe g i).2+1):Nat):Int)=(((Qe g (i+1)).2:Nat):Int) from (by (rw [ZB];simp [*];done)))),rfl⟩ (b2 bn)))))
     ·exact (b3 (bc ⟨(congrArg (fun l_=>some (Obj.rows 4 (List.map (Qi true) l_))) he4),(lb rfl),rfl⟩ bn))
     ·exact nd rfl
    refine sk (vinB.n (tn (VRun.region (mO (tN i) rfl (fO (QF (tv (tN i) rfl) (VEv.int .i64 1) (by omega)) (aO (tN (i+1)) rfl (VRunO.nil (tn ?_))))))))
    have hgo:gridOk g:=by assumption
    have he5:((Qe g i).1++ [(D.Slot.mk ((((Qe g i).2+1):Nat):Int) false ((i:Nat):Int) ((Qo g i false:Nat):Int))])=(Qe g (i+1)).1:=by (rw [Yc,ZB];simp [*];done)
    refine ⟨(i+1:Nat),?_,?_,Wk.mk (fun k=>if k=1 then 3 else k) ?_ ?_ ?_⟩
    ·exact ⟨by omega, .inl hgo⟩
    ·omega
    ·exact (b2 (b2 (bc ⟨(congrArg (fun l_=>T.os 4 3 0 (List.map (Qi true) l_).length) he5),rfl⟩ (bc ⟨(congrArg (T.int .i64) (show ((((Qe g i).2+1):Nat):Int)=(((Qe g (i+1)).2:Nat):Int) from (by (rw [ZB];simp [*];done)))),rfl⟩ (b2 bn)))))
    ·exact (b3 (bc ⟨(congrArg (fun l_=>some (Obj.rows 4 (List.map (Qi true) l_))) he5),(lb rfl),rfl⟩ bn))
    ·exact nd rfl
   refine gF (dz fhg28_3) rfl rfl (OF.move (tv (tN (Qo g i true)) rfl)) (gF (dz fhg28_3) rfl rfl (B.geq (c:=(decide (2≤Qo g i true))) (tv (tN (Qo g i true)) rfl) (VEv.int .i64 2) (by exact Q8 (by omega))) (fO (OF.pickF (VEv.tmpB rfl (dz fhg28_3)) (tv (tB (decide (2≤Qo g i true))) rfl)) (nt ?_)))
   refine cd (2≤Qo g i true) rfl (fun fhc1=> ?_) fun fhc1=> ?_
   ·refine VRun.region ?_
    refine mO (tN ((Qe g i).2)) rfl (fO (QF (tv (tN ((Qe g i).2)) rfl) (VEv.int .i64 1) (by omega)) (aO (tN ((Qe g i).2+1)) rfl (VRunO.nil (tn (sq (sr (mO (tN (Qo g i false)) rfl (fO (B.geq (c:=(decide (2≤Qo g i false))) (tv (tN (Qo g i false)) rfl) (VEv.int .i64 2) (by exact Q8 (by omega))) (nt (cg (dz fhg28_3) rfl (sk ?_)))))))))))
    refine tn (sr (mO (tN (Qo g i true)) rfl (fO (B.geq (c:=(decide (2≤Qo g i true))) (tv (tN (Qo g i true)) rfl) (VEv.int .i64 2) (by exact Q8 (by omega))) (nt (ck (dy fhc1) rfl (VRun.region (mO (T.os 4 1 0 ((((Qe g i).1).map (Qi true)).length)) rfl (mO (tN ((Qe g i).2+1)) rfl (mO (tN i) rfl (mO (tN (Qo g i true)) rfl (fO (OF.build (l:= [(0,(tN ((Qe g i).2+1))),(1,(tB true)),(2,(tN i)),(3,(tN (Qo g i true)))]) (zs:= [(tN 0),(tB false),(tN 0),(tN 0)]) (out:= [(tN ((Qe g i).2+1)),(tB true),(tN i),(tN (Qo g i true))]) (VEvp.cons (i:=0) (tv (tN ((Qe g i).2+1)) rfl) (VEvp.cons (i:=1) (VEv.bool true) (VEvp.cons (i:=2) (tv (tN i) rfl) (VEvp.cons (i:=3) (tv (tN (Qo g i true)) rfl) VEvp.nil)))) (bc nofun (bc nofun (bc nofun (bc nofun bn)))) Tryz.underlying97 Jg (fun _=>RL.cons (.int _ _) (RL.cons (.bool _) (RL.cons (.int _ _) (RL.cons (.int _ _) (RL.nil _))))) (by kernel_rfl) (by kernel_rfl)) ?_)))))))))))
    refine kO (OM.buildSlice (l:= [(T.agg [(tN ((Qe g i).2+1)),(tB true),(tN i),(tN (Qo g i true))])]) (VEvp.cons (tv (T.agg [(tN ((Qe g i).2+1)),(tB true),(tN i),(tN (Qo g i true))]) rfl) VEvp.nil) rfl (by decide) (bc (nofun) bn) (bc ((bc (rfl) (bc (rfl) (bc (rfl) (bc (rfl) bn))))) bn) (bc (rfl) bn) J8 Jg (by kernel_rfl) rfl (by rw [ZM];decide) ZM (Nat.le_of_ble_eq_true rfl)) (cO (B.append (rows:=(((Qe g i).1).map (Qi true))) (rows2:= [[(tN ((Qe g i).2+1)),(tB true),(tN i),(tN (Qo g i true))]]) (rows3:=(((Qe g i).1++ [(D.Slot.mk ((((Qe g i).2+1):Nat):Int) true ((i:Nat):Int) ((Qo g i true:Nat):Int))]).map (Qi true))) (VDst.own (tv (T.os 4 1 0 ((((Qe g i).1).map (Qi true)).length)) rfl) rfl rfl) (VSrc.own (tv (T.os 4 2 0 1) rfl) rfl rfl J8 (bc (bc rfl (bc rfl (bc rfl (bc rfl bn)))) bn)) (by decide) J8 ZM (by decide) Jg rfl (of_decide_eq_true (by kernel_rfl)) (by (simp only [List.length_map,List.length_append,List.length_cons,List.length_nil,List.length_replicate,List.length_set,List.length_drop,List.length_take,Yd] at *;omega)) ((List.map_append (f:=Qi true) (l₁:=(Qe g i).1) (l₂:= [(D.Slot.mk ((((Qe g i).2+1):Nat):Int) true ((i:Nat):Int) ((Qo g i true:Nat):Int))])).symm)) (aO (T.os 4 3 0 ((((Qe g i).1++ [(D.Slot.mk ((((Qe g i).2+1):Nat):Int) true ((i:Nat):Int) ((Qo g i true:Nat):Int))]).map (Qi true)).length)) rfl (VRunO.nil (vinB.n (tn (VRun.region (mO (tN i) rfl (fO (QF (tv (tN i) rfl) (VEv.int .i64 1) (by omega)) (aO (tN (i+1)) rfl (VRunO.nil (tn ?_)))))))))))
    have hgo:gridOk g:=by assumption
    have he6:((Qe g i).1++ [(D.Slot.mk ((((Qe g i).2+1):Nat):Int) true ((i:Nat):Int) ((Qo g i true:Nat):Int))])=(Qe g (i+1)).1:=by (rw [Yc,ZB];simp [*];done)
    refine ⟨(i+1:Nat),?_,?_,Wk.mk (fun k=>if k=1 then 3 else k) ?_ ?_ ?_⟩
    ·exact ⟨by omega, .inl hgo⟩
    ·omega
    ·exact (b2 (b2 (bc ⟨(congrArg (fun l_=>T.os 4 3 0 (List.map (Qi true) l_).length) he6),rfl⟩ (bc ⟨(congrArg (T.int .i64) (show ((((Qe g i).2+1):Nat):Int)=(((Qe g (i+1)).2:Nat):Int) from (by (rw [ZB];simp [*];done)))),rfl⟩ (b2 bn)))))
    ·exact (b3 (bc ⟨(congrArg (fun l_=>some (Obj.rows 4 (List.map (Qi true) l_))) he6),(lb rfl),rfl⟩ bn))
    ·exact nd rfl
   refine sk (tn (sq (sr (mO (tN (Qo g i false)) rfl (fO (B.geq (c:=(decide (2≤Qo g i false))) (tv (tN (Qo g i false)) rfl) (VEv.int .i64 2) (by exact Q8 (by omega))) (nt (cg (dz fhg28_3) rfl (sk (tn (sr (mO (tN (Qo g i true)) rfl ?_)))))))))))
   refine fO (B.geq (c:=(decide (2≤Qo g i true))) (tv (tN (Qo g i true)) rfl) (VEv.int .i64 2) (by exact Q8 (by omega))) (nt (cg (dz fhc1) rfl (sk (vinB.n (tn (VRun.region (mO (tN i) rfl (fO (QF (tv (tN i) rfl) (VEv.int .i64 1) (by omega)) (aO (tN (i+1)) rfl (VRunO.nil (tn ?_)))))))))))
   have hgo:gridOk g:=by assumption
   have he7:(Qe g i).1=(Qe g (i+1)).1:=by (rw [Yc,ZB];simp [*];done)
   refine ⟨(i+1:Nat),?_,?_,Wk.mk (fun k=>k) ?_ ?_ ?_⟩
   ·exact ⟨by omega, .inl hgo⟩
   ·omega
   ·exact (b2 (b2 (bc ⟨(congrArg (fun l_=>T.os 4 1 0 (List.map (Qi true) l_).length) he7),rfl⟩ (bc ⟨(congrArg (T.int .i64) (show (((Qe g i).2:Nat):Int)=(((Qe g (i+1)).2:Nat):Int) from (by (rw [ZB];simp [*];done)))),rfl⟩ (b2 bn)))))
   ·exact (b3 (bc ⟨(congrArg (fun l_=>some (Obj.rows 4 (List.map (Qi true) l_))) he7),(lb rfl),rfl⟩ bn))
   ·exact nd rfl
  refine VRun.exit (vthn.e (vthn.e (vinB.e (tn (sr (mO (T.os 4 1 0 ((((Qe g i).1).map (Qi true)).length)) rfl (aO (T.os 4 1 0 ((((Qe g i).1).map (Qi true)).length)) rfl (nt (rt ?_)))))))))
  refine vfin.eq (r':=(T.sl true 4 (((Qe g i).1).map (Qi true)))) ?_ (vfin.r (VRes.tmp (t:=(T.os 4 1 0 ((((Qe g i).1).map (Qi true)).length))) rfl VRes.nil) (Give.os rfl rfl (okeSlot.cleanMap _)))
  refine congrArg (fun l_=>T.sl true 4 (List.map (Qi true) l_)) ?_
  refine Qcs hI1 hI'.2 ?_;(right;assumption)
 refine QC 2 5 true 14 (dz fhg14_2) rfl rfl rfl (fO (OF.pickF (VEv.tmpB rfl (dz fhg14_2)) (VEv.bool false)) (nt (cf rfl (VRun.exit (vthn.e (vthn.e (vinB.e (tn (sr (mO (T.os 4 1 0 ((((Qe g i).1).map (Qi true)).length)) rfl (aO (T.os 4 1 0 ((((Qe g i).1).map (Qi true)).length)) rfl ?_)))))))))))
 refine nt (rt ?_)
 refine vfin.eq (r':=(T.sl true 4 (((Qe g i).1).map (Qi true)))) ?_ (vfin.r (VRes.tmp (t:=(T.os 4 1 0 ((((Qe g i).1).map (Qi true)).length))) rfl VRes.nil) (Give.os rfl rfl (okeSlot.cleanMap _)))
 refine congrArg (fun l_=>T.sl true 4 (List.map (Qi true) l_)) ?_
 refine Qcs hI1 hI'.2 ?_;(left;assumption)
theorem Jc (n:Nat) (g:D.Grid) (hc:g.Cells.size≤maxLen):Pure (Qr Tryz.prog (n+3)) 56 [(T.agg (Qa false g))] (T.sl true 4 ((Qb g).map (Qi true))):=by
 refine Pure.intro (rs:= [ResultVar.tmp 2]) Tryz.func56 rfl rfl rfl (E0:= [(0,(T.agg (Qa false g)))]) rfl ?_
 obtain ⟨hlim,hmx,hmax⟩:=QJ
 refine sr (kO (B.box (ts:=(Qa false g)) (tv (T.agg (Qa false g)) rfl) nofun rfl) (fO (OF.assign VEv.nils) (nt (sq (sr (lO (OL.loadOn (us:=(Qa false g)) (tv (T.op 0 0) rfl) rfl QY QR (lb rfl) rfl) (cO (cS (vc (tv (T.agg (Qa false g)) rfl) vn) (LendL.cons (lg Qt) ln) (ZQ (n+0) g (by assumption)) rfl rfl) (fO (Q1 (tv (tB (decide (gridOk g))) rfl)) (nt ?_)))))))))
 refine cn (gridOk g) rfl (fun fhc0=> ?_) fun fhc0=> ?_
 ·refine sr ?_
  refine fO (OF.assign VEv.nils) (nt (rt (tr ?_)))
  refine vfin.eq (r':=(T.sl true 4 [])) ?_ (vfin.r (VRes.tmp (t:=T.nils) rfl VRes.nil) (Give.nils 4))
  refine congrArg (fun l_=>T.sl true 4 (List.map (Qi true) l_)) (a₁:= []) ?_
  exact (QhT fhc0).symm
 refine sk (tn (sr (fO (OF.assign VEv.nils) (nt (sr (fO (OF.assign (VEv.int .i64 0)) (nt (sq (sr (lf (tS g.Cells) rfl QD rfl rfl Z3 (lO (B.lenS (tv (tS g.Cells) rfl) U9) ?_)))))))))))
 refine fO (OF.move (VEv.int .i64 0)) (nt (VRun.block (VRun.wk (Wk.phantom 3 4 rfl) ?_)))
 have he1: []=(((Qe g 0).1).map (Qi true)):=by rfl
 refine VRun.loop (A:=Nat) (fun s_=> [(1,(T.op 0 0)),(2,T.nils),(3,(T.os 4 1 0 ((((Qe g s_).1).map (Qi true)).length))),(4,(tN ((Qe g s_).2))),(13,(tN g.Cells.size)),(14,(tN s_))]) (fun s_=>Q3 [(0,(Obj.cells (Qa false g))),(1,(Obj.rows 4 (((Qe g s_).1).map (Qi true))))]) 2 (fun s_=>s_≤g.Cells.size) (fun s_=>g.Cells.size - s_) (0:Nat) ?_ (Wk.mk (fun k=>k) ?_ ?_ ?_) ?_
 ·(simp;done)
 ·exact (b2 (b2 (bc ⟨(congrArg (fun n_=>T.os 4 1 0 n_) (show 0=(((Qe g 0).1).map (Qi true)).length from (by rfl))),rfl⟩ (bc ⟨(congrArg (T.int .i64) (show 0=(((Qe g 0).2:Nat):Int) from (by rfl))),rfl⟩ (b2 (b2 bn))))))
 ·exact (b3 (bc ⟨(congrArg (fun l_=>some (Obj.rows 4 l_)) he1),(lb rfl),rfl⟩ bn))
 ·exact nd rfl
 rintro i (hI':i≤g.Cells.size)
 show VRun _ _ _ [(1,(T.op 0 0)),(2,T.nils),(3,(T.os 4 1 0 ((((Qe g i).1).map (Qi true)).length))),(4,(tN ((Qe g i).2))),(13,(tN g.Cells.size)),(14,(tN i))] (Q3 [(0,(Obj.cells (Qa false g))),(1,(Obj.rows 4 (((Qe g i).1).map (Qi true))))]) 2 _
 have hI1:=hI'
 have hbd:=QaK g i
 have hgo:gridOk g:=by assumption
 have hsz:=hgo.size
 refine sr (fO (Zt (tv (tN i) rfl) (tv (tN g.Cells.size) rfl)) (nt (sq ?_)))
 refine cd (i<g.Cells.size) rfl (fun fhc1=> ?_) fun fhc1=> ?_
 ·refine sk ?_
  refine tn (sq (VRun.block (sr (mO (tN i) rfl (aO (tN i) rfl (nt (sq (VRun.draw (B:= [[],[],[1,0],[],[],[0,1,2,4,3],[3,4,5,0,1,2],[6,3,4,2,1,0,5]]) (by kernel_rfl) (by kernel_rfl) (lD (OL.loadOn (us:=(Qa false g)) (tv (T.op 0 0) rfl) rfl QY QR (lb rfl) rfl) rfl rfl (mD (tN i) rfl rfl (VRunD.quiet (bi:= [1,0]) rfl VWant.always rfl rfl rfl bn (cS (vc (tv (T.agg (Qa false g)) rfl) (vc (tv (tN i) rfl) (vc (VEv.bool false) vn))) (LendL.cons (lg Qt) (lp rfl (lp rfl ln))) (Qdn (n+1) g i false (by assumption) (by assumption)) rfl rfl) ?_)))))))))))
  refine lD (OL.loadOn (us:=(Qa false g)) (tv (T.op 0 0) rfl) rfl QY QR (lb rfl) rfl) rfl rfl (mD (tN i) rfl rfl (VRunD.quiet (bi:= [0,1,2,4,3]) rfl VWant.always rfl rfl rfl bn (cS (vc (tv (T.agg (Qa false g)) rfl) (vc (tv (tN i) rfl) (vc (VEv.bool true) vn))) (LendL.cons (lg Qt) (lp rfl (lp rfl ln))) (Qdn (n+1) g i true (by assumption) (by assumption)) rfl rfl) (fD (OF.assign (tv (tN (Qo g i false)) rfl)) rfl rfl (fD (OF.assign (tv (tN (Qo g i true)) rfl)) rfl rfl (VRunD.nil (tn (sq (sr (mO (tN (Qo g i false)) rfl (fO (B.geq (c:=(decide (2≤Qo g i false))) (tv (tN (Qo g i false)) rfl) (VEv.int .i64 2) (by exact Q8 (by omega))) (mO (tB (decide (2≤Qo g i false))) rfl ?_)))))))))))
  refine gw (2≤Qo g i false) (fun fhg25_2=> ?_) fun fhg25_2=> ?_
  ·refine QC 2 2 false 25 (dy fhg25_2) rfl rfl rfl ?_
   refine fO (OF.pickT (VEv.tmpB rfl (dy fhg25_2)) (VEv.bool true)) (nt (ct rfl (VRun.region (mO (tN ((Qe g i).2)) rfl (fO (QF (tv (tN ((Qe g i).2)) rfl) (VEv.int .i64 1) (by omega)) (aO (tN ((Qe g i).2+1)) rfl (VRunO.nil (tn (sq (sr (mO (tN (Qo g i false)) rfl ?_)))))))))))
   refine fO (B.geq (c:=(decide (2≤Qo g i false))) (tv (tN (Qo g i false)) rfl) (VEv.int .i64 2) (by exact Q8 (by omega))) (nt (ck (dy fhg25_2) rfl (VRun.region (mO (T.os 4 1 0 ((((Qe g i).1).map (Qi true)).length)) rfl (mO (tN ((Qe g i).2+1)) rfl (mO (tN i) rfl (mO (tN (Qo g i false)) rfl (fO (OF.build (l:= [(0,(tN ((Qe g i).2+1))),(1,(tB false)),(2,(tN i)),(3,(tN (Qo g i false)))]) (zs:= [(tN 0),(tB false),(tN 0),(tN 0)]) (out:= [(tN ((Qe g i).2+1)),(tB false),(tN i),(tN (Qo g i false))]) (VEvp.cons (i:=0) (tv (tN ((Qe g i).2+1)) rfl) (VEvp.cons (i:=1) (VEv.bool false) (VEvp.cons (i:=2) (tv (tN i) rfl) (VEvp.cons (i:=3) (tv (tN (Qo g i false)) rfl) VEvp.nil)))) (bc nofun (bc nofun (bc nofun (bc nofun bn)))) Tryz.underlying97 Jg (fun _=>RL.cons (.int _ _) (RL.cons (.bool _) (RL.cons (.int _ _) (RL.cons (.int _ _) (RL.nil _))))) (by kernel_rfl) (by kernel_rfl)) (kO (OM.buildSlice (l:= [(T.agg [(tN ((Qe g i).2+1)),(tB false),(tN i),(tN (Qo g i false))])]) (VEvp.cons (tv (T.agg [(tN ((Qe g i).2+1)),(tB false),(tN i),(tN (Qo g i false))]) rfl) VEvp.nil) rfl (by decide) (bc (nofun) bn) (bc ((bc (rfl) (bc (rfl) (bc (rfl) (bc (rfl) bn))))) bn) (bc (rfl) bn) J8 Jg (by kernel_rfl) rfl (by rw [ZM];decide) ZM (Nat.le_of_ble_eq_true rfl)) (cO (B.append (rows:=(((Qe g i).1).map (Qi true))) (rows2:= [[(tN ((Qe g i).2+1)),(tB false),(tN i),(tN (Qo g i false))]]) (rows3:=(((Qe g i).1++ [(D.Slot.mk ((((Qe g i).2+1):Nat):Int) false ((i:Nat):Int) ((Qo g i false:Nat):Int))]).map (Qi true))) (VDst.own (tv (T.os 4 1 0 ((((Qe g i).1).map (Qi true)).length)) rfl) rfl rfl) (VSrc.own (tv (T.os 4 2 0 1) rfl) rfl rfl J8 (bc (bc rfl (bc rfl (bc rfl (bc rfl bn)))) bn)) (by decide) J8 ZM (by decide) Jg rfl (of_decide_eq_true (by kernel_rfl)) (by (simp only [List.length_map,List.length_append,List.length_cons,List.length_nil,List.length_replicate,List.length_set,List.length_drop,List.length_take,Yd] at *;omega)) ((List.map_append (f:=Qi true) (l₁:=(Qe g i).1) (l₂:= [(D.Slot.mk ((((Qe g i).2+1):Nat):Int) false ((i:Nat):Int) ((Qo g i false:Nat):Int))])).symm)) (aO (T.os 4 3 0 ((((Qe g i).1++ [(D.Slot.mk ((((Qe g i).2+1):Nat):Int) false ((i:Nat):Int) ((Qo g i false:Nat):Int))]).map (Qi true)).length)) rfl ?_)))))))))))
   refine VRunO.nil (tn (sr (mO (tN (Qo g i true)) rfl (fO (B.geq (c:=(decide (2≤Qo g i true))) (tv (tN (Qo g i true)) rfl) (VEv.int .i64 2) (by exact Q8 (by omega))) (nt ?_)))))
   refine cd (2≤Qo g i true) rfl (fun fhc4=> ?_) fun fhc4=> ?_
   ·refine VRun.region ?_
    refine mO (T.os 4 3 0 ((((Qe g i).1++ [(D.Slot.mk ((((Qe g i).2+1):Nat):Int) false ((i:Nat):Int) ((Qo g i false:Nat):Int))]).map (Qi true)).length)) rfl (mO (tN ((Qe g i).2+1)) rfl (mO (tN i) rfl (mO (tN (Qo g i true)) rfl (fO (OF.build (l:= [(0,(tN ((Qe g i).2+1))),(1,(tB true)),(2,(tN i)),(3,(tN (Qo g i true)))]) (zs:= [(tN 0),(tB false),(tN 0),(tN 0)]) (out:= [(tN ((Qe g i).2+1)),(tB true),(tN i),(tN (Qo g i true))]) (VEvp.cons (i:=0) (tv (tN ((Qe g i).2+1)) rfl) (VEvp.cons (i:=1) (VEv.bool true) (VEvp.cons (i:=2) (tv (tN i) rfl) (VEvp.cons (i:=3) (tv (tN (Qo g i true)) rfl) VEvp.nil)))) (bc nofun (bc nofun (bc nofun (bc nofun bn)))) Tryz.underlying97 Jg (fun _=>RL.cons (.int _ _) (RL.cons (.bool _) (RL.cons (.int _ _) (RL.cons (.int _ _) (RL.nil _))))) (by kernel_rfl) (by kernel_rfl)) (kO (OM.buildSlice (l:= [(T.agg [(tN ((Qe g i).2+1)),(tB true),(tN i),(tN (Qo g i true))])]) (VEvp.cons (tv (T.agg [(tN ((Qe g i).2+1)),(tB true),(tN i),(tN (Qo g i true))]) rfl) VEvp.nil) rfl (by decide) (bc (nofun) bn) (bc ((bc (rfl) (bc (rfl) (bc (rfl) (bc (rfl) bn))))) bn) (bc (rfl) bn) J8 Jg (by kernel_rfl) rfl (by rw [ZM];decide) ZM (Nat.le_of_ble_eq_true rfl)) (cO (B.append (rows:=(((Qe g i).1++ [(D.Slot.mk ((((Qe g i).2+1):Nat):Int) false ((i:Nat):Int) ((Qo g i false:Nat):Int))]).map (Qi true))) (rows2:= [[(tN ((Qe g i).2+1)),(tB true),(tN i),(tN (Qo g i true))]]) (rows3:=((((Qe g i).1++ [(D.Slot.mk ((((Qe g i).2+1):Nat):Int) false ((i:Nat):Int) ((Qo g i false:Nat):Int))])++ [(D.Slot.mk ((((Qe g i).2+1):Nat):Int) true ((i:Nat):Int) ((Qo g i true:Nat):Int))]).map (Qi true))) (VDst.own (tv (T.os 4 3 0 ((((Qe g i).1++ [(D.Slot.mk ((((Qe g i).2+1):Nat):Int) false ((i:Nat):Int) ((Qo g i false:Nat):Int))]).map (Qi true)).length)) rfl) rfl rfl) (VSrc.own (tv (T.os 4 4 0 1) rfl) rfl rfl J8 (bc (bc rfl (bc rfl (bc rfl (bc rfl bn)))) bn)) (by decide) J8 ZM (by decide) Jg rfl (of_decide_eq_true (by kernel_rfl)) (by (simp only [List.length_map,List.length_append,List.length_cons,List.length_nil,List.length_replicate,List.length_set,List.length_drop,List.length_take,Yd] at *;omega)) ((List.map_append (f:=Qi true) (l₁:=((Qe g i).1++ [(D.Slot.mk ((((Qe g i).2+1):Nat):Int) false ((i:Nat):Int) ((Qo g i false:Nat):Int))])) (l₂:= [(D.Slot.mk ((((Qe g i).2+1):Nat):Int) true ((i:Nat):Int) ((Qo g i true:Nat):Int))])).symm)) (aO (T.os 4 5 0 (((((Qe g i).1++ [(D.Slot.mk ((((Qe g i).2+1):Nat):Int) false ((i:Nat):Int) ((Qo g i false:Nat):Int))])++ [(D.Slot.mk ((((Qe g i).2+1):Nat):Int) true ((i:Nat):Int) ((Qo g i true:Nat):Int))]).map (Qi true)).length)) rfl (VRunO.nil (vinB.n (tn (VRun.region ?_)))))))))))
    refine fO (QF (tv (tN i) rfl) (VEv.int .i64 1) (by omega)) (mO (tN (i+1)) rfl (VRunO.nil (tn ?_)))
    have he3:(((Qe g i).1++ [(D.Slot.mk ((((Qe g i).2+1):Nat):Int) false ((i:Nat):Int) ((Qo g i false:Nat):Int))])++ [(D.Slot.mk ((((Qe g i).2+1):Nat):Int) true ((i:Nat):Int) ((Qo g i true:Nat):Int))])=(Qe g (i+1)).1:=by (rw [Yc,ZB];simp [*];done)
    refine ⟨(i+1:Nat),?_,?_,Wk.mk (fun k=>if k=1 then 5 else k) ?_ ?_ ?_⟩
    ·trivial
    ·omega
    ·exact (b2 (b2 (bc ⟨(congrArg (fun l_=>T.os 4 5 0 (List.map (Qi true) l_).length) he3),rfl⟩ (bc ⟨(congrArg (T.int .i64) (show ((((Qe g i).2+1):Nat):Int)=(((Qe g (i+1)).2:Nat):Int) from (by (rw [ZB];simp [*];done)))),rfl⟩ (b2 (b2 bn))))))
    ·exact (b3 (bc ⟨(congrArg (fun l_=>some (Obj.rows 4 (List.map (Qi true) l_))) he3),(lb rfl),rfl⟩ bn))
    ·exact nd rfl
   refine sk (vinB.n (tn (VRun.region (fO (QF (tv (tN i) rfl) (VEv.int .i64 1) (by omega)) (mO (tN (i+1)) rfl (VRunO.nil (tn ?_)))))))
   have he4:((Qe g i).1++ [(D.Slot.mk ((((Qe g i).2+1):Nat):Int) false ((i:Nat):Int) ((Qo g i false:Nat):Int))])=(Qe g (i+1)).1:=by (rw [Yc,ZB];simp [*];done)
   refine ⟨(i+1:Nat),?_,?_,Wk.mk (fun k=>if k=1 then 3 else k) ?_ ?_ ?_⟩
   ·trivial
   ·omega
   ·exact (b2 (b2 (bc ⟨(congrArg (fun l_=>T.os 4 3 0 (List.map (Qi true) l_).length) he4),rfl⟩ (bc ⟨(congrArg (T.int .i64) (show ((((Qe g i).2+1):Nat):Int)=(((Qe g (i+1)).2:Nat):Int) from (by (rw [ZB];simp [*];done)))),rfl⟩ (b2 (b2 bn))))))
   ·exact (b3 (bc ⟨(congrArg (fun l_=>some (Obj.rows 4 (List.map (Qi true) l_))) he4),(lb rfl),rfl⟩ bn))
   ·exact nd rfl
  refine gF (dz fhg25_2) rfl rfl (OF.move (tv (tN (Qo g i true)) rfl)) (gF (dz fhg25_2) rfl rfl (B.geq (c:=(decide (2≤Qo g i true))) (tv (tN (Qo g i true)) rfl) (VEv.int .i64 2) (by exact Q8 (by omega))) (fO (OF.pickF (VEv.tmpB rfl (dz fhg25_2)) (tv (tB (decide (2≤Qo g i true))) rfl)) (nt ?_)))
  refine cd (2≤Qo g i true) rfl (fun fhc2=> ?_) fun fhc2=> ?_
  ·refine VRun.region ?_
   refine mO (tN ((Qe g i).2)) rfl (fO (QF (tv (tN ((Qe g i).2)) rfl) (VEv.int .i64 1) (by omega)) (aO (tN ((Qe g i).2+1)) rfl (VRunO.nil (tn (sq (sr (mO (tN (Qo g i false)) rfl (fO (B.geq (c:=(decide (2≤Qo g i false))) (tv (tN (Qo g i false)) rfl) (VEv.int .i64 2) (by exact Q8 (by omega))) (nt (cg (dz fhg25_2) rfl (sk ?_)))))))))))
   refine tn (sr (mO (tN (Qo g i true)) rfl (fO (B.geq (c:=(decide (2≤Qo g i true))) (tv (tN (Qo g i true)) rfl) (VEv.int .i64 2) (by exact Q8 (by omega))) (nt (ck (dy fhc2) rfl (VRun.region (mO (T.os 4 1 0 ((((Qe g i).1).map (Qi true)).length)) rfl (mO (tN ((Qe g i).2+1)) rfl (mO (tN i) rfl (mO (tN (Qo g i true)) rfl (fO (OF.build (l:= [(0,(tN ((Qe g i).2+1))),(1,(tB true)),(2,(tN i)),(3,(tN (Qo g i true)))]) (zs:= [(tN 0),(tB false),(tN 0),(tN 0)]) (out:= [(tN ((Qe g i).2+1)),(tB true),(tN i),(tN (Qo g i true))]) (VEvp.cons (i:=0) (tv (tN ((Qe g i).2+1)) rfl) (VEvp.cons (i:=1) (VEv.bool true) (VEvp.cons (i:=2) (tv (tN i) rfl) (VEvp.cons (i:=3) (tv (tN (Qo g i true)) rfl) VEvp.nil)))) (bc nofun (bc nofun (bc nofun (bc nofun bn)))) Tryz.underlying97 Jg (fun _=>RL.cons (.int _ _) (RL.cons (.bool _) (RL.cons (.int _ _) (RL.cons (.int _ _) (RL.nil _))))) (by kernel_rfl) (by kernel_rfl)) ?_)))))))))))
   refine kO (OM.buildSlice (l:= [(T.agg [(tN ((Qe g i).2+1)),(tB true),(tN i),(tN (Qo g i true))])]) (VEvp.cons (tv (T.agg [(tN ((Qe g i).2+1)),(tB true),(tN i),(tN (Qo g i true))]) rfl) VEvp.nil) rfl (by decide) (bc (nofun) bn) (bc ((bc (rfl) (bc (rfl) (bc (rfl) (bc (rfl) bn))))) bn) (bc (rfl) bn) J8 Jg (by kernel_rfl) rfl (by rw [ZM];decide) ZM (Nat.le_of_ble_eq_true rfl)) (cO (B.append (rows:=(((Qe g i).1).map (Qi true))) (rows2:= [[(tN ((Qe g i).2+1)),(tB true),(tN i),(tN (Qo g i true))]]) (rows3:=(((Qe g i).1++ [(D.Slot.mk ((((Qe g i).2+1):Nat):Int) true ((i:Nat):Int) ((Qo g i true:Nat):Int))]).map (Qi true))) (VDst.own (tv (T.os 4 1 0 ((((Qe g i).1).map (Qi true)).length)) rfl) rfl rfl) (VSrc.own (tv (T.os 4 2 0 1) rfl) rfl rfl J8 (bc (bc rfl (bc rfl (bc rfl (bc rfl bn)))) bn)) (by decide) J8 ZM (by decide) Jg rfl (of_decide_eq_true (by kernel_rfl)) (by (simp only [List.length_map,List.length_append,List.length_cons,List.length_nil,List.length_replicate,List.length_set,List.length_drop,List.length_take,Yd] at *;omega)) ((List.map_append (f:=Qi true) (l₁:=(Qe g i).1) (l₂:= [(D.Slot.mk ((((Qe g i).2+1):Nat):Int) true ((i:Nat):Int) ((Qo g i true:Nat):Int))])).symm)) (aO (T.os 4 3 0 ((((Qe g i).1++ [(D.Slot.mk ((((Qe g i).2+1):Nat):Int) true ((i:Nat):Int) ((Qo g i true:Nat):Int))]).map (Qi true)).length)) rfl (VRunO.nil (vinB.n (tn (VRun.region (fO (QF (tv (tN i) rfl) (VEv.int .i64 1) (by omega)) (mO (tN (i+1)) rfl (VRunO.nil (tn ?_))))))))))
   have he5:((Qe g i).1++ [(D.Slot.mk ((((Qe g i).2+1):Nat):Int) true ((i:Nat):Int) ((Qo g i true:Nat):Int))])=(Qe g (i+1)).1:=by (rw [Yc,ZB];simp [*];done)
   refine ⟨(i+1:Nat),?_,?_,Wk.mk (fun k=>if k=1 then 3 else k) ?_ ?_ ?_⟩
   ·trivial
   ·omega
   ·exact (b2 (b2 (bc ⟨(congrArg (fun l_=>T.os 4 3 0 (List.map (Qi true) l_).length) he5),rfl⟩ (bc ⟨(congrArg (T.int .i64) (show ((((Qe g i).2+1):Nat):Int)=(((Qe g (i+1)).2:Nat):Int) from (by (rw [ZB];simp [*];done)))),rfl⟩ (b2 (b2 bn))))))
   ·exact (b3 (bc ⟨(congrArg (fun l_=>some (Obj.rows 4 (List.map (Qi true) l_))) he5),(lb rfl),rfl⟩ bn))
   ·exact nd rfl
  refine sk (tn (sq (sr (mO (tN (Qo g i false)) rfl (fO (B.geq (c:=(decide (2≤Qo g i false))) (tv (tN (Qo g i false)) rfl) (VEv.int .i64 2) (by exact Q8 (by omega))) (nt (cg (dz fhg25_2) rfl (sk (tn (sr (mO (tN (Qo g i true)) rfl ?_)))))))))))
  refine fO (B.geq (c:=(decide (2≤Qo g i true))) (tv (tN (Qo g i true)) rfl) (VEv.int .i64 2) (by exact Q8 (by omega))) (nt (cg (dz fhc2) rfl (sk (vinB.n (tn (VRun.region (fO (QF (tv (tN i) rfl) (VEv.int .i64 1) (by omega)) (mO (tN (i+1)) rfl (VRunO.nil (tn ?_))))))))))
  have he6:(Qe g i).1=(Qe g (i+1)).1:=by (rw [Yc,ZB];simp [*];done)
  refine ⟨(i+1:Nat),?_,?_,Wk.mk (fun k=>k) ?_ ?_ ?_⟩
  ·trivial
  ·omega
  ·exact (b2 (b2 (bc ⟨(congrArg (fun l_=>T.os 4 1 0 (List.map (Qi true) l_).length) he6),rfl⟩ (bc ⟨(congrArg (T.int .i64) (show (((Qe g i).2:Nat):Int)=(((Qe g (i+1)).2:Nat):Int) from (by (rw [ZB];simp [*];done)))),rfl⟩ (b2 (b2 bn))))))
  ·exact (b3 (bc ⟨(congrArg (fun l_=>some (Obj.rows 4 (List.map (Qi true) l_))) he6),(lb rfl),rfl⟩ bn))
  ·exact nd rfl
 refine VRun.exit (vthn.e (vthn.e (vinB.e (tn (sr (mO (T.os 4 1 0 ((((Qe g i).1).map (Qi true)).length)) rfl (aO (T.os 4 1 0 ((((Qe g i).1).map (Qi true)).length)) rfl (nt (rt ?_)))))))))
 refine vfin.eq (r':=(T.sl true 4 (((Qe g i).1).map (Qi true)))) ?_ (vfin.r (VRes.tmp (t:=(T.os 4 1 0 ((((Qe g i).1).map (Qi true)).length))) rfl VRes.nil) (Give.os rfl rfl (okeSlot.cleanMap _)))
 refine congrArg (fun l_=>T.sl true 4 (List.map (Qi true) l_)) ?_
 refine Qcs hI1 (.inl hgo) ?_;left;assumption
noncomputable section
def Qa0 (g:D.Grid):Prop:=∃s∈Qb g,s.Length<3
instance (g:D.Grid):Decidable (Qa0 g):=Classical.propDecidable _
end
theorem QcV (n:Nat) (g:D.Grid) (hc:g.Cells.size≤maxLen):Pure (Qr Tryz.prog (n+4)) 75 [(T.agg (Qa false g))] (tB (decide (Qa0 g))):=by
 refine Pure.intro (rs:= [ResultVar.tmp 2]) Tryz.func75 rfl rfl rfl (E0:= [(0,(T.agg (Qa false g)))]) rfl ?_
 obtain ⟨hlim,hmx,hmax⟩:=QJ
 have hsl:=ZE g
 refine sr (kO (B.box (ts:=(Qa false g)) (tv (T.agg (Qa false g)) rfl) nofun rfl) (fO (OF.assign (VEv.bool false)) (nt (sr (lO (OL.loadOn (us:=(Qa false g)) (tv (T.op 0 0) rfl) rfl QY QR (lb rfl) rfl) (cO (OC.callF (r':=(T.os 4 1 0 (((Qb g).map (Qi true)).length))) (objs:= [(Obj.rows 4 ((Qb g).map (Qi true)))]) rfl (vc (tv (T.agg (Qa false g)) rfl) vn) (LendL.cons (lg Qt) ln) (ZI (n+0) g (by assumption)) rfl) (aO (T.os 4 1 0 (((Qb g).map (Qi true)).length)) rfl (nt (sq (sr (fO (OF.assign (VEv.int .i64 0)) ?_)))))))))))
 refine nt (VRun.block ?_)
 refine VRun.loop (A:=Nat) (fun s_=> [(3,(T.os 4 0 0 (((Qb g).map (Qi true)).length))),(4,(tN s_))]) (fun s_=>Q3 [(0,(Obj.rows 4 ((Qb g).map (Qi true))))]) 1 (fun s_=>NoneTo (fun s:D.Slot=>s.Length<3) (Qb g) s_) (fun s_=>(Qb g).length - s_) (0:Nat) ?_ (Wk.mk (fun k=>if k=0 then 1 else k) ?_ ?_ ?_) ?_
 ·exact NoneTo.start _ _
 ·exact (b2 (b2 bn))
 ·exact (b3 bn)
 ·exact nd rfl
 rintro i (hI':NoneTo (fun s:D.Slot=>s.Length<3) (Qb g) i)
 show VRun _ _ _ [(3,(T.os 4 0 0 (((Qb g).map (Qi true)).length))),(4,(tN i))] (Q3 [(0,(Obj.rows 4 ((Qb g).map (Qi true))))]) 1 _
 have hI1:=hI'.1
 refine sq (sr (mO (tN i) rfl (mO (T.os 4 0 0 (((Qb g).map (Qi true)).length)) rfl (lO (B.lenO (m:=(Qb g).length) (tv (T.os 4 0 0 (((Qb g).map (Qi true)).length)) rfl) J8 (List.length_map ..)) (fO (Zt (tv (tN i) rfl) (tv (tN ((Qb g).length)) rfl)) (nt ?_))))))
 refine cd (i<(Qb g).length) rfl (fun fhc0=> ?_) fun fhc0=> ?_
 ·refine sk ?_
  refine tn (sq (VRun.block (sr (mO (T.os 4 0 0 (((Qb g).map (Qi true)).length)) rfl (mO (tN i) rfl ?_)))))
  obtain ⟨x1,hx1⟩:∃x,(Qb g)[i]? =some x:=⟨_,List.getElem?_eq_getElem (by omega)⟩
  refine fO (B.indexAddrO (i:=i) (tv (T.os 4 0 0 (((Qb g).map (Qi true)).length)) rfl) (tv (tN i) rfl) rfl (by (simp only [List.length_map];omega)) J8 ZM Qc8) (fO (OF.fieldAddrP (tv (T.orp 4 0 i 0) rfl) Qba) (lO (OL.loadP1 (t:=(tI x1.Length)) (row:=(Qi true x1)) (tv (T.orp 4 0 i 3) rfl) rfl (QA _ hx1) rfl rfl Q0) (fO (xls (tv (tI x1.Length) rfl) (VEv.int .i64 3)) (nt ?_))))
  refine cd (x1.Length<3) rfl (fun fhc1=> ?_) fun fhc1=> ?_
  ·refine sr ?_
   refine fO (OF.assign (VEv.bool true)) (nt (rt (vinB.r (tr (tr (vinB.r (tr (vb (b':=true) rfl ?_))))))))
   symm;rw [decide_eq_true_eq];exact ⟨x1,List.mem_of_getElem? hx1,fhc1⟩
  refine sk (vinB.n (tn (VRun.region (mO (tN i) rfl (fO (QF (tv (tN i) rfl) (VEv.int .i64 1) (by omega)) (aO (tN (i+1)) rfl (VRunO.nil (tn ?_))))))))
  refine ⟨(i+1:Nat),?_,?_,Wk.mk (fun k=>k) ?_ ?_ ?_⟩
  ·exact hI'.next hx1 fhc1
  ·omega
  ·exact (b2 (b2 bn))
  ·exact (b3 bn)
  ·exact nd rfl
 refine VRun.exit (vthn.e (vthn.e (vinB.e (tn (sr (fO (OF.assign (VEv.bool false)) (nt (rt (vb (b':=false) rfl ?_)))))))))
 symm;rw [decide_eq_false_iff_not];rintro ⟨y,hy,hy2⟩;exact hI'.mem fhc0 y hy hy2
end Go.Proofs.YthifchndolccgaaGreatDoor.AE
namespace Go.Proofs.YthifchndolccgaaGreatDoor.AE
open Go Go.RowKit
set_option linter.unusedVariables false
set_option linter.unusedSimpArgs false
set_option maxRecDepth 20000
set_option maxHeartbeats 2000000
noncomputable section
def Qeh (g:D.Grid) (s:D.Slot):Int:=if s.Down=true then g.Cols else 1
def Qp (g:D.Grid) (s:D.Slot) (n:Nat):List Int:=(List.range n).map fun k=>s.Cell+((k:Nat):Int)*Qeh g s
theorem Y9 (g:D.Grid) (s:D.Slot) (n:Nat):(Qp g s n).length=n:=by simp [Qp]
theorem Jt (g:D.Grid) (s:D.Slot) (n:Nat):Qp g s (n+1)=Qp g s n++ [s.Cell+((n:Nat):Int)*Qeh g s]:=by
 simp [Qp,List.range_succ]
def QeJ (g:D.Grid) (s:D.Slot):Prop:=gridOk g∧(0≤s.Cell∧s.Cell≤36)∧(0≤s.Length∧s.Length≤6)
theorem QeO {ok:Nat→Prop} [DecidablePred ok]:∀f n,J9 ok f n≤n+f
 | 0,n=>Nat.le_refl _
 | f+1,n=>by
  simp only [J9]
  split
  ·have:=QeO (ok:=ok) f (n+1)
   omega
  ·omega
theorem Qfg (g:D.Grid) (cell:Nat) (down:Bool):Qo g cell down≤6:=by
 unfold Qo QfH Qfy
 split<;>split<;>first | omega | (have:=QeO (ok:=slD g cell) 6 0;omega) | (have:=QeO (ok:=slA g cell) 6 0;omega)
theorem Qeq (g:D.Grid) (hg:gridOk g):∀i,i≤g.Cells.size→∀s∈(Qe g i).1,QeJ g s
 | 0,_,s,hs=>by simp [Qe] at hs
 | i+1,hi,s,hs=>by
  have hsz:=hg.size
  rw [Yc,List.mem_append,List.mem_append] at hs
  rcases hs with (hs | hs) | hs
  ·exact Qeq g hg i (by omega) s hs
  ·split at hs
   ·obtain rfl:=List.mem_singleton.1 hs
    have:=Qfg g i false
    exact ⟨hg,by simp only;omega,by simp only;omega⟩
   ·cases hs
  ·split at hs
   ·obtain rfl:=List.mem_singleton.1 hs
    have:=Qfg g i true
    exact ⟨hg,by simp only;omega,by simp only;omega⟩
   ·cases hs
theorem QaJ {g:D.Grid} {s:D.Slot} (hs:s∈Qb g):QeJ g s:=by
 unfold Qb at hs
 split at hs
 ·exact Qeq g ‹_› _ (Nat.le_refl _) s hs
 ·cases hs
end
theorem Qe1 (n:Nat) (g:D.Grid) (s:D.Slot) (hs:QeJ g s):Pure (Qr Tryz.prog (n+1)) 137 [(T.agg (Qa false g)),(T.agg (Qi false s))] (T.sl true 1 ((Qp g s s.Length.toNat).map (Qd true))):=by
 refine Pure.intro (rs:= [ResultVar.tmp 4]) Tryz.func137 rfl rfl rfl (E0:= [(0,(T.agg (Qa false g))),(1,(T.agg (Qi false s)))]) rfl ?_
 obtain ⟨hlim,hmx,hmax⟩:=QJ
 obtain ⟨hg,hc,hl⟩:=hs
 have hB:=hg.2.1
 refine sr (kO (B.box (ts:=(Qa false g)) (tv (T.agg (Qa false g)) rfl) nofun rfl) (kO (B.box (ts:=(Qi false s)) (tv (T.agg (Qi false s)) rfl) nofun rfl) (fO (OF.assign VEv.nils) (nt (sr (fO (OF.assign (VEv.int .i64 1)) (nt (sq (sr (lf (tB s.Down) rfl QiN rfl rfl st4 (nt ?_)))))))))))
 refine VRun.cond (tv (tB s.Down) rfl) (fun hc0=> ?_) (fun hc0=> ?_)
 ·have fhc0:s.Down=true:=hc0
  refine VRun.region (lf (tI g.Cols) rfl Q7 rfl rfl Q0 (aO (tI g.Cols) rfl (VRunO.nil (tn (sr (fO (OF.assign VEv.nils) (nt (sq (sr (lf (tI s.Length) rfl Qba rfl rfl Q0 (fO (OF.move (VEv.int .i64 0)) ?_)))))))))))
  refine nt (VRun.block (VRun.wk (Wk.phantom 6 1 rfl) ?_))
  have he1: []=((Qp g s 0).map (Qd true)):=by rfl
  refine VRun.loop (A:=Nat) (fun s_=> [(3,(T.op 0 0)),(4,T.nils),(5,(tI g.Cols)),(6,(T.os 1 1 0 (((Qp g s s_).map (Qd true)).length))),(13,(tI s.Length)),(14,(tN s_))]) (fun s_=>Q3 [(0,(Obj.cells (Qi false s))),(1,(Obj.rows 1 ((Qp g s s_).map (Qd true))))]) 2 (fun s_=>s_≤s.Length.toNat) (fun s_=>s.Length.toNat - s_) (0:Nat) ?_ (Wk.mk (fun k=>if k=0 then 1 else if k=1 then 2 else k) ?_ ?_ ?_) ?_
  ·(simp;done)
  ·exact (b2 (b2 (b2 (bc ⟨(congrArg (fun n_=>T.os 1 2 0 n_) (show 0=((Qp g s 0).map (Qd true)).length from (by rfl))),rfl⟩ (b2 (b2 bn))))))
  ·exact (b3 (bc ⟨(congrArg (fun l_=>some (Obj.rows 1 l_)) he1),(lb rfl),rfl⟩ bn))
  ·exact nd rfl
  rintro i (hI':i≤s.Length.toNat)
  show VRun _ _ _ [(3,(T.op 0 0)),(4,T.nils),(5,(tI g.Cols)),(6,(T.os 1 1 0 (((Qp g s i).map (Qd true)).length))),(13,(tI s.Length)),(14,(tN i))] (Q3 [(0,(Obj.cells (Qi false s))),(1,(Obj.rows 1 ((Qp g s i).map (Qd true))))]) 2 _
  have hI1:=hI'
  have hN:=QcP (n:=i) (c:=g.Cols) (by omega) hB.1 hB.2
  have hcl:=Y9 g s i
  refine sr (fO (xls (tv (tN i) rfl) (tv (tI s.Length) rfl)) (nt (sq ?_)))
  refine cd (((i:Nat):Int)<s.Length) rfl (fun fhc1=> ?_) fun fhc1=> ?_
  ·refine sk ?_
   refine tn (sq (VRun.block (sr (mO (tN i) rfl (aO (tN i) rfl (nt (VRun.region (mO (T.os 1 1 0 (((Qp g s i).map (Qd true)).length)) rfl (lf (tI s.Cell) rfl QeN rfl rfl Q0 (mO (tN i) rfl (mO (tI g.Cols) rfl ?_)))))))))))
   refine fO (B.mul (n:=(((i:Nat):Int)*g.Cols)) (tv (tN i) rfl) (tv (tI g.Cols) rfl) (by (refine Qes ?_ ?_ ?_<;>omega))) (fO (B.add (n:=(s.Cell+(((i:Nat):Int)*g.Cols))) (tv (tI s.Cell) rfl) (tv (tI (((i:Nat):Int)*g.Cols)) rfl) (by (rw [Qy (by omega)];done))) (kO (OM.buildSlice (l:= [(tI (s.Cell+(((i:Nat):Int)*g.Cols)))]) (VEvp.cons (tv (tI (s.Cell+(((i:Nat):Int)*g.Cols))) rfl) VEvp.nil) rfl (by decide) (bc (nofun) bn) (bc ((bc (rfl) bn)) bn) (bc (rfl) bn) YQ zo3 (by kernel_rfl) rfl (by rw [Z8];decide) Z8 (Nat.le_of_ble_eq_true rfl)) (cO (B.append (rows:=((Qp g s i).map (Qd true))) (rows2:= [[(tI (s.Cell+(((i:Nat):Int)*g.Cols)))]]) (rows3:=((Qp g s i++ [(s.Cell+(((i:Nat):Int)*g.Cols))]).map (Qd true))) (VDst.own (tv (T.os 1 1 0 (((Qp g s i).map (Qd true)).length)) rfl) rfl rfl) (VSrc.own (tv (T.os 1 2 0 1) rfl) rfl rfl YQ (bc (bc rfl bn) bn)) (by decide) YQ Z8 (by decide) zo3 rfl (of_decide_eq_true (by kernel_rfl)) (by (simp only [List.length_map,List.length_append,List.length_cons,List.length_nil,List.length_replicate,List.length_set,List.length_drop,List.length_take,Yd] at *;omega)) ((List.map_append (f:=Qd true) (l₁:=Qp g s i) (l₂:= [(s.Cell+(((i:Nat):Int)*g.Cols))])).symm)) (aO (T.os 1 3 0 (((Qp g s i++ [(s.Cell+(((i:Nat):Int)*g.Cols))]).map (Qd true)).length)) rfl (VRunO.nil (vinB.n (tn (VRun.region (fO (QF (tv (tN i) rfl) (VEv.int .i64 1) (by omega)) (mO (tN (i+1)) rfl (VRunO.nil ?_)))))))))))
   refine tn ?_
   have he2:(Qp g s i++ [(s.Cell+(((i:Nat):Int)*g.Cols))])=Qp g s (i+1):=by rw [Jt,Qeh,if_pos fhc0]
   refine ⟨(i+1:Nat),?_,?_,Wk.mk (fun k=>if k=1 then 3 else k) ?_ ?_ ?_⟩
   ·omega
   ·omega
   ·exact (b2 (b2 (b2 (bc ⟨(congrArg (fun l_=>T.os 1 3 0 (List.map (Qd true) l_).length) he2),rfl⟩ (b2 (b2 bn))))))
   ·exact (b3 (bc ⟨(congrArg (fun l_=>some (Obj.rows 1 (List.map (Qd true) l_))) he2),(lb rfl),rfl⟩ bn))
   ·exact nd rfl
  refine VRun.exit (vthn.e (vthn.e (vinB.e (tn (sr (mO (T.os 1 1 0 (((Qp g s i).map (Qd true)).length)) rfl (aO (T.os 1 1 0 (((Qp g s i).map (Qd true)).length)) rfl (nt (rt ?_)))))))))
  refine vfin.eq (r':=(T.sl true 1 ((Qp g s i).map (Qd true)))) ?_ (vfin.r (VRes.tmp (t:=(T.os 1 1 0 (((Qp g s i).map (Qd true)).length))) rfl VRes.nil) (Give.os rfl rfl (okInt.cleanMap _)))
  refine congrArg (fun l_=>T.sl true 1 (List.map (Qd true) l_)) ?_
  rw [show i=s.Length.toNat from by omega]
 have fhc0:s.Down=false:=hc0
 refine sk (tn (sr (fO (OF.assign VEv.nils) (nt (sq (sr (lf (tI s.Length) rfl Qba rfl rfl Q0 (fO (OF.move (VEv.int .i64 0)) (nt (VRun.block (VRun.wk (Wk.phantom 6 1 rfl) ?_)))))))))))
 have he3: []=((Qp g s 0).map (Qd true)):=by rfl
 refine VRun.loop (A:=Nat) (fun s_=> [(3,(T.op 0 0)),(4,T.nils),(5,(tN 1)),(6,(T.os 1 1 0 (((Qp g s s_).map (Qd true)).length))),(13,(tI s.Length)),(14,(tN s_))]) (fun s_=>Q3 [(0,(Obj.cells (Qi false s))),(1,(Obj.rows 1 ((Qp g s s_).map (Qd true))))]) 2 (fun s_=>s_≤s.Length.toNat) (fun s_=>s.Length.toNat - s_) (0:Nat) ?_ (Wk.mk (fun k=>if k=0 then 1 else if k=1 then 2 else k) ?_ ?_ ?_) ?_
 ·(simp;done)
 ·exact (b2 (b2 (b2 (bc ⟨(congrArg (fun n_=>T.os 1 2 0 n_) (show 0=((Qp g s 0).map (Qd true)).length from (by rfl))),rfl⟩ (b2 (b2 bn))))))
 ·exact (b3 (bc ⟨(congrArg (fun l_=>some (Obj.rows 1 l_)) he3),(lb rfl),rfl⟩ bn))
 ·exact nd rfl
 rintro i (hI':i≤s.Length.toNat)
 show VRun _ _ _ [(3,(T.op 0 0)),(4,T.nils),(5,(tN 1)),(6,(T.os 1 1 0 (((Qp g s i).map (Qd true)).length))),(13,(tI s.Length)),(14,(tN i))] (Q3 [(0,(Obj.cells (Qi false s))),(1,(Obj.rows 1 ((Qp g s i).map (Qd true))))]) 2 _
 have hI1:=hI'
 have hN:=QcP (n:=i) (c:=g.Cols) (by omega) hB.1 hB.2
 have hcl:=Y9 g s i
 refine sr (fO (xls (tv (tN i) rfl) (tv (tI s.Length) rfl)) (nt (sq ?_)))
 refine cd (((i:Nat):Int)<s.Length) rfl (fun fhc1=> ?_) fun fhc1=> ?_
 ·refine sk ?_
  refine tn (sq (VRun.block (sr (mO (tN i) rfl (aO (tN i) rfl (nt (VRun.region (mO (T.os 1 1 0 (((Qp g s i).map (Qd true)).length)) rfl (lf (tI s.Cell) rfl QeN rfl rfl Q0 (mO (tN i) rfl (mO (tN 1) rfl ?_)))))))))))
  refine fO (B.mul (n:=(((i*1):Nat):Int)) (tv (tN i) rfl) (tv (tN 1) rfl) (by (rw [Qy (by omega)];omega))) (fO (B.add (n:=(s.Cell+(((i*1):Nat):Int))) (tv (tI s.Cell) rfl) (tv (tN (i*1)) rfl) (by (rw [Qy (by omega)];done))) (kO (OM.buildSlice (l:= [(tI (s.Cell+(((i*1):Nat):Int)))]) (VEvp.cons (tv (tI (s.Cell+(((i*1):Nat):Int))) rfl) VEvp.nil) rfl (by decide) (bc (nofun) bn) (bc ((bc (rfl) bn)) bn) (bc (rfl) bn) YQ zo3 (by kernel_rfl) rfl (by rw [Z8];decide) Z8 (Nat.le_of_ble_eq_true rfl)) (cO (B.append (rows:=((Qp g s i).map (Qd true))) (rows2:= [[(tI (s.Cell+(((i*1):Nat):Int)))]]) (rows3:=((Qp g s i++ [(s.Cell+(((i*1):Nat):Int))]).map (Qd true))) (VDst.own (tv (T.os 1 1 0 (((Qp g s i).map (Qd true)).length)) rfl) rfl rfl) (VSrc.own (tv (T.os 1 2 0 1) rfl) rfl rfl YQ (bc (bc rfl bn) bn)) (by decide) YQ Z8 (by decide) zo3 rfl (of_decide_eq_true (by kernel_rfl)) (by (simp only [List.length_map,List.length_append,List.length_cons,List.length_nil,List.length_replicate,List.length_set,List.length_drop,List.length_take,Yd] at *;omega)) ((List.map_append (f:=Qd true) (l₁:=Qp g s i) (l₂:= [(s.Cell+(((i*1):Nat):Int))])).symm)) (aO (T.os 1 3 0 (((Qp g s i++ [(s.Cell+(((i*1):Nat):Int))]).map (Qd true)).length)) rfl (VRunO.nil (vinB.n (tn (VRun.region (fO (QF (tv (tN i) rfl) (VEv.int .i64 1) (by omega)) (mO (tN (i+1)) rfl (VRunO.nil ?_)))))))))))
  refine tn ?_
  have he4:(Qp g s i++ [(s.Cell+(((i*1):Nat):Int))])=Qp g s (i+1):=by (rw [Jt,Qeh,fhc0];rfl)
  refine ⟨(i+1:Nat),?_,?_,Wk.mk (fun k=>if k=1 then 3 else k) ?_ ?_ ?_⟩
  ·omega
  ·omega
  ·exact (b2 (b2 (b2 (bc ⟨(congrArg (fun l_=>T.os 1 3 0 (List.map (Qd true) l_).length) he4),rfl⟩ (b2 (b2 bn))))))
  ·exact (b3 (bc ⟨(congrArg (fun l_=>some (Obj.rows 1 (List.map (Qd true) l_))) he4),(lb rfl),rfl⟩ bn))
  ·exact nd rfl
 refine VRun.exit (vthn.e (vthn.e (vinB.e (tn (sr (mO (T.os 1 1 0 (((Qp g s i).map (Qd true)).length)) rfl (aO (T.os 1 1 0 (((Qp g s i).map (Qd true)).length)) rfl (nt (rt ?_)))))))))
 refine vfin.eq (r':=(T.sl true 1 ((Qp g s i).map (Qd true)))) ?_ (vfin.r (VRes.tmp (t:=(T.os 1 1 0 (((Qp g s i).map (Qd true)).length))) rfl VRes.nil) (Give.os rfl rfl (okInt.cleanMap _)))
 refine congrArg (fun l_=>T.sl true 1 (List.map (Qd true) l_)) ?_
 rw [show i=s.Length.toNat from by omega]
noncomputable section
def QP (g:D.Grid):List (List Int):=(Qb g).map fun s=>Qp g s s.Length.toNat
theorem QhM {g:D.Grid} {i:Nat} {s:D.Slot} (h:(Qb g)[i]? =some s):(QP g).take (i+1)=(QP g).take i++ [Qp g s s.Length.toNat]:=by
 unfold QP
 rw [List.take_add_one,List.getElem?_map,h]
 rfl
theorem QbI (g:D.Grid):(QP g).length=(Qb g).length:=by simp [QP]
end
theorem Jv (n:Nat) (g:D.Grid) (hc:g.Cells.size≤maxLen):Pure (Qr Tryz.prog (n+4)) 105 [(T.agg (Qa false g))] (T.sl true 1 ((QP g).map ((YS 1 Qd) true))):=by
 refine Pure.intro (rs:= [ResultVar.tmp 2]) Tryz.func105 rfl rfl rfl (E0:= [(0,(T.agg (Qa false g)))]) rfl ?_
 obtain ⟨hlim,hmx,hmax⟩:=QJ
 have hsl:=ZE g
 have hll:=QbI g
 refine sr (kO (B.box (ts:=(Qa false g)) (tv (T.agg (Qa false g)) rfl) nofun rfl) (fO (OF.assign VEv.nils) (nt (sr (fO (OF.assign VEv.nils) (nt (sq (sr (lO (OL.loadOn (us:=(Qa false g)) (tv (T.op 0 0) rfl) rfl QY QR (lb rfl) rfl) (cO (OC.callF (r':=(T.os 4 1 0 (((Qb g).map (Qi true)).length))) (objs:= [(Obj.rows 4 ((Qb g).map (Qi true)))]) rfl (vc (tv (T.agg (Qa false g)) rfl) vn) (LendL.cons (lg Qt) ln) (Jc (n+0) g (by assumption)) rfl) (lO (B.lenO (m:=(Qb g).length) (tv (T.os 4 1 0 (((Qb g).map (Qi true)).length)) rfl) J8 (List.length_map ..)) ?_)))))))))))
 refine fO (OF.move (VEv.int .i64 0)) (nt (VRun.block (VRun.wk (Wk.phantom 3 1 rfl) ?_)))
 have he1: []=(((QP g).take 0).map ((YS 1 Qd) true)):=by rfl
 refine VRun.loop (A:=Nat) (fun s_=> [(1,(T.op 0 0)),(2,T.nils),(3,(T.os 1 2 0 ((((QP g).take s_).map ((YS 1 Qd) true)).length))),(7,(T.os 4 1 0 (((Qb g).map (Qi true)).length))),(8,(tN ((Qb g).length))),(9,(tN s_))]) (fun s_=>Q3 [(0,(Obj.cells (Qa false g))),(1,(Obj.rows 4 ((Qb g).map (Qi true)))),(2,(Obj.rows 1 (((QP g).take s_).map ((YS 1 Qd) true))))]) 3 (fun s_=>s_≤(Qb g).length) (fun s_=>(Qb g).length - s_) (0:Nat) ?_ (Wk.mk (fun k=>k) ?_ ?_ ?_) ?_
 ·(simp;done)
 ·exact (b2 (b2 (bc ⟨(congrArg (fun n_=>T.os 1 2 0 n_) (show 0=(((QP g).take 0).map ((YS 1 Qd) true)).length from (by rfl))),rfl⟩ (b2 (b2 (b2 bn))))))
 ·exact (b3 (b3 (bc ⟨(congrArg (fun l_=>some (Obj.rows 1 l_)) he1),(lb rfl),rfl⟩ bn)))
 ·exact nd rfl
 rintro i (hI':i≤(Qb g).length)
 show VRun _ _ _ [(1,(T.op 0 0)),(2,T.nils),(3,(T.os 1 2 0 ((((QP g).take i).map ((YS 1 Qd) true)).length))),(7,(T.os 4 1 0 (((Qb g).map (Qi true)).length))),(8,(tN ((Qb g).length))),(9,(tN i))] (Q3 [(0,(Obj.cells (Qa false g))),(1,(Obj.rows 4 ((Qb g).map (Qi true)))),(2,(Obj.rows 1 (((QP g).take i).map ((YS 1 Qd) true))))]) 3 _
 have hI1:=hI'
 refine sr (fO (Zt (tv (tN i) rfl) (tv (tN ((Qb g).length)) rfl)) (nt (sq ?_)))
 refine cd (i<(Qb g).length) rfl (fun fhc0=> ?_) fun fhc0=> ?_
 ·refine sk ?_
  refine tn (sq (VRun.block (sr ?_)))
  obtain ⟨x1,hx1⟩:∃x,(Qb g)[i]? =some x:=⟨_,List.getElem?_eq_getElem (by omega)⟩
  refine fO (B.indexAddrO (i:=i) (tv (T.os 4 1 0 (((Qb g).map (Qi true)).length)) rfl) (tv (tN i) rfl) rfl (by (simp only [List.length_map];omega)) J8 ZM Qc8) (lO (OL.loadPn (us:=(Qi false x1)) (row:=(Qi true x1)) (tv (T.orp 4 1 i 0) rfl) rfl (QA _ hx1) QfT ZM (lb rfl) rfl (bc rfl (bc rfl (bc rfl (bc rfl bn))))) (kO (B.alloc (t:=(T.agg [(tN 0),(tB false),(tN 0),(tN 0)])) (ts:= [(tN 0),(tB false),(tN 0),(tN 0)]) Jg Qky nofun (fun _=> .agg _ _ rfl (YD (RL.cons (.int _ _) (RL.cons (.bool _) (RL.cons (.int _ _) (RL.cons (.int _ _) (RL.nil _))))))) rfl) (cO (B.storeW (us:=(Qi false x1)) (tv (T.op 3 0) rfl) (tv (T.agg (Qi false x1)) rfl) nofun rfl rfl rfl Qc8 ZM (bc rfl (bc rfl (bc rfl (bc rfl bn))))) (nt (VRun.region (mO (T.os 1 2 0 ((((QP g).take i).map ((YS 1 Qd) true)).length)) rfl (lO (OL.loadOn (us:=(Qa false g)) (tv (T.op 0 0) rfl) rfl QY QR (lb rfl) rfl) (lO (OL.loadOn (us:=(Qi false x1)) (tv (T.op 3 0) rfl) rfl QfT ZM (lb rfl) rfl) (cO (OC.callF (r':=(T.os 1 4 0 (((Qp g x1 x1.Length.toNat).map (Qd true)).length))) (objs:= [(Obj.rows 1 ((Qp g x1 x1.Length.toNat).map (Qd true)))]) rfl (vc (tv (T.agg (Qa false g)) rfl) (vc (tv (T.agg (Qi false x1)) rfl) vn)) (LendL.cons (lg Qt) (LendL.cons (lg okeSlot) ln)) (Qe1 (n+2) g x1 (by exact QaJ (List.mem_of_getElem? hx1))) rfl) ?_)))))))))
  refine B.sliceB (t:=(T.os 1 4 0 (((Qp g x1 x1.Length.toNat).map (Qd true)).length))) (us:= [(T.os 1 4 0 (((Qp g x1 x1.Length.toNat).map (Qd true)).length))]) (rows:= [[(T.sl true 1 ((Qp g x1 x1.Length.toNat).map (Qd true)))]]) VWant.always (VEvp.cons (tv (T.os 1 4 0 (((Qp g x1 x1.Length.toNat).map (Qd true)).length)) rfl) VEvp.nil) nofun rfl (Bury.os rfl rfl Bury.nil (by decide)) rfl (bc rfl bn) rfl Qe2 Qls (by kernel_rfl) rfl (by rw [Qd8];decide) Qd8 (Nat.le_of_ble_eq_true rfl) ?_
  refine cO (B.append (rows:=(((QP g).take i).map ((YS 1 Qd) true))) (rows2:= [[(T.sl true 1 ((Qp g x1 x1.Length.toNat).map (Qd true)))]]) (rows3:=(((QP g).take i++ [Qp g x1 x1.Length.toNat]).map ((YS 1 Qd) true))) (VDst.own (tv (T.os 1 2 0 ((((QP g).take i).map ((YS 1 Qd) true)).length)) rfl) rfl rfl) (VSrc.own (tv (T.os 1 5 0 1) rfl) rfl rfl Qe2 (bc (bc rfl bn) bn)) (by decide) Qe2 Qd8 (by decide) Qls rfl (of_decide_eq_true (by kernel_rfl)) (by (rw [List.length_map,List.length_take];simp only [List.length_cons,List.length_nil];omega)) ((List.map_append (f:=(YS 1 Qd) true) (l₁:=(QP g).take i) (l₂:= [Qp g x1 x1.Length.toNat])).symm)) (aO (T.os 1 6 0 ((((QP g).take i++ [Qp g x1 x1.Length.toNat]).map ((YS 1 Qd) true)).length)) rfl (VRunO.nil (vinB.n (tn (VRun.region (fO (QF (tv (tN i) rfl) (VEv.int .i64 1) (by omega)) (mO (tN (i+1)) rfl (VRunO.nil (tn ?_)))))))))
  have he2:((QP g).take i++ [Qp g x1 x1.Length.toNat])=(QP g).take (i+1):=by exact (QhM hx1).symm
  refine ⟨(i+1:Nat),?_,?_,Wk.mk (fun k=>if k=2 then 6 else k) ?_ ?_ ?_⟩
  ·trivial
  ·omega
  ·exact (b2 (b2 (bc ⟨(congrArg (fun l_=>T.os 1 6 0 (List.map ((YS 1 Qd) true) l_).length) he2),rfl⟩ (b2 (b2 (b2 bn))))))
  ·exact (b3 (b3 (bc ⟨(congrArg (fun l_=>some (Obj.rows 1 (List.map ((YS 1 Qd) true) l_))) he2),(lb rfl),rfl⟩ bn)))
  ·exact nd rfl
 refine VRun.exit (vthn.e (vthn.e (vinB.e (tn (sr (mO (T.os 1 2 0 ((((QP g).take i).map ((YS 1 Qd) true)).length)) rfl (aO (T.os 1 2 0 ((((QP g).take i).map ((YS 1 Qd) true)).length)) rfl (nt (rt ?_)))))))))
 refine vfin.eq (r':=(T.sl true 1 (((QP g).take i).map ((YS 1 Qd) true)))) ?_ (vfin.r (VRes.tmp (t:=(T.os 1 2 0 ((((QP g).take i).map ((YS 1 Qd) true)).length))) rfl VRes.nil) (Give.os rfl rfl ((QjS okInt).cleanMap _)))
 refine congrArg (fun l_=>T.sl true 1 (List.map ((YS 1 Qd) true) l_)) ?_
 rw [List.take_of_length_le (by omega)]
end Go.Proofs.YthifchndolccgaaGreatDoor.AE
namespace Go.Proofs.YthifchndolccgaaGreatDoor.AE
open Go Go.RowKit
set_option linter.unusedVariables false
set_option linter.unusedSimpArgs false
set_option maxRecDepth 20000
set_option maxHeartbeats 2000000
noncomputable section
theorem Qcw (g:D.Grid):∀i,∀s∈(Qe g i).1,s.Cell<((i:Nat):Int)
 | 0,s,hs=>by simp [Qe] at hs
 | i+1,s,hs=>by
  rw [Yc,List.mem_append,List.mem_append] at hs
  rcases hs with (hs | hs) | hs
  ·have:=Qcw g i s hs
   omega
  ·split at hs
   ·obtain rfl:=List.mem_singleton.1 hs
    simp only;omega
   ·cases hs
  ·split at hs
   ·obtain rfl:=List.mem_singleton.1 hs
    simp only;omega
   ·cases hs
theorem Qbr (g:D.Grid):∀i,(Qe g i).1.Nodup
 | 0=>by simp [Qe]
 | i+1=>by
  have h:=Qcw g i
  rw [Yc,List.nodup_append,List.nodup_append]
  refine ⟨⟨Qbr g i,by split<;>simp,fun a ha b hb e=> ?_⟩,by split<;>simp,fun a ha b hb e=> ?_⟩
  ·split at hb
   ·obtain rfl:=List.mem_singleton.1 hb
    have:=h a ha
    rw [e] at this
    simp only at this
    omega
   ·cases hb
  ·split at hb
   ·obtain rfl:=List.mem_singleton.1 hb
    rcases List.mem_append.1 ha with ha | ha
    ·have:=h a ha
     rw [e] at this
     simp only at this
     omega
    ·split at ha
     ·obtain rfl:=List.mem_singleton.1 ha
      cases e
     ·cases ha
   ·cases hb
theorem Qeu (g:D.Grid):(Qb g).Nodup:=by
 unfold Qb
 split
 ·exact Qbr g _
 ·simp
def Je (g:D.Grid) (s:D.Slot) (i:Nat):List Int:=if s∈(Qb g).take i then Qp g s s.Length.toNat else []
theorem Qk0 {g:D.Grid} {s x:D.Slot} {i:Nat} (h:(Qb g)[i]? =some x) (hn:¬x=s):Je g s (i+1)=Je g s i:=by
 unfold Je
 rw [List.take_add_one,h]
 simp [show ¬s=x from fun e=>hn e.symm]
theorem Qip {g:D.Grid} {s x:D.Slot} {i:Nat} (h:(Qb g)[i]? =some x) (hn:x=s):Je g s i= []:=by
 subst hn
 refine if_neg fun hm=> ?_
 have hd:=Qeu g
 have hi:=(List.getElem?_eq_some_iff.1 h).1
 rw [← List.take_append_drop i (Qb g),List.nodup_append] at hd
 refine hd.2.2 x hm x ?_ rfl
 rw [List.drop_eq_getElem_cons hi,(List.getElem?_eq_some_iff.1 h).2]
 exact List.mem_cons_self
theorem QjB {g:D.Grid} {s x:D.Slot} {i:Nat} (h:(Qb g)[i]? =some x) (hn:x=s):Je g s (i+1)=Qp g s s.Length.toNat:=by
 subst hn
 refine if_pos ?_
 rw [List.take_add_one,h]
 simp
theorem Qjs {g:D.Grid} {s x:D.Slot} {i k:Nat} (h:(Qb g)[i]? =some x) (hn:x=s) (h1:¬((k:Nat):Int)<s.Length) (h2:k≤s.Length.toNat):Qp g s k=Je g s (i+1):=by
 rw [QjB h hn,show k=s.Length.toNat by omega]
theorem Qjp (g:D.Grid) (s:D.Slot) {i:Nat} (h:(Qb g).length≤i):Je g s i=if s∈Qb g then Qp g s s.Length.toNat else []:=by
 rw [Je,List.take_of_length_le h]
end
theorem Qaj (n:Nat) (g:D.Grid) (s:D.Slot) (hc:g.Cells.size≤maxLen):Pure (Qr Tryz.prog (n+4)) 132 [(T.agg (Qa false g)),(T.agg (Qi false s))] (T.sl true 1 ((if s∈Qb g then Qp g s s.Length.toNat else []).map (Qd true))):=by
 refine Pure.intro (rs:= [ResultVar.tmp 4]) Tryz.func132 rfl rfl rfl (E0:= [(0,(T.agg (Qa false g))),(1,(T.agg (Qi false s)))]) rfl ?_
 obtain ⟨hlim,hmx,hmax⟩:=QJ
 have hsl:=ZE g
 refine sr (kO (B.box (ts:=(Qa false g)) (tv (T.agg (Qa false g)) rfl) nofun rfl) (kO (B.box (ts:=(Qi false s)) (tv (T.agg (Qi false s)) rfl) nofun rfl) (fO (OF.assign VEv.nils) (nt (sr (kO (OM.slice0 YQ zo3 (by kernel_rfl) rfl (by rw [Z8];decide) Z8) (aO (T.os 1 2 0 0) rfl (nt (sr (lO (OL.loadOn (us:=(Qa false g)) (tv (T.op 0 0) rfl) rfl QY QR (lb rfl) rfl) (cO (OC.callF (r':=(T.os 4 3 0 (((Qb g).map (Qi true)).length))) (objs:= [(Obj.rows 4 ((Qb g).map (Qi true)))]) rfl (vc (tv (T.agg (Qa false g)) rfl) vn) (LendL.cons (lg Qt) ln) (ZI (n+0) g (by assumption)) rfl) ?_)))))))))))
 refine aO (T.os 4 3 0 (((Qb g).map (Qi true)).length)) rfl (nt (sq (sr (fO (OF.assign (VEv.int .i64 0)) (nt (VRun.block ?_))))))
 have he1: []=((Je g s 0).map (Qd true)):=by rfl
 refine VRun.loop (A:=Nat) (fun s_=> [(2,(T.op 0 0)),(3,(T.op 1 0)),(4,T.nils),(5,(T.os 1 3 0 (((Je g s s_).map (Qd true)).length))),(6,(T.os 4 2 0 (((Qb g).map (Qi true)).length))),(7,(tN s_))]) (fun s_=>Q3 [(0,(Obj.cells (Qa false g))),(1,(Obj.cells (Qi false s))),(2,(Obj.rows 4 ((Qb g).map (Qi true)))),(3,(Obj.rows 1 ((Je g s s_).map (Qd true))))]) 4 (fun s_=>s_≤(Qb g).length) (fun s_=>(Qb g).length - s_) (0:Nat) ?_ (Wk.mk (fun k=>if k=2 then 3 else if k=3 then 2 else k) ?_ ?_ ?_) ?_
 ·(simp;done)
 ·exact (b2 (b2 (b2 (bc ⟨(congrArg (fun n_=>T.os 1 2 0 n_) (show 0=((Je g s 0).map (Qd true)).length from (by rfl))),rfl⟩ (b2 (b2 bn))))))
 ·exact (b3 (b3 (b3 (bc ⟨(congrArg (fun l_=>some (Obj.rows 1 l_)) he1),(lb rfl),rfl⟩ bn))))
 ·exact nd rfl
 rintro i (hI':i≤(Qb g).length)
 show VRun _ _ _ [(2,(T.op 0 0)),(3,(T.op 1 0)),(4,T.nils),(5,(T.os 1 3 0 (((Je g s i).map (Qd true)).length))),(6,(T.os 4 2 0 (((Qb g).map (Qi true)).length))),(7,(tN i))] (Q3 [(0,(Obj.cells (Qa false g))),(1,(Obj.cells (Qi false s))),(2,(Obj.rows 4 ((Qb g).map (Qi true)))),(3,(Obj.rows 1 ((Je g s i).map (Qd true))))]) 4 _
 have hI1:=hI'
 refine sq (sr (mO (tN i) rfl (mO (T.os 4 2 0 (((Qb g).map (Qi true)).length)) rfl (lO (B.lenO (m:=(Qb g).length) (tv (T.os 4 2 0 (((Qb g).map (Qi true)).length)) rfl) J8 (List.length_map ..)) (fO (Zt (tv (tN i) rfl) (tv (tN ((Qb g).length)) rfl)) (nt ?_))))))
 refine cd (i<(Qb g).length) rfl (fun fhc0=> ?_) fun fhc0=> ?_
 ·refine sk ?_
  refine tn (sq (VRun.block (sq (sq (VRun.draw (B:= [[],[],[1,0],[0,1,2],[],[4,2,1,0,3]]) (by kernel_rfl) (by kernel_rfl) (mD (T.os 4 2 0 (((Qb g).map (Qi true)).length)) rfl rfl (mD (tN i) rfl rfl ?_)))))))
  obtain ⟨x1,hx1⟩:∃x,(Qb g)[i]? =some x:=⟨_,List.getElem?_eq_getElem (by omega)⟩
  refine fD (B.indexAddrO (i:=i) (tv (T.os 4 2 0 (((Qb g).map (Qi true)).length)) rfl) (tv (tN i) rfl) rfl (by (simp only [List.length_map];omega)) J8 ZM Qc8) rfl rfl (lD (OL.loadPn (us:=(Qi false x1)) (row:=(Qi true x1)) (tv (T.orp 4 2 i 0) rfl) rfl (QA _ hx1) QfT ZM (lb rfl) rfl (bc rfl (bc rfl (bc rfl (bc rfl bn))))) rfl rfl (lD (OL.loadOn (us:=(Qi false s)) (tv (T.op 1 0) rfl) rfl QfT ZM (lb rfl) rfl) rfl rfl (fD (B.neq97 (a:=x1) (b:=s) (m:=false) (m':=false) (tv (T.agg (Qi false x1)) rfl) (tv (T.agg (Qi false s)) rfl)) rfl rfl (VRunD.nil (tn ?_)))))
  refine cn (x1=s) rfl (fun fhc1=> ?_) fun fhc1=> ?_
  ·refine VRun.exit ?_
   refine vthn.e (vinB.e (tn (VRun.region (mO (tN i) rfl (fO (QF (tv (tN i) rfl) (VEv.int .i64 1) (by omega)) (aO (tN (i+1)) rfl (VRunO.nil (tn ?_))))))))
   have he2:Je g s i=Je g s (i+1):=by exact (Qk0 hx1 fhc1).symm
   refine ⟨(i+1:Nat),?_,?_,Wk.mk (fun k=>k) ?_ ?_ ?_⟩
   ·trivial
   ·omega
   ·exact (b2 (b2 (b2 (bc ⟨(congrArg (fun l_=>T.os 1 3 0 (List.map (Qd true) l_).length) he2),rfl⟩ (b2 (b2 bn))))))
   ·exact (b3 (b3 (b3 (bc ⟨(congrArg (fun l_=>some (Obj.rows 1 (List.map (Qd true) l_))) he2),(lb rfl),rfl⟩ bn))))
   ·exact nd rfl
  have hok:QeJ g s:=fhc1▸QaJ (List.mem_of_getElem? hx1)
  obtain ⟨hg,hcc,hll⟩:=hok
  have hB:=hg.2.1
  refine sk (tn (sr (fO (OF.assign (VEv.int .i64 0)) (nt (VRun.block ?_)))))
  have he3:Je g s i=Qp g s 0:=by (rw [Qip hx1 fhc1];rfl)
  refine VRun.loop (A:=Nat) (fun s_=> [(2,(T.op 0 0)),(3,(T.op 1 0)),(4,T.nils),(5,(T.os 1 3 0 (((Qp g s s_).map (Qd true)).length))),(6,(T.os 4 2 0 (((Qb g).map (Qi true)).length))),(7,(tN i)),(8,(tN s_))]) (fun s_=>Q3 [(0,(Obj.cells (Qa false g))),(1,(Obj.cells (Qi false s))),(2,(Obj.rows 4 ((Qb g).map (Qi true)))),(3,(Obj.rows 1 ((Qp g s s_).map (Qd true))))]) 4 (fun s_=>s_≤s.Length.toNat) (fun s_=>s.Length.toNat - s_) (0:Nat) ?_ (Wk.mk (fun k=>k) ?_ ?_ ?_) ?_
  ·(simp;done)
  ·exact (b2 (b2 (b2 (bc ⟨(congrArg (fun l_=>T.os 1 3 0 (List.map (Qd true) l_).length) he3),rfl⟩ (b2 (b2 (b2 bn)))))))
  ·exact (b3 (b3 (b3 (bc ⟨(congrArg (fun l_=>some (Obj.rows 1 (List.map (Qd true) l_))) he3),(lb rfl),rfl⟩ bn))))
  ·exact nd rfl
  rintro k (hI':k≤s.Length.toNat)
  show VRun _ _ _ [(2,(T.op 0 0)),(3,(T.op 1 0)),(4,T.nils),(5,(T.os 1 3 0 (((Qp g s k).map (Qd true)).length))),(6,(T.os 4 2 0 (((Qb g).map (Qi true)).length))),(7,(tN i)),(8,(tN k))] (Q3 [(0,(Obj.cells (Qa false g))),(1,(Obj.cells (Qi false s))),(2,(Obj.rows 4 ((Qb g).map (Qi true)))),(3,(Obj.rows 1 ((Qp g s k).map (Qd true))))]) 4 _
  have hJ1:=hI'
  have hN:=QcP (n:=k) (c:=g.Cols) (by omega) hB.1 hB.2
  have hcl:=Y9 g s k
  refine sq (sr (mO (tN k) rfl (lf (tI s.Length) rfl Qba rfl rfl Q0 (fO (xls (tv (tN k) rfl) (tv (tI s.Length) rfl)) (nt ?_)))))
  refine cd (((k:Nat):Int)<s.Length) rfl (fun fhc2=> ?_) fun fhc2=> ?_
  ·refine sk ?_
   refine tn (sq (VRun.block (sr (lf (tB s.Down) rfl QiN rfl rfl st4 (nt ?_)))))
   refine VRun.cond (tv (tB s.Down) rfl) (fun hc3=> ?_) (fun hc3=> ?_)
   ·have fhc3:s.Down=true:=hc3
    refine VRun.region (mO (T.os 1 3 0 (((Qp g s k).map (Qd true)).length)) rfl (lf (tI s.Cell) rfl QeN rfl rfl Q0 (mO (tN k) rfl (lf (tI g.Cols) rfl Q7 rfl rfl Q0 (fO (B.mul (n:=(((k:Nat):Int)*g.Cols)) (tv (tN k) rfl) (tv (tI g.Cols) rfl) (by (refine Qes ?_ ?_ ?_<;>omega))) (fO (B.add (n:=(s.Cell+(((k:Nat):Int)*g.Cols))) (tv (tI s.Cell) rfl) (tv (tI (((k:Nat):Int)*g.Cols)) rfl) (by (rw [Qy (by omega)];done))) (kO (OM.buildSlice (l:= [(tI (s.Cell+(((k:Nat):Int)*g.Cols)))]) (VEvp.cons (tv (tI (s.Cell+(((k:Nat):Int)*g.Cols))) rfl) VEvp.nil) rfl (by decide) (bc (nofun) bn) (bc ((bc (rfl) bn)) bn) (bc (rfl) bn) YQ zo3 (by kernel_rfl) rfl (by rw [Z8];decide) Z8 (Nat.le_of_ble_eq_true rfl)) (cO (B.append (rows:=((Qp g s k).map (Qd true))) (rows2:= [[(tI (s.Cell+(((k:Nat):Int)*g.Cols)))]]) (rows3:=((Qp g s k++ [(s.Cell+(((k:Nat):Int)*g.Cols))]).map (Qd true))) (VDst.own (tv (T.os 1 3 0 (((Qp g s k).map (Qd true)).length)) rfl) rfl rfl) (VSrc.own (tv (T.os 1 4 0 1) rfl) rfl rfl YQ (bc (bc rfl bn) bn)) (by decide) YQ Z8 (by decide) zo3 rfl (of_decide_eq_true (by kernel_rfl)) (by (simp only [List.length_map,List.length_append,List.length_cons,List.length_nil,List.length_replicate,List.length_set,List.length_drop,List.length_take,Yd] at *;omega)) ((List.map_append (f:=Qd true) (l₁:=Qp g s k) (l₂:= [(s.Cell+(((k:Nat):Int)*g.Cols))])).symm)) (aO (T.os 1 5 0 (((Qp g s k++ [(s.Cell+(((k:Nat):Int)*g.Cols))]).map (Qd true)).length)) rfl (VRunO.nil (vinB.n ?_)))))))))))
    refine tn (VRun.region (mO (tN k) rfl (fO (QF (tv (tN k) rfl) (VEv.int .i64 1) (by omega)) (aO (tN (k+1)) rfl (VRunO.nil (tn ?_))))))
    have he4:(Qp g s k++ [(s.Cell+(((k:Nat):Int)*g.Cols))])=Qp g s (k+1):=by rw [Jt,Qeh,if_pos fhc3]
    refine ⟨(k+1:Nat),?_,?_,Wk.mk (fun k=>if k=3 then 5 else k) ?_ ?_ ?_⟩
    ·omega
    ·omega
    ·exact (b2 (b2 (b2 (bc ⟨(congrArg (fun l_=>T.os 1 5 0 (List.map (Qd true) l_).length) he4),rfl⟩ (b2 (b2 (b2 bn)))))))
    ·exact (b3 (b3 (b3 (bc ⟨(congrArg (fun l_=>some (Obj.rows 1 (List.map (Qd true) l_))) he4),(lb rfl),rfl⟩ bn))))
    ·exact nd rfl
   have fhc3:s.Down=false:=hc3
   refine VRun.region (mO (T.os 1 3 0 (((Qp g s k).map (Qd true)).length)) rfl (lf (tI s.Cell) rfl QeN rfl rfl Q0 (mO (tN k) rfl (fO (B.add (n:=(s.Cell+((k:Nat):Int))) (tv (tI s.Cell) rfl) (tv (tN k) rfl) (by (rw [Qy (by omega)];done))) (kO (OM.buildSlice (l:= [(tI (s.Cell+((k:Nat):Int)))]) (VEvp.cons (tv (tI (s.Cell+((k:Nat):Int))) rfl) VEvp.nil) rfl (by decide) (bc (nofun) bn) (bc ((bc (rfl) bn)) bn) (bc (rfl) bn) YQ zo3 (by kernel_rfl) rfl (by rw [Z8];decide) Z8 (Nat.le_of_ble_eq_true rfl)) (cO (B.append (rows:=((Qp g s k).map (Qd true))) (rows2:= [[(tI (s.Cell+((k:Nat):Int)))]]) (rows3:=((Qp g s k++ [(s.Cell+((k:Nat):Int))]).map (Qd true))) (VDst.own (tv (T.os 1 3 0 (((Qp g s k).map (Qd true)).length)) rfl) rfl rfl) (VSrc.own (tv (T.os 1 4 0 1) rfl) rfl rfl YQ (bc (bc rfl bn) bn)) (by decide) YQ Z8 (by decide) zo3 rfl (of_decide_eq_true (by kernel_rfl)) (by (simp only [List.length_map,List.length_append,List.length_cons,List.length_nil,List.length_replicate,List.length_set,List.length_drop,List.length_take,Yd] at *;omega)) ((List.map_append (f:=Qd true) (l₁:=Qp g s k) (l₂:= [(s.Cell+((k:Nat):Int))])).symm)) (aO (T.os 1 5 0 (((Qp g s k++ [(s.Cell+((k:Nat):Int))]).map (Qd true)).length)) rfl (VRunO.nil (vinB.n (tn (VRun.region ?_)))))))))))
   refine mO (tN k) rfl (fO (QF (tv (tN k) rfl) (VEv.int .i64 1) (by omega)) (aO (tN (k+1)) rfl (VRunO.nil (tn ?_))))
   have he5:(Qp g s k++ [(s.Cell+((k:Nat):Int))])=Qp g s (k+1):=by (rw [Jt,Qeh,fhc3];simp;done)
   refine ⟨(k+1:Nat),?_,?_,Wk.mk (fun k=>if k=3 then 5 else k) ?_ ?_ ?_⟩
   ·omega
   ·omega
   ·exact (b2 (b2 (b2 (bc ⟨(congrArg (fun l_=>T.os 1 5 0 (List.map (Qd true) l_).length) he5),rfl⟩ (b2 (b2 (b2 bn)))))))
   ·exact (b3 (b3 (b3 (bc ⟨(congrArg (fun l_=>some (Obj.rows 1 (List.map (Qd true) l_))) he5),(lb rfl),rfl⟩ bn))))
   ·exact nd rfl
  refine VRun.exit (vthn.e (vthn.e (vinB.e (vinB.n (tn (VRun.region (mO (tN i) rfl (fO (QF (tv (tN i) rfl) (VEv.int .i64 1) (by omega)) (aO (tN (i+1)) rfl (VRunO.nil (tn ?_)))))))))))
  have he6:Qp g s k=Je g s (i+1):=by exact Qjs hx1 fhc1 fhc2 hJ1
  refine ⟨(i+1:Nat),?_,?_,Wk.mk (fun k=>k) ?_ ?_ ?_⟩
  ·trivial
  ·omega
  ·exact (b2 (b2 (b2 (bc ⟨(congrArg (fun l_=>T.os 1 3 0 (List.map (Qd true) l_).length) he6),rfl⟩ (b2 (b2 bn))))))
  ·exact (b3 (b3 (b3 (bc ⟨(congrArg (fun l_=>some (Obj.rows 1 (List.map (Qd true) l_))) he6),(lb rfl),rfl⟩ bn))))
  ·exact nd rfl
 refine VRun.exit (vthn.e (vthn.e (vinB.e (tn (sr (mO (T.os 1 3 0 (((Je g s i).map (Qd true)).length)) rfl (aO (T.os 1 3 0 (((Je g s i).map (Qd true)).length)) rfl (nt (rt ?_)))))))))
 refine vfin.eq (r':=(T.sl true 1 ((Je g s i).map (Qd true)))) ?_ (vfin.r (VRes.tmp (t:=(T.os 1 3 0 (((Je g s i).map (Qd true)).length))) rfl VRes.nil) (Give.os rfl rfl (okInt.cleanMap _)))
 refine congrArg (fun l_=>T.sl true 1 (List.map (Qd true) l_)) ?_
 exact Qjp g s (by omega)
end Go.Proofs.YthifchndolccgaaGreatDoor.AE
namespace Go.Proofs.YthifchndolccgaaGreatDoor.AE
open Go Go.RowKit
set_option linter.unusedVariables false
set_option linter.unusedSimpArgs false
set_option maxRecDepth 20000
set_option maxHeartbeats 2000000
noncomputable section
def inS (g:D.Grid) (c:Int) (s:D.Slot):Prop:=c∈Qp g s s.Length.toNat
instance (g:D.Grid) (c:Int) (s:D.Slot):Decidable (inS g c s):=Classical.propDecidable _
def atL (g:D.Grid) (c:Int):List D.Slot→Nat→List Int
 | [],_=> []
 | s::r,n=>(if inS g c s then [((n:Nat):Int)] else [])++atL g c r (n+1)
theorem Qft (g:D.Grid) (c:Int) (s:D.Slot):∀(l:List D.Slot) (n:Nat),atL g c (l++ [s]) n=atL g c l n++(if inS g c s then [((n+l.length:Nat):Int)] else [])
 | [],n=>by simp [atL]
 | x::r,n=>by
  rw [List.cons_append,atL,atL,Qft g c s r (n+1),List.append_assoc]
  simp only [List.length_cons,show n+1+r.length=n+(r.length+1) by omega]
def ZU (g:D.Grid) (c:Int) (i:Nat):List Int:=atL g c ((Qb g).take i) 0
theorem Qbn {g:D.Grid} {c:Int} {i:Nat} {s:D.Slot} (h:(Qb g)[i]? =some s):ZU g c (i+1)=ZU g c i++(if inS g c s then [((i:Nat):Int)] else []):=by
 have hi:=(List.getElem?_eq_some_iff.1 h).1
 unfold ZU
 rw [List.take_add_one,h,Option.toList_some,Qft]
 simp [Nat.min_eq_left (Nat.le_of_lt hi)]
theorem QgY (g:D.Grid) (c:Int):∀(l:List D.Slot) (n:Nat),(atL g c l n).length≤l.length
 | [],n=>by simp [atL]
 | x::r,n=>by
  have:=QgY g c r (n+1)
  rw [atL,List.length_append,List.length_cons]
  split<;>simp only [List.length_cons,List.length_nil]<;>omega
theorem QgJ (g:D.Grid) (c:Int) (i:Nat):(ZU g c i).length≤(Qb g).length:=by
 have:=QgY g c ((Qb g).take i) 0
 rw [List.length_take] at this
 unfold ZU
 omega
theorem Qgh {g:D.Grid} {i:Nat} {s:D.Slot} (h:(Qb g)[i]? =some s):(if s∈Qb g then Qp g s s.Length.toNat else [])=Qp g s s.Length.toNat:=if_pos (List.mem_of_getElem? h)
theorem Qg2 (g:D.Grid) (s:D.Slot):(if s∈Qb g then Qp g s s.Length.toNat else []).length≤6:=by
 split
 ·rename_i h
  rw [Y9]
  have:=(QaJ h).2.2.2
  omega
 ·simp
end
theorem Qau (n:Nat) (g:D.Grid) (c:Int) (hc:g.Cells.size≤maxLen):Pure (Qr Tryz.prog (n+5)) 101 [(T.agg (Qa false g)),(tI c)] (T.sl true 1 ((ZU g c (Qb g).length).map (Qd true))):=by
 refine Pure.intro (rs:= [ResultVar.tmp 4]) Tryz.func101 rfl rfl rfl (E0:= [(0,(T.agg (Qa false g))),(1,(tI c))]) rfl ?_
 obtain ⟨hlim,hmx,hmax⟩:=QJ
 have hsl:=ZE g
 refine sr (kO (B.box (ts:=(Qa false g)) (tv (T.agg (Qa false g)) rfl) nofun rfl) (fO (OF.assign VEv.nils) (nt (sr (kO (OM.slice0 YQ zo3 (by kernel_rfl) rfl (by rw [Z8];decide) Z8) (aO (T.os 1 1 0 0) rfl (nt (sr (lO (OL.loadOn (us:=(Qa false g)) (tv (T.op 0 0) rfl) rfl QY QR (lb rfl) rfl) (cO (OC.callF (r':=(T.os 4 2 0 (((Qb g).map (Qi true)).length))) (objs:= [(Obj.rows 4 ((Qb g).map (Qi true)))]) rfl (vc (tv (T.agg (Qa false g)) rfl) vn) (LendL.cons (lg Qt) ln) (ZI (n+1) g (by assumption)) rfl) (aO (T.os 4 2 0 (((Qb g).map (Qi true)).length)) rfl ?_)))))))))))
 refine nt (sq (sr (fO (OF.assign (VEv.int .i64 0)) (nt (VRun.block ?_)))))
 have he1: []=((ZU g c 0).map (Qd true)):=by rfl
 refine VRun.loop (A:=Nat) (fun s_=> [(1,(tI c)),(2,(T.op 0 0)),(4,T.nils),(5,(T.os 1 2 0 (((ZU g c s_).map (Qd true)).length))),(6,(T.os 4 1 0 (((Qb g).map (Qi true)).length))),(7,(tN s_))]) (fun s_=>Q3 [(0,(Obj.cells (Qa false g))),(1,(Obj.rows 4 ((Qb g).map (Qi true)))),(2,(Obj.rows 1 ((ZU g c s_).map (Qd true))))]) 3 (fun s_=>s_≤(Qb g).length) (fun s_=>(Qb g).length - s_) (0:Nat) ?_ (Wk.mk (fun k=>if k=1 then 2 else if k=2 then 1 else k) ?_ ?_ ?_) ?_
 ·(simp;done)
 ·exact (b2 (b2 (b2 (bc ⟨(congrArg (fun n_=>T.os 1 1 0 n_) (show 0=((ZU g c 0).map (Qd true)).length from (by rfl))),rfl⟩ (b2 (b2 bn))))))
 ·exact (b3 (b3 (bc ⟨(congrArg (fun l_=>some (Obj.rows 1 l_)) he1),(lb rfl),rfl⟩ bn)))
 ·exact nd rfl
 rintro i (hI':i≤(Qb g).length)
 show VRun _ _ _ [(1,(tI c)),(2,(T.op 0 0)),(4,T.nils),(5,(T.os 1 2 0 (((ZU g c i).map (Qd true)).length))),(6,(T.os 4 1 0 (((Qb g).map (Qi true)).length))),(7,(tN i))] (Q3 [(0,(Obj.cells (Qa false g))),(1,(Obj.rows 4 ((Qb g).map (Qi true)))),(2,(Obj.rows 1 ((ZU g c i).map (Qd true))))]) 3 _
 have hI1:=hI'
 have hal:=QgJ g c i
 refine sq (sr (mO (tN i) rfl (mO (T.os 4 1 0 (((Qb g).map (Qi true)).length)) rfl (lO (B.lenO (m:=(Qb g).length) (tv (T.os 4 1 0 (((Qb g).map (Qi true)).length)) rfl) J8 (List.length_map ..)) (fO (Zt (tv (tN i) rfl) (tv (tN ((Qb g).length)) rfl)) (nt ?_))))))
 refine cd (i<(Qb g).length) rfl (fun fhc0=> ?_) fun fhc0=> ?_
 ·refine sk ?_
  refine tn (sq (VRun.block (sq (VRun.draw (B:= [[],[],[],[2,1],[1,2,3],[3,2,1,4,0],[],[6,0,4,1,2,3,5]]) (by kernel_rfl) (by kernel_rfl) (lD (OL.loadOn (us:=(Qa false g)) (tv (T.op 0 0) rfl) rfl QY QR (lb rfl) rfl) rfl rfl (mD (T.os 4 1 0 (((Qb g).map (Qi true)).length)) rfl rfl (mD (tN i) rfl rfl ?_)))))))
  obtain ⟨x1,hx1⟩:∃x,(Qb g)[i]? =some x:=⟨_,List.getElem?_eq_getElem (by omega)⟩
  refine fD (B.indexAddrO (i:=i) (tv (T.os 4 1 0 (((Qb g).map (Qi true)).length)) rfl) (tv (tN i) rfl) rfl (by (simp only [List.length_map];omega)) J8 ZM Qc8) rfl rfl (lD (OL.loadPn (us:=(Qi false x1)) (row:=(Qi true x1)) (tv (T.orp 4 1 i 0) rfl) rfl (QA _ hx1) QfT ZM (lb rfl) rfl (bc rfl (bc rfl (bc rfl (bc rfl bn))))) rfl rfl (VRunD.quiet (bi:= [3,2,1,4,0]) rfl VWant.always rfl rfl rfl bn (OC.callF (r':=(T.os 1 3 0 (((if x1∈Qb g then Qp g x1 x1.Length.toNat else []).map (Qd true)).length))) (objs:= [(Obj.rows 1 ((if x1∈Qb g then Qp g x1 x1.Length.toNat else []).map (Qd true)))]) rfl (vc (tv (T.agg (Qa false g)) rfl) (vc (tv (T.agg (Qi false x1)) rfl) vn)) (LendL.cons (lg Qt) (LendL.cons (lg okeSlot) ln)) (Qaj (n+0) g x1 (by assumption)) rfl) (mD (tI c) rfl rfl (VRunD.quiet (bi:= [6,0,4,1,2,3,5]) rfl VWant.always rfl rfl rfl bn (cS (us:= [(rd 1 Qd (if x1∈Qb g then Qp g x1 x1.Length.toNat else [])),(tI c)]) (vc (tv (T.os 1 3 0 (((if x1∈Qb g then Qp g x1 x1.Length.toNat else []).map (Qd true)).length)) rfl) (vc (tv (tI c) rfl) vn)) (LendL.cons (Lend.os rfl rfl (okInt.fzMap _ _)) (lp rfl ln)) (QeW (n+3) (if x1∈Qb g then Qp g x1 x1.Length.toNat else []) c (by exact Nat.le_trans (Qg2 g _) (by decide))) rfl rfl) (VRunD.nil (tn ?_))))))
  refine cd (c∈(if x1∈Qb g then Qp g x1 x1.Length.toNat else [])) rfl (fun fhc1=> ?_) fun fhc1=> ?_
  ·rw [Qgh hx1] at fhc1
   have q1:inS g c x1:=fhc1
   refine VRun.region (mO (T.os 1 2 0 (((ZU g c i).map (Qd true)).length)) rfl (mO (tN i) rfl (kO (OM.buildSlice (l:= [(tN i)]) (VEvp.cons (tv (tN i) rfl) VEvp.nil) rfl (by decide) (bc (nofun) bn) (bc ((bc (rfl) bn)) bn) (bc (rfl) bn) YQ zo3 (by kernel_rfl) rfl (by rw [Z8];decide) Z8 (Nat.le_of_ble_eq_true rfl)) (cO (B.append (rows:=((ZU g c i).map (Qd true))) (rows2:= [[(tN i)]]) (rows3:=((ZU g c i++ [((i:Nat):Int)]).map (Qd true))) (VDst.own (tv (T.os 1 2 0 (((ZU g c i).map (Qd true)).length)) rfl) rfl rfl) (VSrc.own (tv (T.os 1 4 0 1) rfl) rfl rfl YQ (bc (bc rfl bn) bn)) (by decide) YQ Z8 (by decide) zo3 rfl (of_decide_eq_true (by kernel_rfl)) (by (simp only [List.length_map,List.length_append,List.length_cons,List.length_nil,List.length_replicate,List.length_set,List.length_drop,List.length_take,Yd] at *;omega)) ((List.map_append (f:=Qd true) (l₁:=ZU g c i) (l₂:= [((i:Nat):Int)])).symm)) (aO (T.os 1 5 0 (((ZU g c i++ [((i:Nat):Int)]).map (Qd true)).length)) rfl (VRunO.nil (vinB.n (tn (VRun.region (mO (tN i) rfl (fO (QF (tv (tN i) rfl) (VEv.int .i64 1) (by omega)) ?_)))))))))))
   refine aO (tN (i+1)) rfl (VRunO.nil (tn ?_))
   have he2:(ZU g c i++ [((i:Nat):Int)])=ZU g c (i+1):=by rw [Qbn hx1,if_pos q1]
   refine ⟨(i+1:Nat),?_,?_,Wk.mk (fun k=>if k=2 then 5 else k) ?_ ?_ ?_⟩
   ·trivial
   ·omega
   ·exact (b2 (b2 (b2 (bc ⟨(congrArg (fun l_=>T.os 1 5 0 (List.map (Qd true) l_).length) he2),rfl⟩ (b2 (b2 bn))))))
   ·exact (b3 (b3 (bc ⟨(congrArg (fun l_=>some (Obj.rows 1 (List.map (Qd true) l_))) he2),(lb rfl),rfl⟩ bn)))
   ·exact nd rfl
  rw [Qgh hx1] at fhc1
  have q1:¬inS g c x1:=fhc1
  refine sk (vinB.n (tn (VRun.region (mO (tN i) rfl (fO (QF (tv (tN i) rfl) (VEv.int .i64 1) (by omega)) (aO (tN (i+1)) rfl (VRunO.nil (tn ?_))))))))
  have he3:ZU g c i=ZU g c (i+1):=by rw [Qbn hx1,if_neg q1,List.append_nil]
  refine ⟨(i+1:Nat),?_,?_,Wk.mk (fun k=>k) ?_ ?_ ?_⟩
  ·trivial
  ·omega
  ·exact (b2 (b2 (b2 (bc ⟨(congrArg (fun l_=>T.os 1 2 0 (List.map (Qd true) l_).length) he3),rfl⟩ (b2 (b2 bn))))))
  ·exact (b3 (b3 (bc ⟨(congrArg (fun l_=>some (Obj.rows 1 (List.map (Qd true) l_))) he3),(lb rfl),rfl⟩ bn)))
  ·exact nd rfl
 refine VRun.exit (vthn.e (vthn.e (vinB.e (tn (sr (mO (T.os 1 2 0 (((ZU g c i).map (Qd true)).length)) rfl (aO (T.os 1 2 0 (((ZU g c i).map (Qd true)).length)) rfl (nt (rt ?_)))))))))
 refine vfin.eq (r':=(T.sl true 1 ((ZU g c i).map (Qd true)))) ?_ (vfin.r (VRes.tmp (t:=(T.os 1 2 0 (((ZU g c i).map (Qd true)).length))) rfl VRes.nil) (Give.os rfl rfl (okInt.cleanMap _)))
 refine congrArg (fun l_=>T.sl true 1 (List.map (Qd true) l_)) ?_
 rw [show i=(Qb g).length from by omega]
noncomputable section
theorem Qgc {g:D.Grid} {i:Nat} {x:List Int} (h:(QP g)[i]? =some x):∃s,(Qb g)[i]? =some s∧x=Qp g s s.Length.toNat:=by
 unfold QP at h
 rw [List.getElem?_map] at h
 obtain ⟨s,h1,h2⟩:=Option.map_eq_some_iff.1 h
 exact ⟨s,h1,h2.symm⟩
theorem QcZ {g:D.Grid} {s:D.Slot} {i:Nat} (h:(Qb g)[i]? =some s):(Qp g s s.Length.toNat).length≤6:=by
 rw [Y9]
 have:=(QaJ (List.mem_of_getElem? h)).2.2.2
 omega
end
theorem Qdr (n:Nat) (g:D.Grid) (c:Int) (hc:g.Cells.size≤maxLen):Pure (Qr Tryz.prog (n+5)) 138 [(T.agg (Qa false g)),(tI c)] (T.sl true 1 ((ZU g c (Qb g).length).map (Qd true))):=by
 refine Pure.intro (rs:= [ResultVar.tmp 4]) Tryz.func138 rfl rfl rfl (E0:= [(0,(T.agg (Qa false g))),(1,(tI c))]) rfl ?_
 obtain ⟨hlim,hmx,hmax⟩:=QJ
 have hsl:=ZE g
 have hll:=QbI g
 refine sr (kO (B.box (ts:=(Qa false g)) (tv (T.agg (Qa false g)) rfl) nofun rfl) (fO (OF.assign VEv.nils) (nt (sr (fO (OF.assign VEv.nils) (nt (sq (sr (lO (OL.loadOn (us:=(Qa false g)) (tv (T.op 0 0) rfl) rfl QY QR (lb rfl) rfl) (cO (OC.callF (r':=(T.os 1 1 0 (((QP g).map ((YS 1 Qd) true)).length))) (objs:= [(Obj.rows 1 ((QP g).map ((YS 1 Qd) true)))]) rfl (vc (tv (T.agg (Qa false g)) rfl) vn) (LendL.cons (lg Qt) ln) (Jv (n+0) g (by assumption)) rfl) (lO (B.lenO (m:=(QP g).length) (tv (T.os 1 1 0 (((QP g).map ((YS 1 Qd) true)).length)) rfl) Qe2 (List.length_map ..)) ?_)))))))))))
 refine fO (OF.move (VEv.int .i64 0)) (nt (VRun.block (VRun.wk (Wk.freeze (sz:=1) (k:=1) (rows':=((QP g).map ((YS 1 Qd) false))) [9] (bc rfl bn) rfl rfl ((QjS okInt).fzMap _ _)) (VRun.wk (Wk.phantom 5 1 rfl) ?_))))
 have he1: []=((ZU g c 0).map (Qd true)):=by rfl
 refine VRun.loop (A:=Nat) (fun s_=> [(1,(tI c)),(4,T.nils),(5,(T.os 1 0 0 (((ZU g c s_).map (Qd true)).length))),(9,(rd 1 (YS 1 Qd) (QP g))),(10,(tN ((QP g).length))),(11,(tN s_))]) (fun s_=>Q3 [(0,(Obj.rows 1 ((ZU g c s_).map (Qd true))))]) 1 (fun s_=>s_≤(QP g).length) (fun s_=>(QP g).length - s_) (0:Nat) ?_ (Wk.mk (fun k=>if k=0 then 2 else k) ?_ ?_ ?_) ?_
 ·(simp;done)
 ·exact (b2 (b2 (bc ⟨(congrArg (fun n_=>T.os 1 2 0 n_) (show 0=((ZU g c 0).map (Qd true)).length from (by rfl))),rfl⟩ (b2 (b2 (b2 bn))))))
 ·exact (bc ⟨(congrArg (fun l_=>some (Obj.rows 1 l_)) he1),(lb rfl),rfl⟩ bn)
 ·exact nd rfl
 rintro i (hI':i≤(QP g).length)
 show VRun _ _ _ [(1,(tI c)),(4,T.nils),(5,(T.os 1 0 0 (((ZU g c i).map (Qd true)).length))),(9,(rd 1 (YS 1 Qd) (QP g))),(10,(tN ((QP g).length))),(11,(tN i))] (Q3 [(0,(Obj.rows 1 ((ZU g c i).map (Qd true))))]) 1 _
 have hI1:=hI'
 have hal:=QgJ g c i
 refine sr (fO (Zt (tv (tN i) rfl) (tv (tN ((QP g).length)) rfl)) (nt (sq ?_)))
 refine cd (i<(QP g).length) rfl (fun fhc0=> ?_) fun fhc0=> ?_
 ·refine sk ?_
  refine tn (sq (VRun.block (sr (mO (tN i) rfl ?_))))
  obtain ⟨x1,hx1⟩:∃x,(QP g)[i]? =some x:=⟨_,List.getElem?_eq_getElem (by omega)⟩
  obtain ⟨y1,hy1,hq1⟩:=Qgc hx1
  refine fO (OF.indexAddrR (row:=((YS 1 Qd) false x1)) (i:=i) (tv (rd 1 (YS 1 Qd) (QP g)) rfl) (tv (tN i) rfl) rfl (QA _ hx1) Qe2 Qd8 Qge) (lO (OL.loadR1 (t:=(rd 1 Qd x1)) (tv (T.rp [(rd 1 Qd x1)]) rfl) rfl QbM) (aO (tN i) rfl (aO (rd 1 Qd x1) rfl (nt (sr (mO (rd 1 Qd x1) rfl (mO (tI c) rfl (cO (cS (vc (tv (rd 1 Qd x1) rfl) (vc (tv (tI c) rfl) vn)) (Yl rfl) (Y2 (n+2) x1 c (by (rw [hq1];exact Nat.le_trans (QcZ hy1) (by decide)))) rfl rfl) (nt ?_)))))))))
  refine cd (c∈x1) rfl (fun fhc1=> ?_) fun fhc1=> ?_
  ·have q1:inS g c y1:=by rw [inS,← hq1];exact fhc1
   refine VRun.region (mO (T.os 1 0 0 (((ZU g c i).map (Qd true)).length)) rfl (mO (tN i) rfl (kO (OM.buildSlice (l:= [(tN i)]) (VEvp.cons (tv (tN i) rfl) VEvp.nil) rfl (by decide) (bc (nofun) bn) (bc ((bc (rfl) bn)) bn) (bc (rfl) bn) YQ zo3 (by kernel_rfl) rfl (by rw [Z8];decide) Z8 (Nat.le_of_ble_eq_true rfl)) (cO (B.append (rows:=((ZU g c i).map (Qd true))) (rows2:= [[(tN i)]]) (rows3:=((ZU g c i++ [((i:Nat):Int)]).map (Qd true))) (VDst.own (tv (T.os 1 0 0 (((ZU g c i).map (Qd true)).length)) rfl) rfl rfl) (VSrc.own (tv (T.os 1 1 0 1) rfl) rfl rfl YQ (bc (bc rfl bn) bn)) (by decide) YQ Z8 (by decide) zo3 rfl (of_decide_eq_true (by kernel_rfl)) (by (simp only [List.length_map,List.length_append,List.length_cons,List.length_nil,List.length_replicate,List.length_set,List.length_drop,List.length_take,Yd] at *;omega)) ((List.map_append (f:=Qd true) (l₁:=ZU g c i) (l₂:= [((i:Nat):Int)])).symm)) (aO (T.os 1 2 0 (((ZU g c i++ [((i:Nat):Int)]).map (Qd true)).length)) rfl (VRunO.nil (vinB.n (tn (VRun.region (fO (QF (tv (tN i) rfl) (VEv.int .i64 1) (by omega)) (mO (tN (i+1)) rfl ?_)))))))))))
   refine VRunO.nil (tn ?_)
   have he2:(ZU g c i++ [((i:Nat):Int)])=ZU g c (i+1):=by rw [Qbn hy1,if_pos q1]
   refine ⟨(i+1:Nat),?_,?_,Wk.mk (fun k=>if k=0 then 2 else k) ?_ ?_ ?_⟩
   ·trivial
   ·omega
   ·exact (b2 (b2 (bc ⟨(congrArg (fun l_=>T.os 1 2 0 (List.map (Qd true) l_).length) he2),rfl⟩ (b2 (b2 (b2 bn))))))
   ·exact (bc ⟨(congrArg (fun l_=>some (Obj.rows 1 (List.map (Qd true) l_))) he2),(lb rfl),rfl⟩ bn)
   ·exact nd rfl
  have q1:¬inS g c y1:=by rw [inS,← hq1];exact fhc1
  refine sk (vinB.n (tn (VRun.region (fO (QF (tv (tN i) rfl) (VEv.int .i64 1) (by omega)) (mO (tN (i+1)) rfl (VRunO.nil (tn ?_)))))))
  have he3:ZU g c i=ZU g c (i+1):=by rw [Qbn hy1,if_neg q1,List.append_nil]
  refine ⟨(i+1:Nat),?_,?_,Wk.mk (fun k=>k) ?_ ?_ ?_⟩
  ·trivial
  ·omega
  ·exact (b2 (b2 (bc ⟨(congrArg (fun l_=>T.os 1 0 0 (List.map (Qd true) l_).length) he3),rfl⟩ (b2 (b2 (b2 bn))))))
  ·exact (bc ⟨(congrArg (fun l_=>some (Obj.rows 1 (List.map (Qd true) l_))) he3),(lb rfl),rfl⟩ bn)
  ·exact nd rfl
 refine VRun.exit (vthn.e (vthn.e (vinB.e (tn (sr (mO (T.os 1 0 0 (((ZU g c i).map (Qd true)).length)) rfl (aO (T.os 1 0 0 (((ZU g c i).map (Qd true)).length)) rfl (nt (rt ?_)))))))))
 refine vfin.eq (r':=(T.sl true 1 ((ZU g c i).map (Qd true)))) ?_ (vfin.r (VRes.tmp (t:=(T.os 1 0 0 (((ZU g c i).map (Qd true)).length))) rfl VRes.nil) (Give.os rfl rfl (okInt.cleanMap _)))
 refine congrArg (fun l_=>T.sl true 1 (List.map (Qd true) l_)) ?_
 rw [show i=(Qb g).length from by omega]
noncomputable section
def chk (g:D.Grid) (c:Int):Prop:=(ZU g c (Qb g).length).length=2
instance (g:D.Grid) (c:Int):Decidable (chk g c):=Classical.propDecidable _
end
theorem Qcj (n:Nat) (g:D.Grid) (c:Int) (hc:g.Cells.size≤maxLen):Pure (Qr Tryz.prog (n+6)) 133 [(T.agg (Qa false g)),(tI c)] (tB (decide (chk g c))):=by
 refine Pure.intro (rs:= [ResultVar.tmp 4]) Tryz.func133 rfl rfl rfl (E0:= [(0,(T.agg (Qa false g))),(1,(tI c))]) rfl ?_
 obtain ⟨hlim,hmx,hmax⟩:=QJ
 refine sr (kO (B.box (ts:=(Qa false g)) (tv (T.agg (Qa false g)) rfl) nofun rfl) (fO (OF.assign (VEv.bool false)) (nt (sr (lO (OL.loadOn (us:=(Qa false g)) (tv (T.op 0 0) rfl) rfl QY QR (lb rfl) rfl) (mO (tI c) rfl (cO (OC.callF (r':=(T.os 1 1 0 (((ZU g c (Qb g).length).map (Qd true)).length))) (objs:= [(Obj.rows 1 ((ZU g c (Qb g).length).map (Qd true)))]) rfl (vc (tv (T.agg (Qa false g)) rfl) (vc (tv (tI c) rfl) vn)) (LendL.cons (lg Qt) (lp rfl ln)) (Qau (n+0) g c (by assumption)) rfl) (lO (B.lenO (m:=(ZU g c (Qb g).length).length) (tv (T.os 1 1 0 (((ZU g c (Qb g).length).map (Qd true)).length)) rfl) YQ (List.length_map ..)) (fO (B.eql (c:=(decide ((ZU g c (Qb g).length).length=2))) (tv (tN ((ZU g c (Qb g).length).length)) rfl) (VEv.int .i64 2) (Q8 (by omega))) (aO (tB (decide ((ZU g c (Qb g).length).length=2))) rfl (nt ?_)))))))))))
 refine rt (vb (b':=(decide ((ZU g c (Qb g).length).length=2))) rfl ?_)
 exact Q8 Iff.rfl
theorem Qcg (n:Nat) (g:D.Grid) (c:Int) (hc:g.Cells.size≤maxLen):Pure (Qr Tryz.prog (n+6)) 107 [(T.agg (Qa false g)),(tI c)] (tB (decide (chk g c))):=by
 refine Pure.intro (rs:= [ResultVar.tmp 4]) Tryz.func107 rfl rfl rfl (E0:= [(0,(T.agg (Qa false g))),(1,(tI c))]) rfl ?_
 obtain ⟨hlim,hmx,hmax⟩:=QJ
 refine sr (kO (B.box (ts:=(Qa false g)) (tv (T.agg (Qa false g)) rfl) nofun rfl) (fO (OF.assign (VEv.bool false)) (nt (sr (lO (OL.loadOn (us:=(Qa false g)) (tv (T.op 0 0) rfl) rfl QY QR (lb rfl) rfl) (mO (tI c) rfl (cO (OC.callF (r':=(T.os 1 1 0 (((ZU g c (Qb g).length).map (Qd true)).length))) (objs:= [(Obj.rows 1 ((ZU g c (Qb g).length).map (Qd true)))]) rfl (vc (tv (T.agg (Qa false g)) rfl) (vc (tv (tI c) rfl) vn)) (LendL.cons (lg Qt) (lp rfl ln)) (Qdr (n+0) g c (by assumption)) rfl) (lO (B.lenO (m:=(ZU g c (Qb g).length).length) (tv (T.os 1 1 0 (((ZU g c (Qb g).length).map (Qd true)).length)) rfl) YQ (List.length_map ..)) (fO (B.eql (c:=(decide ((ZU g c (Qb g).length).length=2))) (tv (tN ((ZU g c (Qb g).length).length)) rfl) (VEv.int .i64 2) (Q8 (by omega))) (aO (tB (decide ((ZU g c (Qb g).length).length=2))) rfl (nt ?_)))))))))))
 refine rt (vb (b':=(decide ((ZU g c (Qb g).length).length=2))) rfl ?_)
 exact Q8 Iff.rfl
end Go.Proofs.YthifchndolccgaaGreatDoor.AE
namespace Go.Proofs.YthifchndolccgaaGreatDoor.AE
open Go Go.RowKit
set_option linter.unusedVariables false
set_option linter.unusedSimpArgs false
set_option maxRecDepth 20000
set_option maxHeartbeats 2000000
noncomputable section
def nUn (g:D.Grid) (l:List Int):Nat:=(l.filter fun c=> !decide (chk g c)).length
theorem Qgg (g:D.Grid) (l:List Int):nUn g l≤l.length:=List.length_filter_le _ _
theorem QbG {g:D.Grid} {l:List Int} {i:Nat} {x:Int} (h:l[i]? =some x):nUn g (l.take (i+1))=nUn g (l.take i)+(if chk g x then 0 else 1):=by
 unfold nUn
 rw [List.take_add_one,h,List.filter_append,List.length_append]
 by_cases hc:chk g x<;>simp [hc]
def unG (g:D.Grid) (slot:Int):Int:=if 0≤slot then (match (Qb g)[slot.toNat]? with | some s=>((nUn g (Qp g s s.Length.toNat):Nat):Int) | none=> -1) else -1
theorem Qh7 {g:D.Grid} {slot:Int} (h:¬(0≤slot∧slot<(((Qb g).length:Nat):Int))):unG g slot= -1:=by
 unfold unG
 by_cases h1:0≤slot
 ·rw [if_pos h1,List.getElem?_eq_none (by omega)]
 ·rw [if_neg h1]
theorem Qil {g:D.Grid} {slot:Int} {s:D.Slot} (h1:0≤slot) (h:(Qb g)[slot.toNat]? =some s):unG g slot=((nUn g (Qp g s s.Length.toNat):Nat):Int):=by
 unfold unG
 rw [if_pos h1,h]
theorem QfM {α:Type} {l:List α} {i:Nat} (h1:i≤l.length) (h2:¬i<l.length):l.take i=l:=List.take_of_length_le (by omega)
theorem Qcx {α:Type} (l:List α) (i:Nat):(l.take i).length≤i:=by rw [List.length_take];omega
end
theorem Qa7 (n:Nat) (g:D.Grid) (slot:Int) (hc:g.Cells.size≤maxLen):Pure (Qr Tryz.prog (n+7)) 99 [(T.agg (Qa false g)),(tI slot)] (tI (unG g slot)):=by
 refine Pure.intro (rs:= [ResultVar.tmp 4]) Tryz.func99 rfl rfl rfl (E0:= [(0,(T.agg (Qa false g))),(1,(tI slot))]) rfl ?_
 obtain ⟨hlim,hmx,hmax⟩:=QJ
 have hsl:=ZE g
 refine sr (kO (B.box (ts:=(Qa false g)) (tv (T.agg (Qa false g)) rfl) nofun rfl) (fO (OF.assign (VEv.int .i64 0)) (nt (sr (lO (OL.loadOn (us:=(Qa false g)) (tv (T.op 0 0) rfl) rfl QY QR (lb rfl) rfl) (cO (OC.callF (r':=(T.os 4 1 0 (((Qb g).map (Qi true)).length))) (objs:= [(Obj.rows 4 ((Qb g).map (Qi true)))]) rfl (vc (tv (T.agg (Qa false g)) rfl) vn) (LendL.cons (lg Qt) ln) (ZI (n+3) g (by assumption)) rfl) (aO (T.os 4 1 0 (((Qb g).map (Qi true)).length)) rfl (nt (sq (sr (mO (tI slot) rfl ?_)))))))))))
 refine mO (T.os 4 1 0 (((Qb g).map (Qi true)).length)) rfl (lO (B.lenO (m:=(Qb g).length) (tv (T.os 4 1 0 (((Qb g).map (Qi true)).length)) rfl) J8 (List.length_map ..)) (fO (B.sub (n:=((((Qb g).length:Nat):Int) - 1)) (tv (tN ((Qb g).length)) rfl) (VEv.int .i64 1) (by (rw [Qy (by omega)];done))) (cO (cS (vc (tv (tI slot) rfl) (vc (VEv.int .i64 0) (vc (tv (tI ((((Qb g).length:Nat):Int) - 1)) rfl) vn))) (Yl rfl) (QV (n+5) slot 0 ((((Qb g).length:Nat):Int) - 1)) rfl rfl) (fO (Q1 (tv (tB (decide (0≤slot∧slot≤((((Qb g).length:Nat):Int) - 1)))) rfl)) (nt ?_)))))
 refine cn (0≤slot∧slot≤((((Qb g).length:Nat):Int) - 1)) rfl (fun fhc0=> ?_) fun fhc0=> ?_
 ·refine sr ?_
  refine fO (OF.assign (VEv.int .i64 (-1))) (nt (rt (tr (vi (n':=(-1)) rfl ?_))))
  exact (Qh7 (by omega)).symm
 have hs0:0≤slot:=by omega
 refine sk (tn (sq (VRun.draw (B:= [[],[],[],[2,1],[1,2,3],[3,2,1,4,0],[0,4,1,2,3,5]]) (by kernel_rfl) (by kernel_rfl) (lD (OL.loadOn (us:=(Qa false g)) (tv (T.op 0 0) rfl) rfl QY QR (lb rfl) rfl) rfl rfl (mD (T.os 4 1 0 (((Qb g).map (Qi true)).length)) rfl rfl (mD (tI slot) rfl rfl ?_))))))
 obtain ⟨x1,hx1⟩:∃x,(Qb g)[(Int.toNat slot)]? =some x:=⟨_,List.getElem?_eq_getElem (by omega)⟩
 refine fD (B.indexAddrO (i:=(Int.toNat slot)) (tv (T.os 4 1 0 (((Qb g).map (Qi true)).length)) rfl) (tv (tI slot) rfl) (by omega) (by (simp only [List.length_map];omega)) J8 ZM Qc8) rfl rfl (lD (OL.loadPn (us:=(Qi false x1)) (row:=(Qi true x1)) (tv (T.orp 4 1 (Int.toNat slot) 0) rfl) rfl (QA _ hx1) QfT ZM (lb rfl) rfl (bc rfl (bc rfl (bc rfl (bc rfl bn))))) rfl rfl (VRunD.quiet (bi:= [3,2,1,4,0]) rfl VWant.always rfl rfl rfl bn (OC.callF (r':=(T.os 1 2 0 (((if x1∈Qb g then Qp g x1 x1.Length.toNat else []).map (Qd true)).length))) (objs:= [(Obj.rows 1 ((if x1∈Qb g then Qp g x1 x1.Length.toNat else []).map (Qd true)))]) rfl (vc (tv (T.agg (Qa false g)) rfl) (vc (tv (T.agg (Qi false x1)) rfl) vn)) (LendL.cons (lg Qt) (LendL.cons (lg okeSlot) ln)) (Qaj (n+2) g x1 (by assumption)) rfl) (fD (OF.assign (tv (T.os 1 2 0 (((if x1∈Qb g then Qp g x1 x1.Length.toNat else []).map (Qd true)).length)) rfl)) rfl rfl (VRunD.nil (tn (sr (fO (OF.assign (VEv.int .i64 0)) (nt (sq (sr (fO (OF.assign (VEv.int .i64 0)) ?_)))))))))))
 refine nt (VRun.block ?_)
 refine VRun.loop (A:=Nat×Nat) (fun s_=> [(2,(T.op 0 0)),(4,(tN 0)),(6,(T.os 1 1 0 (((if x1∈Qb g then Qp g x1 x1.Length.toNat else []).map (Qd true)).length))),(7,(tN s_.2)),(8,(tN s_.1))]) (fun s_=>Q3 [(0,(Obj.cells (Qa false g))),(1,(Obj.rows 1 ((if x1∈Qb g then Qp g x1 x1.Length.toNat else []).map (Qd true))))]) 2 (fun s_=>s_.1≤(if x1∈Qb g then Qp g x1 x1.Length.toNat else []).length∧s_.2=nUn g ((if x1∈Qb g then Qp g x1 x1.Length.toNat else []).take s_.1)) (fun s_=>(if x1∈Qb g then Qp g x1 x1.Length.toNat else []).length - s_.1) ((0,0):Nat×Nat) ?_ (Wk.mk (fun k=>if k=1 then 2 else k) ?_ ?_ ?_) ?_
 ·exact ⟨Nat.zero_le _,rfl⟩
 ·exact (b2 (b2 (b2 (b2 (b2 bn)))))
 ·exact (b3 (b3 bn))
 ·exact nd rfl
 rintro ⟨i,m⟩ (hI':i≤(if x1∈Qb g then Qp g x1 x1.Length.toNat else []).length∧m=nUn g ((if x1∈Qb g then Qp g x1 x1.Length.toNat else []).take i))
 show VRun _ _ _ [(2,(T.op 0 0)),(4,(tN 0)),(6,(T.os 1 1 0 (((if x1∈Qb g then Qp g x1 x1.Length.toNat else []).map (Qd true)).length))),(7,(tN m)),(8,(tN i))] (Q3 [(0,(Obj.cells (Qa false g))),(1,(Obj.rows 1 ((if x1∈Qb g then Qp g x1 x1.Length.toNat else []).map (Qd true))))]) 2 _
 have hI1:=hI'.1
 have hl6:=Qg2 g x1
 have hn6:=Qgg g ((if x1∈Qb g then Qp g x1 x1.Length.toNat else []).take i)
 have ht6:=Qcx (if x1∈Qb g then Qp g x1 x1.Length.toNat else []) i
 have hI2:=hI'.2
 refine sq (sr (mO (tN i) rfl (mO (T.os 1 1 0 (((if x1∈Qb g then Qp g x1 x1.Length.toNat else []).map (Qd true)).length)) rfl (lO (B.lenO (m:=(if x1∈Qb g then Qp g x1 x1.Length.toNat else []).length) (tv (T.os 1 1 0 (((if x1∈Qb g then Qp g x1 x1.Length.toNat else []).map (Qd true)).length)) rfl) YQ (List.length_map ..)) (fO (Zt (tv (tN i) rfl) (tv (tN ((if x1∈Qb g then Qp g x1 x1.Length.toNat else []).length)) rfl)) (nt ?_))))))
 refine cd (i<(if x1∈Qb g then Qp g x1 x1.Length.toNat else []).length) rfl (fun fhc1=> ?_) fun fhc1=> ?_
 ·refine sk ?_
  refine tn (sq (VRun.block (sq (VRun.draw (B:= [[],[],[],[2,1],[1,2,3],[3,2,1,4,0],[0,4,1,2,3,5]]) (by kernel_rfl) (by kernel_rfl) (lD (OL.loadOn (us:=(Qa false g)) (tv (T.op 0 0) rfl) rfl QY QR (lb rfl) rfl) rfl rfl (mD (T.os 1 1 0 (((if x1∈Qb g then Qp g x1 x1.Length.toNat else []).map (Qd true)).length)) rfl rfl (mD (tN i) rfl rfl ?_)))))))
  obtain ⟨x2,hx2⟩:∃x,(if x1∈Qb g then Qp g x1 x1.Length.toNat else [])[i]? =some x:=⟨_,List.getElem?_eq_getElem (by omega)⟩
  refine fD (B.indexAddrO (i:=i) (tv (T.os 1 1 0 (((if x1∈Qb g then Qp g x1 x1.Length.toNat else []).map (Qd true)).length)) rfl) (tv (tN i) rfl) rfl (by (simp only [List.length_map];omega)) YQ Z8 Jp) rfl rfl (lD (OL.loadP1 (t:=(tI x2)) (row:=(Qd true x2)) (tv (T.orp 1 1 i 0) rfl) rfl (QA _ hx2) rfl rfl Q0) rfl rfl (VRunD.quiet (bi:= [3,2,1,4,0]) rfl VWant.always rfl rfl rfl bn (cS (vc (tv (T.agg (Qa false g)) rfl) (vc (tv (tI x2) rfl) vn)) (LendL.cons (lg Qt) (lp rfl ln)) (Qcj (n+0) g x2 (by assumption)) rfl rfl) (fD (Q1 (tv (tB (decide (chk g x2))) rfl)) rfl rfl (VRunD.nil (tn ?_)))))
  refine cn (chk g x2) rfl (fun fhc2=> ?_) fun fhc2=> ?_
  ·refine VRun.region ?_
   refine mO (tN m) rfl (fO (QF (tv (tN m) rfl) (VEv.int .i64 1) (by omega)) (aO (tN (m+1)) rfl (VRunO.nil (vinB.n (tn (VRun.region (mO (tN i) rfl (fO (QF (tv (tN i) rfl) (VEv.int .i64 1) (by omega)) (aO (tN (i+1)) rfl (VRunO.nil (tn ?_)))))))))))
   refine ⟨((i+1,m+(if chk g x2 then 0 else 1)):Nat×Nat),?_,?_,Wk.mk (fun k=>k) ?_ ?_ ?_⟩
   ·exact ⟨by omega,by rw [QbG hx2,← hI2]⟩
   ·omega
   ·exact (b2 (b2 (b2 (bc ⟨(congrArg (T.int .i64) (show (((m+1):Nat):Int)=(((m+(if chk g x2 then 0 else 1)):Nat):Int) from (by (rw [if_neg fhc2];done)))),rfl⟩ (b2 bn)))))
   ·exact (b3 (b3 bn))
   ·exact nd rfl
  refine sk (vinB.n (tn (VRun.region (mO (tN i) rfl (fO (QF (tv (tN i) rfl) (VEv.int .i64 1) (by omega)) (aO (tN (i+1)) rfl (VRunO.nil (tn ?_))))))))
  refine ⟨((i+1,m+(if chk g x2 then 0 else 1)):Nat×Nat),?_,?_,Wk.mk (fun k=>k) ?_ ?_ ?_⟩
  ·exact ⟨by omega,by rw [QbG hx2,← hI2]⟩
  ·omega
  ·exact (b2 (b2 (b2 (bc ⟨(congrArg (T.int .i64) (show ((m:Nat):Int)=(((m+(if chk g x2 then 0 else 1)):Nat):Int) from (by (rw [if_pos fhc2];omega)))),rfl⟩ (b2 bn)))))
  ·exact (b3 (b3 bn))
  ·exact nd rfl
 refine VRun.exit (vthn.e (vthn.e (vinB.e (tn (sr (mO (tN m) rfl (aO (tN m) rfl (nt (rt (vi (n':=((m:Nat):Int)) rfl ?_))))))))))
 rw [Qil hs0 hx1,hI2,QfM hI1 fhc1,Qgh hx1]
theorem Qbb (n:Nat) (g:D.Grid) (slot:Int) (hc:g.Cells.size≤maxLen):Pure (Qr Tryz.prog (n+7)) 80 [(T.agg (Qa false g)),(tI slot)] (tI (unG g slot)):=by
 refine Pure.intro (rs:= [ResultVar.tmp 4]) Tryz.func80 rfl rfl rfl (E0:= [(0,(T.agg (Qa false g))),(1,(tI slot))]) rfl ?_
 obtain ⟨hlim,hmx,hmax⟩:=QJ
 have hsl:=ZE g
 have hll:=QbI g
 refine sr (kO (B.box (ts:=(Qa false g)) (tv (T.agg (Qa false g)) rfl) nofun rfl) (fO (OF.assign (VEv.int .i64 0)) (nt (sr (lO (OL.loadOn (us:=(Qa false g)) (tv (T.op 0 0) rfl) rfl QY QR (lb rfl) rfl) (cO (OC.callF (r':=(T.os 1 1 0 (((QP g).map ((YS 1 Qd) true)).length))) (objs:= [(Obj.rows 1 ((QP g).map ((YS 1 Qd) true)))]) rfl (vc (tv (T.agg (Qa false g)) rfl) vn) (LendL.cons (lg Qt) ln) (Jv (n+2) g (by assumption)) rfl) (aO (T.os 1 1 0 (((QP g).map ((YS 1 Qd) true)).length)) rfl (nt (sq (sr (mO (tI slot) rfl ?_)))))))))))
 refine mO (T.os 1 1 0 (((QP g).map ((YS 1 Qd) true)).length)) rfl (lO (B.lenO (m:=(QP g).length) (tv (T.os 1 1 0 (((QP g).map ((YS 1 Qd) true)).length)) rfl) Qe2 (List.length_map ..)) (cO (cS (vc (tv (tI slot) rfl) (vc (tv (tN ((QP g).length)) rfl) vn)) (Yl rfl) (YZ (n+5) slot (((QP g).length:Nat):Int)) rfl rfl) (fO (Q1 (tv (tB (decide (0≤slot∧slot<(((QP g).length:Nat):Int)))) rfl)) (nt ?_))))
 refine cn (0≤slot∧slot<(((QP g).length:Nat):Int)) rfl (fun fhc0=> ?_) fun fhc0=> ?_
 ·refine sr ?_
  refine fO (OF.assign (VEv.int .i64 (-1))) (nt (rt (tr (vi (n':=(-1)) rfl ?_))))
  exact (Qh7 (by omega)).symm
 refine sk (tn (sr (fO (OF.assign (VEv.int .i64 0)) (nt (sq (VRun.wk (Wk.freeze (sz:=1) (k:=1) (rows':=((QP g).map ((YS 1 Qd) false))) [5,10,12] (bc rfl (bc rfl (bc rfl bn))) rfl rfl ((QjS okInt).fzMap _ _)) ?_))))))
 have hs0:0≤slot:=by omega
 refine sr (mO (rd 1 (YS 1 Qd) (QP g)) rfl (mO (tI slot) rfl ?_))
 obtain ⟨x1,hx1⟩:∃x,(QP g)[(Int.toNat slot)]? =some x:=⟨_,List.getElem?_eq_getElem (by omega)⟩
 obtain ⟨y1,hy1,hq1⟩:=Qgc hx1
 refine fO (OF.indexAddrR (row:=((YS 1 Qd) false x1)) (i:=(Int.toNat slot)) (tv (rd 1 (YS 1 Qd) (QP g)) rfl) (tv (tI slot) rfl) (by omega) (QA _ hx1) Qe2 Qd8 Qge) (lO (OL.loadR1 (t:=(rd 1 Qd x1)) (tv (T.rp [(rd 1 Qd x1)]) rfl) rfl QbM) (lO (B.lenR (m:=x1.length) (tv (rd 1 Qd x1) rfl) YQ (List.length_map ..)) (fO (OF.move (VEv.int .i64 0)) (nt (VRun.block ?_)))))
 refine VRun.loop (A:=Nat×Nat) (fun s_=> [(2,(T.op 0 0)),(4,(tN 0)),(6,(tN s_.2)),(19,(rd 1 Qd x1)),(20,(tN x1.length)),(21,(tN s_.1))]) (fun s_=>Q3 [(0,(Obj.cells (Qa false g)))]) 1 (fun s_=>s_.1≤x1.length∧s_.2=nUn g (x1.take s_.1)) (fun s_=>x1.length - s_.1) ((0,0):Nat×Nat) ?_ (Wk.mk (fun k=>k) ?_ ?_ ?_) ?_
 ·exact ⟨Nat.zero_le _,rfl⟩
 ·exact (b2 (b2 (b2 (b2 (b2 (b2 bn))))))
 ·exact (b3 bn)
 ·exact nd rfl
 rintro ⟨i,m⟩ (hI':i≤x1.length∧m=nUn g (x1.take i))
 show VRun _ _ _ [(2,(T.op 0 0)),(4,(tN 0)),(6,(tN m)),(19,(rd 1 Qd x1)),(20,(tN x1.length)),(21,(tN i))] (Q3 [(0,(Obj.cells (Qa false g)))]) 1 _
 have hI1:=hI'.1
 have hl6:=QcZ hy1
 rw [← hq1] at hl6
 have hn6:=Qgg g (x1.take i)
 have ht6:=Qcx x1 i
 have hI2:=hI'.2
 refine sr (fO (Zt (tv (tN i) rfl) (tv (tN x1.length) rfl)) (nt (sq ?_)))
 refine cd (i<x1.length) rfl (fun fhc1=> ?_) fun fhc1=> ?_
 ·refine sk ?_
  refine tn (sq (VRun.block (sr ?_)))
  obtain ⟨x2,hx2⟩:∃x,x1[i]? =some x:=⟨_,List.getElem?_eq_getElem (by omega)⟩
  skip
  refine fO (OF.indexAddrR (row:=(Qd false x2)) (i:=i) (tv (rd 1 Qd x1) rfl) (tv (tN i) rfl) rfl (QA _ hx2) YQ Z8 Jp) (lO (OL.loadR1 (t:=(tI x2)) (tv (T.rp [(tI x2)]) rfl) rfl Q0) (aO (tI x2) rfl (nt (sr (lO (OL.loadOn (us:=(Qa false g)) (tv (T.op 0 0) rfl) rfl QY QR (lb rfl) rfl) (mO (tI x2) rfl (cO (cS (vc (tv (T.agg (Qa false g)) rfl) (vc (tv (tI x2) rfl) vn)) (LendL.cons (lg Qt) (lp rfl ln)) (Qcg (n+0) g x2 (by assumption)) rfl rfl) (fO (Q1 (tv (tB (decide (chk g x2))) rfl)) (nt ?_)))))))))
  refine cn (chk g x2) rfl (fun fhc2=> ?_) fun fhc2=> ?_
  ·refine VRun.region ?_
   refine mO (tN m) rfl (fO (QF (tv (tN m) rfl) (VEv.int .i64 1) (by omega)) (aO (tN (m+1)) rfl (VRunO.nil (vinB.n (tn (VRun.region (fO (QF (tv (tN i) rfl) (VEv.int .i64 1) (by omega)) (mO (tN (i+1)) rfl (VRunO.nil (tn ?_))))))))))
   refine ⟨((i+1,m+(if chk g x2 then 0 else 1)):Nat×Nat),?_,?_,Wk.mk (fun k=>k) ?_ ?_ ?_⟩
   ·exact ⟨by omega,by rw [QbG hx2,← hI2]⟩
   ·omega
   ·exact (b2 (b2 (bc ⟨(congrArg (T.int .i64) (show (((m+1):Nat):Int)=(((m+(if chk g x2 then 0 else 1)):Nat):Int) from (by (rw [if_neg fhc2];done)))),rfl⟩ (b2 (b2 (b2 bn))))))
   ·exact (b3 bn)
   ·exact nd rfl
  refine sk (vinB.n (tn (VRun.region (fO (QF (tv (tN i) rfl) (VEv.int .i64 1) (by omega)) (mO (tN (i+1)) rfl (VRunO.nil (tn ?_)))))))
  refine ⟨((i+1,m+(if chk g x2 then 0 else 1)):Nat×Nat),?_,?_,Wk.mk (fun k=>k) ?_ ?_ ?_⟩
  ·exact ⟨by omega,by rw [QbG hx2,← hI2]⟩
  ·omega
  ·exact (b2 (b2 (bc ⟨(congrArg (T.int .i64) (show ((m:Nat):Int)=(((m+(if chk g x2 then 0 else 1)):Nat):Int) from (by (rw [if_pos fhc2];omega)))),rfl⟩ (b2 (b2 (b2 bn))))))
  ·exact (b3 bn)
  ·exact nd rfl
 refine VRun.exit (vthn.e (vthn.e (vinB.e (tn (sr (mO (tN m) rfl (aO (tN m) rfl (nt (rt (vi (n':=((m:Nat):Int)) rfl ?_))))))))))
 rw [Qil hs0 hy1,hI2,QfM hI1 fhc1,hq1]
end Go.Proofs.YthifchndolccgaaGreatDoor.AE
namespace Go.Proofs.YthifchndolccgaaGreatDoor.AE
open Go Go.RowKit
set_option linter.unusedVariables false
set_option linter.unusedSimpArgs false
set_option maxRecDepth 20000
set_option maxHeartbeats 2000000
noncomputable section
def QcL (g:D.Grid) (i:Nat) (s:D.Slot):Prop:=s.Length<2*unG g ((i:Nat):Int)
def Qha (g:D.Grid) (c:Int):Prop:=∃s∈Qb g,inS g c s
def JJ (g:D.Grid) (c:Nat):Prop:=QB g.Cells c=46∧¬Qha g ((c:Nat):Int)
def Qaw (g:D.Grid):Prop:=(∃i s,(Qb g)[i]? =some s∧QcL g i s)∨∃c,c<g.Cells.size∧gridOk g∧JJ g c
instance (g:D.Grid):Decidable (Qaw g):=Classical.propDecidable _
theorem QgP (g:D.Grid) (c:Int):∀(l:List D.Slot) (n:Nat),(atL g c l n).length=0↔¬∃s∈l,inS g c s
 | [],n=>by simp [atL]
 | x::r,n=>by
  have:=QgP g c r (n+1)
  rw [atL,List.length_append]
  by_cases h:inS g c x
  ·rw [if_pos h];simp [h]
  ·rw [if_neg h,List.length_nil,Nat.zero_add,this];simp [h]
theorem atG_none {g:D.Grid} {c:Int}:(ZU g c (Qb g).length).length=0↔¬Qha g c:=by
 unfold ZU
 rw [List.take_length]
 exact QgP g c _ _
theorem QiR (g:D.Grid) (i:Int): -1≤unG g i∧unG g i≤6:=by
 unfold unG
 split
 ·split
  ·rename_i s hs
   have h1:=Qgg g (Qp g s s.Length.toNat)
   have h2:=QcZ hs
   omega
  ·omega
 ·omega
def NoBad (g:D.Grid) (i:Nat):Prop:=i≤(Qb g).length∧∀j s,j<i→(Qb g)[j]? =some s→¬QcL g j s
theorem NoBad.start (g:D.Grid):NoBad g 0:=⟨Nat.zero_le _,fun j s hj=>by omega⟩
theorem NoBad.next {g:D.Grid} {i:Nat} {s:D.Slot} (h:NoBad g i) (hx:(Qb g)[i]? =some s) (hn:¬QcL g i s):NoBad g (i+1):=by
 have:=(List.getElem?_eq_some_iff.1 hx).1
 refine ⟨by omega,fun j y hj hy=> ?_⟩
 rcases Nat.lt_or_ge j i with h1 | h1
 ·exact h.2 j y h1 hy
 ·obtain rfl:j=i:=by omega
  rw [hx] at hy
  exact Option.some.inj hy▸hn
theorem QiI {g:D.Grid} {i:Nat} (h:NoBad g i) (hi:¬i<(Qb g).length) (h2:∀c,c<g.Cells.size→¬(gridOk g∧JJ g c)):¬Qaw g:=by
 rintro (⟨j,s,h3,h4⟩ | ⟨c,h3,h4⟩)
 ·have:=(List.getElem?_eq_some_iff.1 h3).1
  exact h.2 j s (by omega) h3 h4
 ·exact h2 c h3 h4
def mapOf (m:List (Int×Int)) (p:Int→Prop):Prop:=∀c,(p c→Qap m c=1)∧(¬p c→Qap m c=0)
def QdQ (g:D.Grid) (i:Nat) (c:Int):Prop:=∃x∈(QP g).take i,c∈x
theorem Qho (g:D.Grid) (c:Int):¬QdQ g 0 c:=by rintro ⟨x,hx,_⟩;simp at hx
theorem Qht {g:D.Grid} {i:Nat} {x:List Int} (h:(QP g)[i]? =some x) (c:Int):QdQ g (i+1) c↔QdQ g i c∨c∈x:=by
 unfold QdQ
 rw [List.take_add_one,h]
 constructor
 ·rintro ⟨y,hy,hc⟩
  rcases List.mem_append.1 hy with hy | hy
  ·exact .inl ⟨y,hy,hc⟩
  ·obtain rfl:=List.mem_singleton.1 hy
   exact .inr hc
 ·rintro (⟨y,hy,hc⟩ | hc)
  ·exact ⟨y,List.mem_append_left _ hy,hc⟩
  ·exact ⟨x,List.mem_append_right _ (by simp),hc⟩
theorem QbH {g:D.Grid} {i:Nat} (h:¬i<(QP g).length) (c:Int):QdQ g i c↔Qha g c:=by
 unfold QdQ Qha
 rw [List.take_of_length_le (by omega)]
 unfold QP inS
 constructor
 ·rintro ⟨x,hx,hc⟩
  obtain ⟨s,hs,rfl⟩:=List.mem_map.1 hx
  exact ⟨s,hs,hc⟩
 ·rintro ⟨s,hs,hc⟩
  exact ⟨_,List.mem_map.2 ⟨s,hs,rfl⟩,hc⟩
theorem mapOf.congr {m:List (Int×Int)} {p q:Int→Prop} (h:mapOf m p) (e:∀c,p c↔q c):mapOf m q:=fun c=>by rw [← e c];exact h c
theorem mapOf.put {m:List (Int×Int)} {p:Int→Prop} {n:Int} (h:mapOf m p):mapOf (QaN m n 1) (fun c=>p c∨c=n):=fun c=>by
 rw [Qfo]
 by_cases e:c=n
 ·rw [if_pos e];exact ⟨fun _=>rfl,fun h2=>absurd (.inr e) h2⟩
 ·rw [if_neg e]
  exact ⟨fun h2=>(h c).1 (h2.resolve_right e),fun h2=>(h c).2 fun h3=>h2 (.inl h3)⟩
theorem QdZ {l:List Int} {i:Nat} {x:Int} (h:l[i]? =some x) (c:Int):c∈l.take (i+1)↔c∈l.take i∨c=x:=by
 rw [List.take_add_one,h]
 simp
def Qao (f:ByteArray) (c:Nat):Prop:=¬(97≤QB f c∧QB f c≤122)
def QeB (g:D.Grid) (f:ByteArray):Prop:=∃c,c<g.Cells.size∧JJ g c∧Qao f c
instance (g:D.Grid) (f:ByteArray):Decidable (QeB g f):=Classical.propDecidable _
end
theorem QcO (n:Nat) (g:D.Grid) (hc:g.Cells.size≤maxLen):Pure (Qr Tryz.prog (n+8)) 76 [(T.agg (Qa false g))] (tB (decide (Qaw g))):=by
 refine Pure.intro (rs:= [ResultVar.tmp 2]) Tryz.func76 rfl rfl rfl (E0:= [(0,(T.agg (Qa false g)))]) rfl ?_
 obtain ⟨hlim,hmx,hmax⟩:=QJ
 have hsl:=ZE g
 refine sr (kO (B.box (ts:=(Qa false g)) (tv (T.agg (Qa false g)) rfl) nofun rfl) (fO (OF.assign (VEv.bool false)) (nt (sr (lO (OL.loadOn (us:=(Qa false g)) (tv (T.op 0 0) rfl) rfl QY QR (lb rfl) rfl) (cO (OC.callF (r':=(T.os 4 1 0 (((Qb g).map (Qi true)).length))) (objs:= [(Obj.rows 4 ((Qb g).map (Qi true)))]) rfl (vc (tv (T.agg (Qa false g)) rfl) vn) (LendL.cons (lg Qt) ln) (ZI (n+4) g (by assumption)) rfl) (aO (T.os 4 1 0 (((Qb g).map (Qi true)).length)) rfl (nt (sq (sr (fO (OF.assign (VEv.int .i64 0)) ?_)))))))))))
 refine nt (VRun.block ?_)
 refine VRun.loop (A:=Nat) (fun s_=> [(1,(T.op 0 0)),(3,(T.os 4 1 0 (((Qb g).map (Qi true)).length))),(4,(tN s_))]) (fun s_=>Q3 [(0,(Obj.cells (Qa false g))),(1,(Obj.rows 4 ((Qb g).map (Qi true))))]) 2 (fun s_=>NoBad g s_) (fun s_=>(Qb g).length - s_) (0:Nat) ?_ (Wk.mk (fun k=>k) ?_ ?_ ?_) ?_
 ·exact NoBad.start _
 ·exact (b2 (b2 (b2 bn)))
 ·exact (b3 (b3 bn))
 ·exact nd rfl
 rintro i (hI':NoBad g i)
 show VRun _ _ _ [(1,(T.op 0 0)),(3,(T.os 4 1 0 (((Qb g).map (Qi true)).length))),(4,(tN i))] (Q3 [(0,(Obj.cells (Qa false g))),(1,(Obj.rows 4 ((Qb g).map (Qi true))))]) 2 _
 have hI1:=hI'.1
 have hNB:=hI'
 have hub:=QiR g ((i:Nat):Int)
 refine sq (sr (mO (tN i) rfl (mO (T.os 4 1 0 (((Qb g).map (Qi true)).length)) rfl (lO (B.lenO (m:=(Qb g).length) (tv (T.os 4 1 0 (((Qb g).map (Qi true)).length)) rfl) J8 (List.length_map ..)) (fO (Zt (tv (tN i) rfl) (tv (tN ((Qb g).length)) rfl)) (nt ?_))))))
 refine cd (i<(Qb g).length) rfl (fun fhc0=> ?_) fun fhc0=> ?_
 ·refine sk ?_
  refine tn (sq (VRun.block (sq (VRun.draw (B:= [[],[],[1,0],[0,1,2],[],[],[5,4],[4,5,6],[6,5,4,7],[7,4,5,6,8,2,1,0,3]]) (by kernel_rfl) (by kernel_rfl) (lD (OL.loadOn (us:=(Qa false g)) (tv (T.op 0 0) rfl) rfl QY QR (lb rfl) rfl) rfl rfl (mD (tN i) rfl rfl (VRunD.quiet (bi:= [1,0]) rfl VWant.always rfl rfl rfl bn (cS (vc (tv (T.agg (Qa false g)) rfl) (vc (tv (tN i) rfl) vn)) (LendL.cons (lg Qt) (lp rfl ln)) (Qa7 (n+0) g ((i:Nat):Int) (by assumption)) rfl rfl) (fD (B.mul (n:=(2*unG g ((i:Nat):Int))) (VEv.int .i64 2) (tv (tI (unG g ((i:Nat):Int))) rfl) (by (rw [Qy (by omega)];done))) rfl rfl (mD (T.os 4 1 0 (((Qb g).map (Qi true)).length)) rfl rfl (mD (tN i) rfl rfl ?_))))))))))
  obtain ⟨x1,hx1⟩:∃x,(Qb g)[i]? =some x:=⟨_,List.getElem?_eq_getElem (by omega)⟩
  refine fD (B.indexAddrO (i:=i) (tv (T.os 4 1 0 (((Qb g).map (Qi true)).length)) rfl) (tv (tN i) rfl) rfl (by (simp only [List.length_map];omega)) J8 ZM Qc8) rfl rfl (fD (OF.fieldAddrP (tv (T.orp 4 1 i 0) rfl) Qba) rfl rfl (lD (OL.loadP1 (t:=(tI x1.Length)) (row:=(Qi true x1)) (tv (T.orp 4 1 i 3) rfl) rfl (QA _ hx1) rfl rfl Q0) rfl rfl (fD (xgt (tv (tI (2*unG g ((i:Nat):Int))) rfl) (tv (tI x1.Length) rfl)) rfl rfl (VRunD.nil (tn ?_)))))
  refine cd (x1.Length<(2*unG g ((i:Nat):Int))) rfl (fun fhc1=> ?_) fun fhc1=> ?_
  ·have q1:QcL g i x1:=by unfold QcL;omega
   refine sr (fO (OF.assign (VEv.bool true)) (nt (rt (vinB.r (tr (tr (vinB.r (tr (vb (b':=true) rfl ?_)))))))))
   symm;rw [decide_eq_true_eq];exact .inl ⟨i,x1,hx1,q1⟩
  have q1:¬QcL g i x1:=by unfold QcL;omega
  refine sk (vinB.n (tn (VRun.region (mO (tN i) rfl (fO (QF (tv (tN i) rfl) (VEv.int .i64 1) (by omega)) (aO (tN (i+1)) rfl (VRunO.nil (tn ?_))))))))
  refine ⟨(i+1:Nat),?_,?_,Wk.mk (fun k=>k) ?_ ?_ ?_⟩
  ·exact hI'.next hx1 q1
  ·omega
  ·exact (b2 (b2 (b2 bn)))
  ·exact (b3 (b3 bn))
  ·exact nd rfl
 refine VRun.exit (vthn.e (vthn.e (vinB.e (tn (sq (sr (fO (OF.assign (VEv.int .i64 0)) (nt (VRun.block ?_)))))))))
 refine VRun.loop (A:=Nat) (fun s_=> [(1,(T.op 0 0)),(5,(tN s_))]) (fun s_=>Q3 [(0,(Obj.cells (Qa false g)))]) 1 (fun s_=>s_≤g.Cells.size∧∀c,c<s_→¬(gridOk g∧JJ g c)) (fun s_=>g.Cells.size - s_) (0:Nat) ?_ (Wk.mk (fun k=>k) ?_ ?_ ?_) ?_
 ·exact ⟨Nat.zero_le _,fun c hc=>by omega⟩
 ·exact (b2 (b2 bn))
 ·exact (b3 bn)
 ·exact nd rfl
 rintro k (hI':k≤g.Cells.size∧∀c,c<k→¬(gridOk g∧JJ g c))
 show VRun _ _ _ [(1,(T.op 0 0)),(5,(tN k))] (Q3 [(0,(Obj.cells (Qa false g)))]) 1 _
 have hJ1:=hI'.1
 refine sq (sr (mO (tN k) rfl (lf (tS g.Cells) rfl QD rfl rfl Z3 (lO (B.lenS (tv (tS g.Cells) rfl) U9) (fO (Zt (tv (tN k) rfl) (tv (tN g.Cells.size) rfl)) (nt ?_))))))
 refine cd (k<g.Cells.size) rfl (fun fhc2=> ?_) fun fhc2=> ?_
 ·refine sk ?_
  refine tn (sq (VRun.block (sr (lO (OL.loadOn (us:=(Qa false g)) (tv (T.op 0 0) rfl) rfl QY QR (lb rfl) rfl) (mO (tN k) rfl (cO (cS (vc (tv (T.agg (Qa false g)) rfl) (vc (tv (tN k) rfl) vn)) (LendL.cons (lg Qt) (lp rfl ln)) (QdE (n+4) g ((k:Nat):Int) (by assumption)) rfl rfl) (mO (tB (decide (gridOk g∧(0≤((k:Nat):Int)∧((k:Nat):Int)≤((g.Cells.size:Nat):Int) - 1)∧QB g.Cells (Int.toNat ((k:Nat):Int))=46))) rfl ?_)))))))
  refine gw (gridOk g∧(0≤((k:Nat):Int)∧((k:Nat):Int)≤((g.Cells.size:Nat):Int) - 1)∧QB g.Cells (Int.toNat ((k:Nat):Int))=46) (fun fhg34_1=> ?_) fun fhg34_1=> ?_
  ·refine gL (dy fhg34_1) rfl rfl (OL.loadOn (us:=(Qa false g)) (tv (T.op 0 0) rfl) rfl QY QR (lb rfl) rfl) ?_
   refine gF (dy fhg34_1) rfl rfl (OF.move (tv (tN k) rfl)) (VRunO.chain (VWant.on rfl rfl (dy fhg34_1)) (OC.callF (r':=(T.os 1 1 0 (((ZU g ((k:Nat):Int) (Qb g).length).map (Qd true)).length))) (objs:= [(Obj.rows 1 ((ZU g ((k:Nat):Int) (Qb g).length).map (Qd true)))]) rfl (vc (tv (T.agg (Qa false g)) rfl) (vc (tv (tN k) rfl) vn)) (LendL.cons (lg Qt) (lp rfl ln)) (Qau (n+2) g ((k:Nat):Int) (by assumption)) rfl) (gL (dy fhg34_1) rfl rfl (B.lenO (m:=(ZU g ((k:Nat):Int) (Qb g).length).length) (tv (T.os 1 1 0 (((ZU g ((k:Nat):Int) (Qb g).length).map (Qd true)).length)) rfl) YQ (List.length_map ..)) (gF (dy fhg34_1) rfl rfl (B.eql (c:=(decide ((ZU g ((k:Nat):Int) (Qb g).length).length=0))) (tv (tN ((ZU g ((k:Nat):Int) (Qb g).length).length)) rfl) (VEv.int .i64 0) (Q8 (by omega))) (fO (OF.pickT (VEv.tmpB rfl (dy fhg34_1)) (tv (tB (decide ((ZU g ((k:Nat):Int) (Qb g).length).length=0))) rfl)) (nt ?_)))))
   refine cd ((ZU g ((k:Nat):Int) (Qb g).length).length=0) rfl (fun fhc3=> ?_) fun fhc3=> ?_
   ·refine sr ?_
    refine fO (OF.assign (VEv.bool true)) (nt (rt (vinB.r (tr (tr (vinB.r (tr (vb (b':=true) rfl ?_))))))))
    symm;rw [decide_eq_true_eq];exact .inr ⟨k,fhc2,fhg34_1.1,fhg34_1.2.2,atG_none.1 fhc3⟩
   refine sk (vinB.n (tn (VRun.region (mO (tN k) rfl (fO (QF (tv (tN k) rfl) (VEv.int .i64 1) (by omega)) (aO (tN (k+1)) rfl (VRunO.nil (tn ?_))))))))
   refine ⟨(k+1:Nat),?_,?_,Wk.mk (fun k=>k) ?_ ?_ ?_⟩
   ·exact QX (ok:=fun c=>¬(gridOk g∧JJ g c)) hI' fhc2 (fun h=>fhc3 (atG_none.2 h.2.2))
   ·omega
   ·exact (b2 (b2 bn))
   ·exact (b3 bn)
   ·exact nd rfl
  refine QC 5 3 true 34 (dz fhg34_1) rfl rfl rfl (fO (OF.pickF (VEv.tmpB rfl (dz fhg34_1)) (VEv.bool false)) (nt (cf rfl (sk (vinB.n (tn (VRun.region (mO (tN k) rfl (fO (QF (tv (tN k) rfl) (VEv.int .i64 1) (by omega)) (aO (tN (k+1)) rfl (VRunO.nil ?_)))))))))))
  refine tn ?_
  refine ⟨(k+1:Nat),?_,?_,Wk.mk (fun k=>k) ?_ ?_ ?_⟩
  ·exact QX (ok:=fun c=>¬(gridOk g∧JJ g c)) hI' fhc2 (fun h=>fhg34_1 ⟨h.1,⟨by omega,by omega⟩,h.2.1⟩)
  ·omega
  ·exact (b2 (b2 bn))
  ·exact (b3 bn)
  ·exact nd rfl
 refine VRun.exit (vthn.e (vthn.e (vinB.e (tn (sr (fO (OF.assign (VEv.bool false)) (nt (rt (vb (b':=false) rfl ?_)))))))))
 symm;rw [decide_eq_false_iff_not];exact QiI hNB fhc0 (JS (ok:=fun c=>¬(gridOk g∧JJ g c)) hI' fhc2)
theorem Qe0 (n:Nat) (g:D.Grid) (f:ByteArray) (hc:g.Cells.size≤maxLen) (hf:g.Cells.size≤f.size):Pure (Qr Tryz.prog (n+5)) 81 [(T.agg (Qa false g)),(tS f)] (tB (decide (QeB g f))):=by
 refine Pure.intro (rs:= [ResultVar.tmp 4]) Tryz.func81 rfl rfl rfl (E0:= [(0,(T.agg (Qa false g))),(1,(tS f))]) rfl ?_
 obtain ⟨hlim,hmx,hmax⟩:=QJ
 have hsl:=ZE g
 have hll:=QbI g
 refine sr (kO (B.box (ts:=(Qa false g)) (tv (T.agg (Qa false g)) rfl) nofun rfl) (fO (OF.assign (VEv.bool false)) (nt (sr (kO B.makeMap (aO (T.om 1) rfl (nt (sq (sr (lO (OL.loadOn (us:=(Qa false g)) (tv (T.op 0 0) rfl) rfl QY QR (lb rfl) rfl) (cO (OC.callF (r':=(T.os 1 2 0 (((QP g).map ((YS 1 Qd) true)).length))) (objs:= [(Obj.rows 1 ((QP g).map ((YS 1 Qd) true)))]) rfl (vc (tv (T.agg (Qa false g)) rfl) vn) (LendL.cons (lg Qt) ln) (Jv (n+0) g (by assumption)) rfl) ?_)))))))))))
 refine lO (B.lenO (m:=(QP g).length) (tv (T.os 1 2 0 (((QP g).map ((YS 1 Qd) true)).length)) rfl) Qe2 (List.length_map ..)) (fO (OF.move (VEv.int .i64 0)) (nt (VRun.block (VRun.wk (Wk.freeze (sz:=1) (k:=2) (rows':=((QP g).map ((YS 1 Qd) false))) [13] (bc rfl bn) rfl rfl ((QjS okInt).fzMap _ _)) ?_))))
 have he1:([]:List (Int×Int))= []:=by rfl
 refine VRun.loop (A:=Nat×(List (Int×Int))) (fun s_=> [(1,(tS f)),(2,(T.op 0 0)),(4,(tB false)),(5,(T.om 1)),(13,(rd 1 (YS 1 Qd) (QP g))),(14,(tN ((QP g).length))),(15,(tN s_.1))]) (fun s_=>Q3 [(0,(Obj.cells (Qa false g))),(1,(Obj.map (eM s_.2)))]) 2 (fun s_=>s_.1≤(QP g).length∧mapOf s_.2 (QdQ g s_.1)) (fun s_=>(QP g).length - s_.1) ((0,[]):Nat×(List (Int×Int))) ?_ (Wk.mk (fun k=>k) ?_ ?_ ?_) ?_
 ·exact ⟨Nat.zero_le _,fun c=>⟨fun h=>absurd h (Qho g c),fun _=>rfl⟩⟩
 ·exact (b2 (b2 (b2 (b2 (b2 (b2 (b2 bn)))))))
 ·exact (b3 (bc ⟨(congrArg (fun l_=>some (Obj.map (eM l_))) he1),(lb rfl),rfl⟩ bn))
 ·exact nd rfl
 rintro ⟨i,m⟩ (hI':i≤(QP g).length∧mapOf m (QdQ g i))
 show VRun _ _ _ [(1,(tS f)),(2,(T.op 0 0)),(4,(tB false)),(5,(T.om 1)),(13,(rd 1 (YS 1 Qd) (QP g))),(14,(tN ((QP g).length))),(15,(tN i))] (Q3 [(0,(Obj.cells (Qa false g))),(1,(Obj.map (eM m)))]) 2 _
 have hI1:=hI'.1
 have hM:=hI'.2
 refine sr (fO (Zt (tv (tN i) rfl) (tv (tN ((QP g).length)) rfl)) (nt (sq ?_)))
 refine cd (i<(QP g).length) rfl (fun fhc0=> ?_) fun fhc0=> ?_
 ·refine sk ?_
  refine tn (sq (VRun.block (sr ?_)))
  obtain ⟨x1,hx1⟩:∃x,(QP g)[i]? =some x:=⟨_,List.getElem?_eq_getElem (by omega)⟩
  obtain ⟨y1,hy1,hq1⟩:=Qgc hx1
  refine fO (OF.indexAddrR (row:=((YS 1 Qd) false x1)) (i:=i) (tv (rd 1 (YS 1 Qd) (QP g)) rfl) (tv (tN i) rfl) rfl (QA _ hx1) Qe2 Qd8 Qge) (lO (OL.loadR1 (t:=(rd 1 Qd x1)) (tv (T.rp [(rd 1 Qd x1)]) rfl) rfl QbM) (aO (rd 1 Qd x1) rfl (nt (sr (mO (rd 1 Qd x1) rfl (lO (B.lenR (m:=x1.length) (tv (rd 1 Qd x1) rfl) YQ (List.length_map ..)) (fO (OF.move (VEv.int .i64 0)) (nt (VRun.block ?_)))))))))
  refine VRun.loop (A:=Nat×(List (Int×Int))) (fun s_=> [(1,(tS f)),(2,(T.op 0 0)),(4,(tB false)),(5,(T.om 1)),(13,(rd 1 (YS 1 Qd) (QP g))),(14,(tN ((QP g).length))),(15,(tN i)),(19,(rd 1 Qd x1)),(20,(tN x1.length)),(21,(tN s_.1))]) (fun s_=>Q3 [(0,(Obj.cells (Qa false g))),(1,(Obj.map (eM s_.2)))]) 2 (fun s_=>s_.1≤x1.length∧mapOf s_.2 (fun c=>QdQ g i c∨c∈x1.take s_.1)) (fun s_=>x1.length - s_.1) ((0,m):Nat×(List (Int×Int))) ?_ (Wk.mk (fun k=>k) ?_ ?_ ?_) ?_
  ·exact ⟨Nat.zero_le _,hM.congr fun c=>by simp⟩
  ·exact (b2 (b2 (b2 (b2 (b2 (b2 (b2 (b2 (b2 (b2 bn))))))))))
  ·exact (b3 (b3 bn))
  ·exact nd rfl
  rintro ⟨k,w⟩ (hI':k≤x1.length∧mapOf w (fun c=>QdQ g i c∨c∈x1.take k))
  show VRun _ _ _ [(1,(tS f)),(2,(T.op 0 0)),(4,(tB false)),(5,(T.om 1)),(13,(rd 1 (YS 1 Qd) (QP g))),(14,(tN ((QP g).length))),(15,(tN i)),(19,(rd 1 Qd x1)),(20,(tN x1.length)),(21,(tN k))] (Q3 [(0,(Obj.cells (Qa false g))),(1,(Obj.map (eM w)))]) 2 _
  have hJ1:=hI'.1
  have hl6:=QcZ hy1
  rw [← hq1] at hl6
  refine sr (fO (Zt (tv (tN k) rfl) (tv (tN x1.length) rfl)) (nt (sq ?_)))
  refine cd (k<x1.length) rfl (fun fhc1=> ?_) fun fhc1=> ?_
  ·refine sk ?_
   refine tn (sq (VRun.block (sr ?_)))
   obtain ⟨x2,hx2⟩:∃x,x1[k]? =some x:=⟨_,List.getElem?_eq_getElem (by omega)⟩
   skip
   refine fO (OF.indexAddrR (row:=(Qd false x2)) (i:=k) (tv (rd 1 Qd x1) rfl) (tv (tN k) rfl) rfl (QA _ hx2) YQ Z8 Jp) (lO (OL.loadR1 (t:=(tI x2)) (tv (T.rp [(tI x2)]) rfl) rfl Q0) (aO (tI x2) rfl (nt (VRun.region (mO (T.om 1) rfl (mO (tI x2) rfl (cO (B.mapSet (l:=w) (l':=(QaN w x2 1)) (tv (T.om 1) rfl) (tv (tI x2) rfl) (VEv.int .i64 1) rfl Qlr U3 rfl) (VRunO.nil (vinB.n (tn (VRun.region ?_)))))))))))
   refine fO (QF (tv (tN k) rfl) (VEv.int .i64 1) (by omega)) (mO (tN (k+1)) rfl (VRunO.nil (tn ?_)))
   refine ⟨((k+1,QaN w x2 1):Nat×(List (Int×Int))),?_,?_,Wk.mk (fun k=>k) ?_ ?_ ?_⟩
   ·exact ⟨by omega,hI'.2.put.congr fun c=>by rw [QdZ hx2,or_assoc]⟩
   ·omega
   ·exact (b2 (b2 (b2 (b2 (b2 (b2 (b2 (b2 (b2 (b2 bn))))))))))
   ·exact (b3 (b3 bn))
   ·exact nd rfl
  refine VRun.exit (vthn.e (vthn.e (vinB.e (vinB.n (tn (VRun.region (fO (QF (tv (tN i) rfl) (VEv.int .i64 1) (by omega)) (mO (tN (i+1)) rfl (VRunO.nil (tn ?_))))))))))
  refine ⟨((i+1,w):Nat×(List (Int×Int))),?_,?_,Wk.mk (fun k=>k) ?_ ?_ ?_⟩
  ·exact ⟨by omega,hI'.2.congr fun c=>by rw [Qht hx1,List.take_of_length_le (by omega)]⟩
  ·omega
  ·exact (b2 (b2 (b2 (b2 (b2 (b2 (b2 bn)))))))
  ·exact (b3 (b3 bn))
  ·exact nd rfl
 refine VRun.exit (vthn.e (vthn.e (vinB.e (tn (sq (sr (lf (tS g.Cells) rfl QD rfl rfl Z3 (lO (B.lenS (tv (tS g.Cells) rfl) U9) (fO (OF.move (VEv.int .i64 0)) (nt (VRun.block ?_)))))))))))
 refine VRun.loop (A:=Nat) (fun s_=> [(1,(tS f)),(2,(T.op 0 0)),(5,(T.om 1)),(31,(tN g.Cells.size)),(32,(tN s_))]) (fun s_=>Q3 [(0,(Obj.cells (Qa false g))),(1,(Obj.map (eM m)))]) 2 (fun s_=>s_≤g.Cells.size∧∀j,j<s_→¬(JJ g j∧Qao f j)) (fun s_=>g.Cells.size - s_) (0:Nat) ?_ (Wk.mk (fun k=>k) ?_ ?_ ?_) ?_
 ·exact ⟨Nat.zero_le _,fun c hc=>by omega⟩
 ·exact (b2 (b2 (b2 (b2 (b2 bn)))))
 ·exact (b3 (b3 bn))
 ·exact nd rfl
 rintro c (hI':c≤g.Cells.size∧∀j,j<c→¬(JJ g j∧Qao f j))
 show VRun _ _ _ [(1,(tS f)),(2,(T.op 0 0)),(5,(T.om 1)),(31,(tN g.Cells.size)),(32,(tN c))] (Q3 [(0,(Obj.cells (Qa false g))),(1,(Obj.map (eM m)))]) 2 _
 have hJ1:=hI'.1
 refine sr (fO (Zt (tv (tN c) rfl) (tv (tN g.Cells.size) rfl)) (nt (sq ?_)))
 refine cd (c<g.Cells.size) rfl (fun fhc2=> ?_) fun fhc2=> ?_
 ·refine sk ?_
  refine tn (sq (VRun.block (sr (mO (tN c) rfl (aO (tN c) rfl (nt (sr (lf (tS g.Cells) rfl QD rfl rfl Z3 (mO (tN c) rfl ?_)))))))))
  have hb2:c<g.Cells.size:=(by omega)
  refine fO (xix (tv (tS g.Cells) rfl) (tv (tN c) rfl) hb2 U9) (fO (YR (tv (T.int .u8 (QB g.Cells c)) rfl) (VEv.int .u8 46)) (mO (tB (decide (QB g.Cells c=46))) rfl ?_))
  refine gw (QB g.Cells c=46) (fun fhg40_3=> ?_) fun fhg40_3=> ?_
  ·refine gF (dy fhg40_3) rfl rfl (OF.move (tv (T.om 1) rfl)) ?_
   refine gF (dy fhg40_3) rfl rfl (OF.move (tv (tN c) rfl)) (gL (dy fhg40_3) rfl rfl (B.mapGet (l:=m) (n:=((c:Nat):Int)) (tv (T.om 1) rfl) (tv (tN c) rfl) rfl Qlr U3 zo3) (gF (dy fhg40_3) rfl rfl (YR (tv (tI (Qap m ((c:Nat):Int))) rfl) (VEv.int .i64 0)) (fO (OF.pickT (VEv.tmpB rfl (dy fhg40_3)) (tv (tB (decide (Qap m ((c:Nat):Int)=0))) rfl)) (mO (tB (decide (Qap m ((c:Nat):Int)=0))) rfl ?_))))
   refine gw (Qap m ((c:Nat):Int)=0) (fun fhg46_4=> ?_) fun fhg46_4=> ?_
   ·refine gF (dy fhg46_4) rfl rfl (OF.move (tv (tS f) rfl)) ?_
    refine gF (dy fhg46_4) rfl rfl (OF.move (tv (tN c) rfl)) ?_
    have hb5:c<f.size:=(by omega)
    refine gF (dy fhg46_4) rfl rfl (xix (tv (tS f) rfl) (tv (tN c) rfl) hb5 U9) (VRunO.chain (VWant.on rfl rfl (dy fhg46_4)) (cS (vc (tv (T.int .u8 (QB f c)) rfl) vn) (Yl rfl) (J5 (n+3) (QB f c)) rfl rfl) (gF (dy fhg46_4) rfl rfl (Q1 (tv (tB (decide (97≤(QB f c)∧(QB f c)≤122))) rfl)) (fO (OF.pickT (VEv.tmpB rfl (dy fhg46_4)) (tv (tB (!(decide (97≤(QB f c)∧(QB f c)≤122)))) rfl)) (nt ?_))))
    refine cn (97≤(QB f c)∧(QB f c)≤122) rfl (fun fhc3=> ?_) fun fhc3=> ?_
    ·refine sr ?_
     refine fO (OF.assign (VEv.bool true)) (nt (rt (vinB.r (tr (tr (vinB.r (tr (vb (b':=true) rfl ?_))))))))
     symm;rw [decide_eq_true_eq];refine ⟨c,fhc2,⟨?_,fun h=> ?_⟩,?_⟩
     ·omega
     ·have hq:=(hM ((c:Nat):Int)).1 ((QbH fhc0 _).2 h);omega
     ·unfold Qao;omega
    refine sk (vinB.n (tn (VRun.region (fO (QF (tv (tN c) rfl) (VEv.int .i64 1) (by omega)) (mO (tN (c+1)) rfl (VRunO.nil (tn ?_)))))))
    refine ⟨(c+1:Nat),?_,?_,Wk.mk (fun k=>k) ?_ ?_ ?_⟩
    ·refine QX (ok:=fun j=>¬(JJ g j∧Qao f j)) hI' fhc2 ?_
     rintro ⟨⟨a1,a2⟩,a3⟩
     have hq:=(hM ((c:Nat):Int)).2 (fun h=>a2 ((QbH fhc0 _).1 h))
     unfold Qao at a3;omega
    ·omega
    ·exact (b2 (b2 (b2 (b2 (b2 bn)))))
    ·exact (b3 (b3 bn))
    ·exact nd rfl
   refine QC 5 11 true 46 (dz fhg46_4) rfl rfl rfl (fO (OF.pickF (VEv.tmpB rfl (dz fhg46_4)) (VEv.bool false)) (nt (cf rfl (sk (vinB.n (tn (VRun.region (fO (QF (tv (tN c) rfl) (VEv.int .i64 1) (by omega)) (mO (tN (c+1)) rfl (VRunO.nil (tn ?_)))))))))))
   refine ⟨(c+1:Nat),?_,?_,Wk.mk (fun k=>k) ?_ ?_ ?_⟩
   ·refine QX (ok:=fun j=>¬(JJ g j∧Qao f j)) hI' fhc2 ?_
    rintro ⟨⟨a1,a2⟩,a3⟩
    have hq:=(hM ((c:Nat):Int)).2 (fun h=>a2 ((QbH fhc0 _).1 h))
    unfold Qao at a3;omega
   ·omega
   ·exact (b2 (b2 (b2 (b2 (b2 bn)))))
   ·exact (b3 (b3 bn))
   ·exact nd rfl
  refine QC 4 5 true 40 (dz fhg40_3) rfl rfl rfl (fO (OF.pickF (VEv.tmpB rfl (dz fhg40_3)) (VEv.bool false)) (mO (tB false) rfl (QC 5 11 true 46 (b:=false) rfl rfl rfl rfl (fO (OF.pickF (tv (tB false) rfl) (VEv.bool false)) (nt (cf rfl (sk (vinB.n (tn (VRun.region (fO (QF (tv (tN c) rfl) (VEv.int .i64 1) (by omega)) ?_)))))))))))
  refine mO (tN (c+1)) rfl (VRunO.nil (tn ?_))
  refine ⟨(c+1:Nat),?_,?_,Wk.mk (fun k=>k) ?_ ?_ ?_⟩
  ·refine QX (ok:=fun j=>¬(JJ g j∧Qao f j)) hI' fhc2 ?_
   rintro ⟨⟨a1,a2⟩,a3⟩
   have hq:=(hM ((c:Nat):Int)).2 (fun h=>a2 ((QbH fhc0 _).1 h))
   unfold Qao at a3;omega
  ·omega
  ·exact (b2 (b2 (b2 (b2 (b2 bn)))))
  ·exact (b3 (b3 bn))
  ·exact nd rfl
 refine VRun.exit (vthn.e (vthn.e (vinB.e (tn (sr (fO (OF.assign (VEv.bool false)) (nt (rt (vb (b':=false) rfl ?_)))))))))
 symm;rw [decide_eq_false_iff_not];rintro ⟨c,h1,h2,h3⟩;exact hI'.2 c (by omega) ⟨h2,h3⟩
end Go.Proofs.YthifchndolccgaaGreatDoor.AE
