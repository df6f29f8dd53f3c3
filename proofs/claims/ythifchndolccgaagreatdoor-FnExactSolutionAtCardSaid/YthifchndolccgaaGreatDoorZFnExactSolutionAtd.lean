/- A part of what the row of FnExactSolutionAt uses. Conditions: as each theorem states. -/
import Derived.Test.YthifchndolccgaaGreatDoorZFnExactSolutionAtc
namespace Go.Proofs.YthifchndolccgaaGreatDoor.AE
open Go Go.RowKit
set_option linter.unusedVariables false
set_option linter.unusedSimpArgs false
set_option maxRecDepth 20000
set_option maxHeartbeats 2000000
noncomputable section
def Zm (c f:Int):Prop:=(c=35→f=35)∧(c=46→f=63∨(97≤f∧f≤122))
def QS (g:D.Grid) (f:ByteArray):Prop:=gridOk g∧f.size=g.Cells.size∧∀j,j<f.size→Zm (Qr g.Cells j) (Qr f j)
instance (g:D.Grid) (f:ByteArray):Decidable (QS g f):=Classical.propDecidable _
theorem Qjp (p q:Prop) [Decidable p] [Decidable q]:(!(decide p == decide q))=decide (¬(p↔q)):=by
 by_cases hp:p<;>by_cases hq:q<;>simp [hp,hq]
end
theorem JF (n:Nat) (g:D.Grid) (f:ByteArray) (hc:g.Cells.size≤maxLen) (hf:f.size≤maxLen):Pure (Qo Tryz.prog (n+3)) 119 [(T.agg (Qb false g)),(tS f)] (tB (decide (QS g f))):=by
 refine Pure.intro (rs:= [ResultVar.tmp 4]) Tryz.func119 rfl rfl rfl (E0:= [(0,(T.agg (Qb false g))),(1,(tS f))]) rfl ?_
 obtain ⟨hlim,hmx,hmax⟩:=QF
 refine sr (kO (B.box (ts:=(Qb false g)) (tv (T.agg (Qb false g)) rfl) nofun rfl) (fO (OF.assign (VEv.bool false)) (nt (sq (sr (lO (OL.loadOn (us:=(Qb false g)) (tv (T.op 0 0) rfl) rfl QP QN (lb rfl) rfl) (cO (cS (vc (tv (T.agg (Qb false g)) rfl) vn) (LendL.cons (lg Qq) ln) (Zt (n+0) g (by assumption)) rfl rfl) (fO (QY (tv (tB (decide (gridOk g))) rfl)) (mO (tB (!(decide (gridOk g)))) rfl ?_)))))))))
 refine gn (gridOk g) (fun fhg10_1=> ?_) fun fhg10_1=> ?_
 ·refine Qx 6 3 false 10 (ny fhg10_1) rfl rfl rfl ?_
  refine fO (OF.pickT (VEv.tmpB rfl (ny fhg10_1)) (VEv.bool true)) (nt (ct rfl (sr (fO (OF.assign (VEv.bool false)) (nt (rt (tr (vb (b':=false) rfl ?_))))))))
  (symm;rw [decide_eq_false_iff_not];rintro ⟨g1,g2,g3⟩;contradiction)
 refine gF (nz fhg10_1) rfl rfl (OF.move (tv (tS f) rfl)) (gL (nz fhg10_1) rfl rfl (B.lenS (tv (tS f) rfl) U9) (ZV (tS g.Cells) (nz fhg10_1) rfl rfl rfl rfl Qy rfl rfl ZN (gL (nz fhg10_1) rfl rfl (B.lenS (tv (tS g.Cells) rfl) U9) (gF (nz fhg10_1) rfl rfl (Qju (tv (tN f.size) rfl) (tv (tN g.Cells.size) rfl)) (fO (OF.pickF (VEv.tmpB rfl (nz fhg10_1)) (tv (tB (!(decide (f.size=g.Cells.size)))) rfl)) (nt ?_))))))
 refine cn (f.size=g.Cells.size) rfl (fun fhc0=> ?_) fun fhc0=> ?_
 ·refine sr ?_
  refine fO (OF.assign (VEv.bool false)) (nt (rt (tr (vb (b':=false) rfl ?_))))
  (symm;rw [decide_eq_false_iff_not];rintro ⟨g1,g2,g3⟩;contradiction)
 refine sk (tn (sq (sr (fO (OF.assign (VEv.int .i64 0)) (nt (VRun.block ?_))))))
 refine VRun.loop (A:=Nat) (fun s_=> [(1,(tS f)),(2,(T.op 0 0)),(5,(tN s_))]) (fun s_=>Q0 [(0,(Obj.cells (Qb false g)))]) 1 (fun s_=>s_≤f.size∧∀j,j<s_→Zm (Qr g.Cells j) (Qr f j)) (fun s_=>f.size - s_) (0:Nat) ?_ (Wk.mk (fun k=>k) ?_ ?_ ?_) ?_
 ·exact ⟨Nat.zero_le _,fun j hj=>by omega⟩
 ·exact (b2 (b2 (b2 bn)))
 ·exact (b3 bn)
 ·exact nd rfl
 rintro i (hI':i≤f.size∧∀j,j<i→Zm (Qr g.Cells j) (Qr f j))
 show VRun _ _ _ [(1,(tS f)),(2,(T.op 0 0)),(5,(tN i))] (Q0 [(0,(Obj.cells (Qb false g)))]) 1 _
 have hI1:=hI'.1
 have hgo:gridOk g:=by assumption
 refine sq (sr (mO (tN i) rfl (mO (tS f) rfl (lO (B.lenS (tv (tS f) rfl) U9) (fO (Ze (tv (tN i) rfl) (tv (tN f.size) rfl)) (nt ?_))))))
 refine cd (i<f.size) rfl (fun fhc1=> ?_) fun fhc1=> ?_
 ·have hgi:=hgo.2.2.2 i (by omega)
  unfold gOk at hgi
  refine sk (tn (sq (VRun.block (sr (mO (tS f) rfl (mO (tN i) rfl ?_))))))
  have hb2:i<f.size:=(by omega)
  refine fO (Js (tv (tS f) rfl) (tv (tN i) rfl) hb2 U9) (fO (YF (tv (T.int .u8 (Qr f i)) rfl) (VEv.int .u8 63)) (mO (tB (decide (Qr f i=63))) rfl ?_))
  refine gw (Qr f i=63) (fun fhg28_3=> ?_) fun fhg28_3=> ?_
  ·refine Qx 5 4 false 28 (dy fhg28_3) rfl rfl rfl ?_
   refine JK 4 9 true 33 rfl rfl rfl (oO rfl rfl (dy fhg28_3) (fO (OF.pickT (VEv.tmpB rfl (dy fhg28_3)) (VEv.bool true)) (aO (tB true) rfl (nt (sr (lf (tS g.Cells) rfl Qy rfl rfl ZN (mO (tN i) rfl ?_)))))))
   have hb4:i<g.Cells.size:=(by omega)
   refine fO (Js (tv (tS g.Cells) rfl) (tv (tN i) rfl) hb4 U9) (fO (YF (tv (T.int .u8 (Qr g.Cells i)) rfl) (VEv.int .u8 35)) (mO (tB (decide (Qr g.Cells i=35))) rfl ?_))
   refine gw (Qr g.Cells i=35) (fun fhg45_5=> ?_) fun fhg45_5=> ?_
   ·refine gF (dy fhg45_5) rfl rfl (OF.move (tv (tS f) rfl)) ?_
    refine gF (dy fhg45_5) rfl rfl (OF.move (tv (tN i) rfl)) ?_
    have hb6:i<f.size:=(by omega)
    refine gF (dy fhg45_5) rfl rfl (Js (tv (tS f) rfl) (tv (tN i) rfl) hb6 U9) (gF (dy fhg45_5) rfl rfl (xne (tv (T.int .u8 (Qr f i)) rfl) (VEv.int .u8 35)) (fO (OF.pickT (VEv.tmpB rfl (dy fhg45_5)) (tv (tB (!(decide (Qr f i=35)))) rfl)) (mO (tB (!(decide (Qr f i=35)))) rfl ?_)))
    refine gn (Qr f i=35) (fun fhg51_7=> ?_) fun fhg51_7=> ?_
    ·refine Qx 6 11 false 51 (ny fhg51_7) rfl rfl rfl ?_
     refine JK 2 17 true 57 rfl rfl rfl (oO rfl rfl (ny fhg51_7) (fO (OF.pickT (VEv.tmpB rfl (ny fhg51_7)) (VEv.bool true)) (nt (ct rfl (sr (fO (OF.assign (VEv.bool false)) (nt (rt (vinB.r (tr (tr ?_)))))))))))
     refine vinB.r (tr (vb (b':=false) rfl ?_))
     (symm;rw [decide_eq_false_iff_not];rintro ⟨g1,g2,g3⟩;(have g4:=g3 i fhc1;unfold Zm at g4;omega))
    refine ZV (tS g.Cells) (nz fhg51_7) rfl rfl rfl rfl Qy rfl rfl ZN (gF (nz fhg51_7) rfl rfl (OF.move (tv (tN i) rfl)) ?_)
    have hb8:i<g.Cells.size:=(by omega)
    refine gF (nz fhg51_7) rfl rfl (Js (tv (tS g.Cells) rfl) (tv (tN i) rfl) hb8 U9) (gF (nz fhg51_7) rfl rfl (YF (tv (T.int .u8 (Qr g.Cells i)) rfl) (VEv.int .u8 46)) (gF (nz fhg51_7) rfl rfl (OF.move (tv (tB (decide (Qr g.Cells i=46))) rfl)) ?_))
    refine gw (Qr g.Cells i=46) (fun fhg57_9=> ?_) fun fhg57_9=> ?_
    ·refine gF (dy fhg57_9) rfl rfl (OF.move (tv (tB true) rfl)) ?_
     refine gF (dy fhg57_9) rfl rfl (B.not (c:=false) (tv (tB true) rfl) rfl) (gF (nz fhg51_7) rfl rfl (OF.pickT (VEv.tmpB rfl (dy fhg57_9)) (tv (tB false) rfl)) (fO (OF.pickF (VEv.tmpB rfl (nz fhg51_7)) (tv (tB false) rfl)) (nt (cf rfl (sk (vinB.n (tn (VRun.region (mO (tN i) rfl (fO (QA (tv (tN i) rfl) (VEv.int .i64 1) (by omega)) (aO (tN (i+1)) rfl ?_)))))))))))
     refine VRunO.nil (tn ?_)
     refine ⟨(i+1:Nat),?_,?_,Wk.mk (fun k=>k) ?_ ?_ ?_⟩
     ·refine QT hI' fhc1 ?_;unfold Zm;omega
     ·omega
     ·exact (b2 (b2 (b2 bn)))
     ·exact (b3 bn)
     ·exact nd rfl
    refine Qx 2 17 true 57 (dz fhg57_9) rfl rfl rfl (gF (nz fhg51_7) rfl rfl (OF.pickF (VEv.tmpB rfl (dz fhg57_9)) (VEv.bool false)) (fO (OF.pickF (VEv.tmpB rfl (nz fhg51_7)) (tv (tB false) rfl)) (nt (cf rfl (sk (vinB.n (tn (VRun.region (mO (tN i) rfl (fO (QA (tv (tN i) rfl) (VEv.int .i64 1) (by omega)) (aO (tN (i+1)) rfl ?_)))))))))))
    refine VRunO.nil (tn ?_)
    refine ⟨(i+1:Nat),?_,?_,Wk.mk (fun k=>k) ?_ ?_ ?_⟩
    ·refine QT hI' fhc1 ?_;unfold Zm;omega
    ·omega
    ·exact (b2 (b2 (b2 bn)))
    ·exact (b3 bn)
    ·exact nd rfl
   refine Qx 4 5 true 45 (dz fhg45_5) rfl rfl rfl (fO (OF.pickF (VEv.tmpB rfl (dz fhg45_5)) (VEv.bool false)) (mO (tB false) rfl (VRunO.free (VWant.on (b:=false) rfl rfl rfl) (OF.fieldAddrO (tv (T.op 0 0) rfl) Qy) (VRunO.look (VWant.on (b:=false) rfl rfl rfl) (OL.loadO1 (t:=(tS g.Cells)) (tv (T.op 0 2) rfl) rfl rfl ZN) (VRunO.free (VWant.on (b:=false) rfl rfl rfl) (OF.move (tv (tN i) rfl)) ?_)))))
   have hb10:i<g.Cells.size:=(by omega)
   refine VRunO.free (VWant.on (b:=false) rfl rfl rfl) (Js (tv (tS g.Cells) rfl) (tv (tN i) rfl) hb10 U9) (VRunO.free (VWant.on (b:=false) rfl rfl rfl) (YF (tv (T.int .u8 (Qr g.Cells i)) rfl) (VEv.int .u8 46)) (VRunO.free (VWant.on (b:=false) rfl rfl rfl) (OF.move (tv (tB (decide (Qr g.Cells i=46))) rfl)) ?_))
   refine gw (Qr g.Cells i=46) (fun fhg57_11=> ?_) fun fhg57_11=> ?_
   ·refine gF (dy fhg57_11) rfl rfl (OF.move (tv (tB true) rfl)) ?_
    refine gF (dy fhg57_11) rfl rfl (B.not (c:=false) (tv (tB true) rfl) rfl) (VRunO.free (VWant.on (b:=false) rfl rfl rfl) (OF.pickT (VEv.tmpB rfl (dy fhg57_11)) (tv (tB false) rfl)) (fO (OF.pickF (tv (tB false) rfl) (tv (tB false) rfl)) (nt (cf rfl (sk (vinB.n (tn (VRun.region (mO (tN i) rfl (fO (QA (tv (tN i) rfl) (VEv.int .i64 1) (by omega)) (aO (tN (i+1)) rfl ?_)))))))))))
    refine VRunO.nil (tn ?_)
    refine ⟨(i+1:Nat),?_,?_,Wk.mk (fun k=>k) ?_ ?_ ?_⟩
    ·refine QT hI' fhc1 ?_;unfold Zm;omega
    ·omega
    ·exact (b2 (b2 (b2 bn)))
    ·exact (b3 bn)
    ·exact nd rfl
   refine Qx 2 17 true 57 (dz fhg57_11) rfl rfl rfl (VRunO.free (VWant.on (b:=false) rfl rfl rfl) (OF.pickF (VEv.tmpB rfl (dz fhg57_11)) (VEv.bool false)) (fO (OF.pickF (tv (tB false) rfl) (tv (tB false) rfl)) (nt (cf rfl (sk (vinB.n (tn (VRun.region (mO (tN i) rfl (fO (QA (tv (tN i) rfl) (VEv.int .i64 1) (by omega)) (aO (tN (i+1)) rfl ?_)))))))))))
   refine VRunO.nil (tn ?_)
   refine ⟨(i+1:Nat),?_,?_,Wk.mk (fun k=>k) ?_ ?_ ?_⟩
   ·refine QT hI' fhc1 ?_;unfold Zm;omega
   ·omega
   ·exact (b2 (b2 (b2 bn)))
   ·exact (b3 bn)
   ·exact nd rfl
  refine gF (dz fhg28_3) rfl rfl (OF.move (tv (tS f) rfl)) (gF (dz fhg28_3) rfl rfl (OF.move (tv (tN i) rfl)) ?_)
  have hb12:i<f.size:=(by omega)
  refine gF (dz fhg28_3) rfl rfl (Js (tv (tS f) rfl) (tv (tN i) rfl) hb12 U9) (gF (dz fhg28_3) rfl rfl (xge (tv (T.int .u8 (Qr f i)) rfl) (VEv.int .u8 97)) (gF (dz fhg28_3) rfl rfl (OF.move (tv (tB (decide (97≤Qr f i))) rfl)) ?_))
  refine gw (97≤Qr f i) (fun fhg33_13=> ?_) fun fhg33_13=> ?_
  ·refine gF (dy fhg33_13) rfl rfl (OF.move (tv (tS f) rfl)) ?_
   refine gF (dy fhg33_13) rfl rfl (OF.move (tv (tN i) rfl)) ?_
   have hb14:i<f.size:=(by omega)
   refine gF (dy fhg33_13) rfl rfl (Js (tv (tS f) rfl) (tv (tN i) rfl) hb14 U9) (gF (dy fhg33_13) rfl rfl (xle (tv (T.int .u8 (Qr f i)) rfl) (VEv.int .u8 122)) (gF (dz fhg28_3) rfl rfl (OF.pickT (VEv.tmpB rfl (dy fhg33_13)) (tv (tB (decide (Qr f i≤122))) rfl)) (fO (OF.pickF (VEv.tmpB rfl (dz fhg28_3)) (tv (tB (decide (Qr f i≤122))) rfl)) (aO (tB (decide (Qr f i≤122))) rfl (nt (sr (lf (tS g.Cells) rfl Qy rfl rfl ZN (mO (tN i) rfl ?_))))))))
   have hb15:i<g.Cells.size:=(by omega)
   refine fO (Js (tv (tS g.Cells) rfl) (tv (tN i) rfl) hb15 U9) (fO (YF (tv (T.int .u8 (Qr g.Cells i)) rfl) (VEv.int .u8 35)) (mO (tB (decide (Qr g.Cells i=35))) rfl ?_))
   refine gw (Qr g.Cells i=35) (fun fhg45_16=> ?_) fun fhg45_16=> ?_
   ·refine gF (dy fhg45_16) rfl rfl (OF.move (tv (tS f) rfl)) ?_
    refine gF (dy fhg45_16) rfl rfl (OF.move (tv (tN i) rfl)) ?_
    have hb17:i<f.size:=(by omega)
    refine gF (dy fhg45_16) rfl rfl (Js (tv (tS f) rfl) (tv (tN i) rfl) hb17 U9) (gF (dy fhg45_16) rfl rfl (xne (tv (T.int .u8 (Qr f i)) rfl) (VEv.int .u8 35)) (fO (OF.pickT (VEv.tmpB rfl (dy fhg45_16)) (tv (tB (!(decide (Qr f i=35)))) rfl)) (mO (tB (!(decide (Qr f i=35)))) rfl ?_)))
    refine gn (Qr f i=35) (fun fhg51_18=> ?_) fun fhg51_18=> ?_
    ·refine Qx 6 11 false 51 (ny fhg51_18) rfl rfl rfl ?_
     refine JK 2 17 true 57 rfl rfl rfl (oO rfl rfl (ny fhg51_18) (fO (OF.pickT (VEv.tmpB rfl (ny fhg51_18)) (VEv.bool true)) (nt (ct rfl (sr (fO (OF.assign (VEv.bool false)) (nt (rt (vinB.r (tr (tr ?_)))))))))))
     refine vinB.r (tr (vb (b':=false) rfl ?_))
     (symm;rw [decide_eq_false_iff_not];rintro ⟨g1,g2,g3⟩;(have g4:=g3 i fhc1;unfold Zm at g4;omega))
    refine ZV (tS g.Cells) (nz fhg51_18) rfl rfl rfl rfl Qy rfl rfl ZN (gF (nz fhg51_18) rfl rfl (OF.move (tv (tN i) rfl)) ?_)
    have hb19:i<g.Cells.size:=(by omega)
    refine gF (nz fhg51_18) rfl rfl (Js (tv (tS g.Cells) rfl) (tv (tN i) rfl) hb19 U9) (gF (nz fhg51_18) rfl rfl (YF (tv (T.int .u8 (Qr g.Cells i)) rfl) (VEv.int .u8 46)) (gF (nz fhg51_18) rfl rfl (OF.move (tv (tB (decide (Qr g.Cells i=46))) rfl)) ?_))
    refine gw (Qr g.Cells i=46) (fun fhg57_20=> ?_) fun fhg57_20=> ?_
    ·refine gF (dy fhg57_20) rfl rfl (OF.move (tv (tB (decide (Qr f i≤122))) rfl)) ?_
     refine gF (dy fhg57_20) rfl rfl (QY (tv (tB (decide (Qr f i≤122))) rfl)) (gF (nz fhg51_18) rfl rfl (OF.pickT (VEv.tmpB rfl (dy fhg57_20)) (tv (tB (!(decide (Qr f i≤122)))) rfl)) (fO (OF.pickF (VEv.tmpB rfl (nz fhg51_18)) (tv (tB (!(decide (Qr f i≤122)))) rfl)) (nt ?_)))
     refine cn (Qr f i≤122) rfl (fun fhc2=> ?_) fun fhc2=> ?_
     ·refine sr ?_
      refine fO (OF.assign (VEv.bool false)) (nt (rt (vinB.r (tr (tr (vinB.r (tr (vb (b':=false) rfl ?_))))))))
      (symm;rw [decide_eq_false_iff_not];rintro ⟨g1,g2,g3⟩;omega)
     refine sk (vinB.n (tn (VRun.region (mO (tN i) rfl (fO (QA (tv (tN i) rfl) (VEv.int .i64 1) (by omega)) (aO (tN (i+1)) rfl (VRunO.nil (tn ?_))))))))
     refine ⟨(i+1:Nat),?_,?_,Wk.mk (fun k=>k) ?_ ?_ ?_⟩
     ·refine QT hI' fhc1 ?_;unfold Zm;omega
     ·omega
     ·exact (b2 (b2 (b2 bn)))
     ·exact (b3 bn)
     ·exact nd rfl
    refine Qx 2 17 true 57 (dz fhg57_20) rfl rfl rfl (gF (nz fhg51_18) rfl rfl (OF.pickF (VEv.tmpB rfl (dz fhg57_20)) (VEv.bool false)) (fO (OF.pickF (VEv.tmpB rfl (nz fhg51_18)) (tv (tB false) rfl)) (nt (cf rfl (sk (vinB.n (tn (VRun.region (mO (tN i) rfl (fO (QA (tv (tN i) rfl) (VEv.int .i64 1) (by omega)) (aO (tN (i+1)) rfl ?_)))))))))))
    refine VRunO.nil (tn ?_)
    refine ⟨(i+1:Nat),?_,?_,Wk.mk (fun k=>k) ?_ ?_ ?_⟩
    ·refine QT hI' fhc1 ?_;unfold Zm;omega
    ·omega
    ·exact (b2 (b2 (b2 bn)))
    ·exact (b3 bn)
    ·exact nd rfl
   refine Qx 4 5 true 45 (dz fhg45_16) rfl rfl rfl (fO (OF.pickF (VEv.tmpB rfl (dz fhg45_16)) (VEv.bool false)) (mO (tB false) rfl (VRunO.free (VWant.on (b:=false) rfl rfl rfl) (OF.fieldAddrO (tv (T.op 0 0) rfl) Qy) (VRunO.look (VWant.on (b:=false) rfl rfl rfl) (OL.loadO1 (t:=(tS g.Cells)) (tv (T.op 0 2) rfl) rfl rfl ZN) (VRunO.free (VWant.on (b:=false) rfl rfl rfl) (OF.move (tv (tN i) rfl)) ?_)))))
   have hb21:i<g.Cells.size:=(by omega)
   refine VRunO.free (VWant.on (b:=false) rfl rfl rfl) (Js (tv (tS g.Cells) rfl) (tv (tN i) rfl) hb21 U9) (VRunO.free (VWant.on (b:=false) rfl rfl rfl) (YF (tv (T.int .u8 (Qr g.Cells i)) rfl) (VEv.int .u8 46)) (VRunO.free (VWant.on (b:=false) rfl rfl rfl) (OF.move (tv (tB (decide (Qr g.Cells i=46))) rfl)) ?_))
   refine gw (Qr g.Cells i=46) (fun fhg57_22=> ?_) fun fhg57_22=> ?_
   ·refine gF (dy fhg57_22) rfl rfl (OF.move (tv (tB (decide (Qr f i≤122))) rfl)) ?_
    refine gF (dy fhg57_22) rfl rfl (QY (tv (tB (decide (Qr f i≤122))) rfl)) (VRunO.free (VWant.on (b:=false) rfl rfl rfl) (OF.pickT (VEv.tmpB rfl (dy fhg57_22)) (tv (tB (!(decide (Qr f i≤122)))) rfl)) (fO (OF.pickF (tv (tB false) rfl) (tv (tB (!(decide (Qr f i≤122)))) rfl)) (nt ?_)))
    refine cn (Qr f i≤122) rfl (fun fhc2=> ?_) fun fhc2=> ?_
    ·refine sr ?_
     refine fO (OF.assign (VEv.bool false)) (nt (rt (vinB.r (tr (tr (vinB.r (tr (vb (b':=false) rfl ?_))))))))
     (symm;rw [decide_eq_false_iff_not];rintro ⟨g1,g2,g3⟩;(have g4:=g3 i fhc1;unfold Zm at g4;omega))
    refine sk (vinB.n (tn (VRun.region (mO (tN i) rfl (fO (QA (tv (tN i) rfl) (VEv.int .i64 1) (by omega)) (aO (tN (i+1)) rfl (VRunO.nil (tn ?_))))))))
    refine ⟨(i+1:Nat),?_,?_,Wk.mk (fun k=>k) ?_ ?_ ?_⟩
    ·refine QT hI' fhc1 ?_;unfold Zm;omega
    ·omega
    ·exact (b2 (b2 (b2 bn)))
    ·exact (b3 bn)
    ·exact nd rfl
   refine Qx 2 17 true 57 (dz fhg57_22) rfl rfl rfl (VRunO.free (VWant.on (b:=false) rfl rfl rfl) (OF.pickF (VEv.tmpB rfl (dz fhg57_22)) (VEv.bool false)) (fO (OF.pickF (tv (tB false) rfl) (tv (tB false) rfl)) (nt (cf rfl (sk (vinB.n (tn (VRun.region (mO (tN i) rfl (fO (QA (tv (tN i) rfl) (VEv.int .i64 1) (by omega)) (aO (tN (i+1)) rfl ?_)))))))))))
   refine VRunO.nil (tn ?_)
   refine ⟨(i+1:Nat),?_,?_,Wk.mk (fun k=>k) ?_ ?_ ?_⟩
   ·refine QT hI' fhc1 ?_;unfold Zm;omega
   ·omega
   ·exact (b2 (b2 (b2 bn)))
   ·exact (b3 bn)
   ·exact nd rfl
  refine Qx 4 9 true 33 (dz fhg33_13) rfl rfl rfl (gF (dz fhg28_3) rfl rfl (OF.pickF (VEv.tmpB rfl (dz fhg33_13)) (VEv.bool false)) (fO (OF.pickF (VEv.tmpB rfl (dz fhg28_3)) (tv (tB false) rfl)) (aO (tB false) rfl (nt (sr (lf (tS g.Cells) rfl Qy rfl rfl ZN (mO (tN i) rfl ?_)))))))
  have hb23:i<g.Cells.size:=(by omega)
  refine fO (Js (tv (tS g.Cells) rfl) (tv (tN i) rfl) hb23 U9) (fO (YF (tv (T.int .u8 (Qr g.Cells i)) rfl) (VEv.int .u8 35)) (mO (tB (decide (Qr g.Cells i=35))) rfl ?_))
  refine gw (Qr g.Cells i=35) (fun fhg45_24=> ?_) fun fhg45_24=> ?_
  ·refine gF (dy fhg45_24) rfl rfl (OF.move (tv (tS f) rfl)) ?_
   refine gF (dy fhg45_24) rfl rfl (OF.move (tv (tN i) rfl)) ?_
   have hb25:i<f.size:=(by omega)
   refine gF (dy fhg45_24) rfl rfl (Js (tv (tS f) rfl) (tv (tN i) rfl) hb25 U9) (gF (dy fhg45_24) rfl rfl (xne (tv (T.int .u8 (Qr f i)) rfl) (VEv.int .u8 35)) (fO (OF.pickT (VEv.tmpB rfl (dy fhg45_24)) (tv (tB (!(decide (Qr f i=35)))) rfl)) (mO (tB (!(decide (Qr f i=35)))) rfl ?_)))
   refine gn (Qr f i=35) (fun fhg51_26=> ?_) fun fhg51_26=> ?_
   ·refine Qx 6 11 false 51 (ny fhg51_26) rfl rfl rfl ?_
    refine JK 2 17 true 57 rfl rfl rfl (oO rfl rfl (ny fhg51_26) (fO (OF.pickT (VEv.tmpB rfl (ny fhg51_26)) (VEv.bool true)) (nt (ct rfl (sr (fO (OF.assign (VEv.bool false)) (nt (rt (vinB.r (tr (tr ?_)))))))))))
    refine vinB.r (tr (vb (b':=false) rfl ?_))
    (symm;rw [decide_eq_false_iff_not];rintro ⟨g1,g2,g3⟩;(have g4:=g3 i fhc1;unfold Zm at g4;omega))
   refine ZV (tS g.Cells) (nz fhg51_26) rfl rfl rfl rfl Qy rfl rfl ZN (gF (nz fhg51_26) rfl rfl (OF.move (tv (tN i) rfl)) ?_)
   have hb27:i<g.Cells.size:=(by omega)
   refine gF (nz fhg51_26) rfl rfl (Js (tv (tS g.Cells) rfl) (tv (tN i) rfl) hb27 U9) (gF (nz fhg51_26) rfl rfl (YF (tv (T.int .u8 (Qr g.Cells i)) rfl) (VEv.int .u8 46)) (gF (nz fhg51_26) rfl rfl (OF.move (tv (tB (decide (Qr g.Cells i=46))) rfl)) ?_))
   refine gw (Qr g.Cells i=46) (fun fhg57_28=> ?_) fun fhg57_28=> ?_
   ·refine gF (dy fhg57_28) rfl rfl (OF.move (tv (tB false) rfl)) ?_
    refine gF (dy fhg57_28) rfl rfl (B.not (c:=true) (tv (tB false) rfl) rfl) (gF (nz fhg51_26) rfl rfl (OF.pickT (VEv.tmpB rfl (dy fhg57_28)) (tv (tB true) rfl)) (fO (OF.pickF (VEv.tmpB rfl (nz fhg51_26)) (tv (tB true) rfl)) (nt (ct rfl (sr (fO (OF.assign (VEv.bool false)) (nt (rt (vinB.r (tr (tr ?_)))))))))))
    refine vinB.r (tr (vb (b':=false) rfl ?_))
    (symm;rw [decide_eq_false_iff_not];rintro ⟨g1,g2,g3⟩;omega)
   refine Qx 2 17 true 57 (dz fhg57_28) rfl rfl rfl (gF (nz fhg51_26) rfl rfl (OF.pickF (VEv.tmpB rfl (dz fhg57_28)) (VEv.bool false)) (fO (OF.pickF (VEv.tmpB rfl (nz fhg51_26)) (tv (tB false) rfl)) (nt (cf rfl (sk (vinB.n (tn (VRun.region (mO (tN i) rfl (fO (QA (tv (tN i) rfl) (VEv.int .i64 1) (by omega)) (aO (tN (i+1)) rfl ?_)))))))))))
   refine VRunO.nil (tn ?_)
   refine ⟨(i+1:Nat),?_,?_,Wk.mk (fun k=>k) ?_ ?_ ?_⟩
   ·refine QT hI' fhc1 ?_;unfold Zm;omega
   ·omega
   ·exact (b2 (b2 (b2 bn)))
   ·exact (b3 bn)
   ·exact nd rfl
  refine Qx 4 5 true 45 (dz fhg45_24) rfl rfl rfl (fO (OF.pickF (VEv.tmpB rfl (dz fhg45_24)) (VEv.bool false)) (mO (tB false) rfl (VRunO.free (VWant.on (b:=false) rfl rfl rfl) (OF.fieldAddrO (tv (T.op 0 0) rfl) Qy) (VRunO.look (VWant.on (b:=false) rfl rfl rfl) (OL.loadO1 (t:=(tS g.Cells)) (tv (T.op 0 2) rfl) rfl rfl ZN) (VRunO.free (VWant.on (b:=false) rfl rfl rfl) (OF.move (tv (tN i) rfl)) ?_)))))
  have hb29:i<g.Cells.size:=(by omega)
  refine VRunO.free (VWant.on (b:=false) rfl rfl rfl) (Js (tv (tS g.Cells) rfl) (tv (tN i) rfl) hb29 U9) (VRunO.free (VWant.on (b:=false) rfl rfl rfl) (YF (tv (T.int .u8 (Qr g.Cells i)) rfl) (VEv.int .u8 46)) (VRunO.free (VWant.on (b:=false) rfl rfl rfl) (OF.move (tv (tB (decide (Qr g.Cells i=46))) rfl)) ?_))
  refine gw (Qr g.Cells i=46) (fun fhg57_30=> ?_) fun fhg57_30=> ?_
  ·refine gF (dy fhg57_30) rfl rfl (OF.move (tv (tB false) rfl)) ?_
   refine gF (dy fhg57_30) rfl rfl (B.not (c:=true) (tv (tB false) rfl) rfl) (VRunO.free (VWant.on (b:=false) rfl rfl rfl) (OF.pickT (VEv.tmpB rfl (dy fhg57_30)) (tv (tB true) rfl)) (fO (OF.pickF (tv (tB false) rfl) (tv (tB true) rfl)) (nt (ct rfl (sr (fO (OF.assign (VEv.bool false)) (nt (rt (vinB.r (tr (tr ?_)))))))))))
   refine vinB.r (tr (vb (b':=false) rfl ?_))
   (symm;rw [decide_eq_false_iff_not];rintro ⟨g1,g2,g3⟩;(have g4:=g3 i fhc1;unfold Zm at g4;omega))
  refine Qx 2 17 true 57 (dz fhg57_30) rfl rfl rfl (VRunO.free (VWant.on (b:=false) rfl rfl rfl) (OF.pickF (VEv.tmpB rfl (dz fhg57_30)) (VEv.bool false)) (fO (OF.pickF (tv (tB false) rfl) (tv (tB false) rfl)) (nt (cf rfl (sk (vinB.n (tn (VRun.region (mO (tN i) rfl (fO (QA (tv (tN i) rfl) (VEv.int .i64 1) (by omega)) (aO (tN (i+1)) rfl ?_)))))))))))
  refine VRunO.nil (tn ?_)
  refine ⟨(i+1:Nat),?_,?_,Wk.mk (fun k=>k) ?_ ?_ ?_⟩
  ·refine QT hI' fhc1 ?_;unfold Zm;omega
  ·omega
  ·exact (b2 (b2 (b2 bn)))
  ·exact (b3 bn)
  ·exact nd rfl
 refine VRun.exit (vthn.e (vthn.e (vinB.e (tn (sr (fO (OF.assign (VEv.bool true)) (nt (rt (vb (b':=true) rfl ?_)))))))))
 (symm;rw [decide_eq_true_eq];refine ⟨?_,?_,JU hI' fhc1⟩<;>assumption)
theorem Qa8 (n:Nat) (g:D.Grid) (f:ByteArray) (hc:g.Cells.size≤maxLen) (hf:f.size≤maxLen):Pure (Qo Tryz.prog (n+3)) 123 [(T.agg (Qb false g)),(tS f)] (tB (decide (QS g f))):=by
 refine Pure.intro (rs:= [ResultVar.tmp 4]) Tryz.func123 rfl rfl rfl (E0:= [(0,(T.agg (Qb false g))),(1,(tS f))]) rfl ?_
 obtain ⟨hlim,hmx,hmax⟩:=QF
 refine sr (kO (B.box (ts:=(Qb false g)) (tv (T.agg (Qb false g)) rfl) nofun rfl) (fO (OF.assign (VEv.bool false)) (nt (sq (sr (lO (OL.loadOn (us:=(Qb false g)) (tv (T.op 0 0) rfl) rfl QP QN (lb rfl) rfl) (cO (cS (vc (tv (T.agg (Qb false g)) rfl) vn) (LendL.cons (lg Qq) ln) (ZD (n+0) g (by assumption)) rfl rfl) (fO (QY (tv (tB (decide (gridOk g))) rfl)) (mO (tB (!(decide (gridOk g)))) rfl ?_)))))))))
 refine gn (gridOk g) (fun fhg9_1=> ?_) fun fhg9_1=> ?_
 ·refine Qx 6 3 false 9 (ny fhg9_1) rfl rfl rfl ?_
  refine fO (OF.pickT (VEv.tmpB rfl (ny fhg9_1)) (VEv.bool true)) (nt (ct rfl (sr (fO (OF.assign (VEv.bool false)) (nt (rt (tr (vb (b':=false) rfl ?_))))))))
  (symm;rw [decide_eq_false_iff_not];rintro ⟨g1,g2,g3⟩;contradiction)
 refine gF (nz fhg9_1) rfl rfl (OF.move (tv (tS f) rfl)) (gL (nz fhg9_1) rfl rfl (B.lenS (tv (tS f) rfl) U9) (ZV (tS g.Cells) (nz fhg9_1) rfl rfl rfl rfl Qy rfl rfl ZN (gL (nz fhg9_1) rfl rfl (B.lenS (tv (tS g.Cells) rfl) U9) (gF (nz fhg9_1) rfl rfl (Qju (tv (tN f.size) rfl) (tv (tN g.Cells.size) rfl)) (fO (OF.pickF (VEv.tmpB rfl (nz fhg9_1)) (tv (tB (!(decide (f.size=g.Cells.size)))) rfl)) (nt ?_))))))
 refine cn (f.size=g.Cells.size) rfl (fun fhc0=> ?_) fun fhc0=> ?_
 ·refine sr ?_
  refine fO (OF.assign (VEv.bool false)) (nt (rt (tr (vb (b':=false) rfl ?_))))
  (symm;rw [decide_eq_false_iff_not];rintro ⟨g1,g2,g3⟩;contradiction)
 refine sk (tn (sq (sr (mO (tS f) rfl (lO (B.lenS (tv (tS f) rfl) U9) (fO (OF.move (VEv.int .i64 0)) (nt (VRun.block ?_))))))))
 refine VRun.loop (A:=Nat) (fun s_=> [(1,(tS f)),(2,(T.op 0 0)),(18,(tN f.size)),(19,(tN s_))]) (fun s_=>Q0 [(0,(Obj.cells (Qb false g)))]) 1 (fun s_=>s_≤f.size∧∀j,j<s_→Zm (Qr g.Cells j) (Qr f j)) (fun s_=>f.size - s_) (0:Nat) ?_ (Wk.mk (fun k=>k) ?_ ?_ ?_) ?_
 ·exact ⟨Nat.zero_le _,fun j hj=>by omega⟩
 ·exact (b2 (b2 (b2 (b2 bn))))
 ·exact (b3 bn)
 ·exact nd rfl
 rintro i (hI':i≤f.size∧∀j,j<i→Zm (Qr g.Cells j) (Qr f j))
 show VRun _ _ _ [(1,(tS f)),(2,(T.op 0 0)),(18,(tN f.size)),(19,(tN i))] (Q0 [(0,(Obj.cells (Qb false g)))]) 1 _
 have hI1:=hI'.1
 have hgo:gridOk g:=by assumption
 refine sr (fO (Ze (tv (tN i) rfl) (tv (tN f.size) rfl)) (nt (sq ?_)))
 refine cd (i<f.size) rfl (fun fhc1=> ?_) fun fhc1=> ?_
 ·have hgi:=hgo.2.2.2 i (by omega)
  unfold gOk at hgi
  refine sk (tn (sq (VRun.block (sr (mO (tN i) rfl (aO (tN i) rfl (nt (sq (VRun.draw (B:= [[],[0],[],[2,0,1],[1,0,2,3],[],[],[6,5],[5,6,7],[7,6,5,8,3,2,0,1,4],[4,1,0,2,3,8,5,6,7,9],[9,7,6,5,8,3,2,0,1,4,10],[9,7,6,5,8,3,2,0,1,4,10],[12,10,4,1,0,2,3,8,5,6,7,9,11],[11,9,7,6,5,8,3,2,0,1,4,10,12,13],[13,12,10,4,1,0,2,3,8,5,6,7,9,11,14],[14,11,9,7,6,5,8,3,2,0,1,4,10,12,13,15],[14,11,9,7,6,5,8,3,2,0,1,4,10,12,13,15],[17,15,13,12,10,4,1,0,2,3,8,5,6,7,9,11,14,16],[16,14,11,9,7,6,5,8,3,2,0,1,4,10,12,13,15,17,18],[18,17,16,19,14,11,9,7,6,5,8,3,2,0,1,4,10,12,13,15],[15,13,12,10,4,1,0,2,3,8,5,6,7,9,11,14,19,16,17,18,20],[20,18,17,16,19,14,11,9,7,6,5,8,3,2,0,1,4,10,12,13,15,21],[20,18,17,16,19,14,11,9,7,6,5,8,3,2,0,1,4,10,12,13,15,21],[23,21,15,13,12,10,4,1,0,2,3,8,5,6,7,9,11,14,19,16,17,18,20,22],[22,20,18,17,16,19,14,11,9,7,6,5,8,3,2,0,1,4,10,12,13,15,21,23,24],[24,23,21,15,13,12,10,4,1,0,2,3,8,5,6,7,9,11,14,19,16,17,18,20,22,25],[25,22,23,24,26,20,18,17,16,19,14,11,9,7,6,5,8,3,2,0,1,4,10,12,13,15,21],[21,15,13,12,11,14,19,16,17,18,20,26,24,23,22,25,27,9,7,6,5,8,3,2,0,1,4,10]]) (by kernel_rfl) (by kernel_rfl) (fD (OF.fieldAddrO (tv (T.op 0 0) rfl) Qy) rfl rfl (lD (OL.loadO1 (t:=(tS g.Cells)) (tv (T.op 0 2) rfl) rfl rfl ZN) rfl rfl ?_)))))))))))
  refine mD (tN i) rfl rfl ?_
  have hb2:i<g.Cells.size:=(by omega)
  refine fD (Js (tv (tS g.Cells) rfl) (tv (tN i) rfl) hb2 U9) rfl rfl (fD (YF (tv (T.int .u8 (Qr g.Cells i)) rfl) (VEv.int .u8 35)) rfl rfl (mD (tS f) rfl rfl (mD (tN i) rfl rfl ?_)))
  have hb3:i<f.size:=(by omega)
  refine fD (Js (tv (tS f) rfl) (tv (tN i) rfl) hb3 U9) rfl rfl (fD (YF (tv (T.int .u8 (Qr f i)) rfl) (VEv.int .u8 35)) rfl rfl (fD (B.bneq U4 (c:=(!((decide (Qr g.Cells i=35)) == (decide (Qr f i=35))))) (tv (tB (decide (Qr g.Cells i=35))) rfl) (tv (tB (decide (Qr f i=35))) rfl) rfl) rfl rfl (mD (tB (!((decide (Qr g.Cells i=35)) == (decide (Qr f i=35))))) rfl rfl ?_)))
  refine Qb1 (!((decide (Qr g.Cells i=35)) == (decide (Qr f i=35)))) (fun hg32_4=> ?_) (fun hg32_4=> ?_)
  ·have fhg32_4:(!((decide (Qr g.Cells i=35)) == (decide (Qr f i=35))))=true:=hg32_4
   refine oD rfl rfl hg32_4 rfl (oD rfl rfl hg32_4 rfl (oD rfl rfl hg32_4 rfl (oD rfl rfl hg32_4 rfl (oD rfl rfl hg32_4 rfl (uD rfl rfl rfl (uD rfl rfl rfl (uD rfl rfl rfl (uD rfl rfl rfl (oD rfl rfl hg32_4 rfl (oD rfl rfl hg32_4 rfl (uD rfl rfl rfl ?_)))))))))))
   refine uD rfl rfl rfl (uD rfl rfl rfl (uD rfl rfl rfl (uD rfl rfl rfl (oD rfl rfl hg32_4 rfl (fD (OF.pickT (VEv.tmpB rfl hg32_4) (VEv.bool true)) rfl rfl (VRunD.nil (tn (ct rfl (sr (fO (OF.assign (VEv.bool false)) (nt ?_)))))))))))
   refine rt (vinB.r (tr (tr (vinB.r (tr (vb (b':=false) rfl ?_))))))
   (symm;rw [decide_eq_false_iff_not];rintro ⟨g1,g2,g3⟩;(have g4:=g3 i fhc1;unfold Zm at g4;simp only [Qjp,decide_eq_true_eq,decide_eq_false_iff_not,Classical.not_not] at *;omega))
  have fhg32_4:(!((decide (Qr g.Cells i=35)) == (decide (Qr f i=35))))=false:=hg32_4
  refine VRunD.free rfl (VWant.on rfl rfl hg32_4) rfl (OF.move (tv (tS f) rfl)) (VRunD.free rfl (VWant.on rfl rfl hg32_4) rfl (OF.move (tv (tN i) rfl)) ?_)
  have hb5:i<f.size:=(by omega)
  refine VRunD.free rfl (VWant.on rfl rfl hg32_4) rfl (Js (tv (tS f) rfl) (tv (tN i) rfl) hb5 U9) (VRunD.free rfl (VWant.on rfl rfl hg32_4) rfl (xne (tv (T.int .u8 (Qr f i)) rfl) (VEv.int .u8 35)) (VRunD.free rfl (VWant.on rfl rfl hg32_4) rfl (OF.move (tv (tB (!(decide (Qr f i=35)))) rfl)) ?_))
  refine gn (Qr f i=35) (fun fhg37_6=> ?_) fun fhg37_6=> ?_
  ·refine VRunD.free rfl (VWant.on rfl rfl (ny fhg37_6)) rfl (OF.move (tv (tS f) rfl)) ?_
   refine VRunD.free rfl (VWant.on rfl rfl (ny fhg37_6)) rfl (OF.move (tv (tN i) rfl)) ?_
   have hb7:i<f.size:=(by omega)
   refine VRunD.free rfl (VWant.on rfl rfl (ny fhg37_6)) rfl (Js (tv (tS f) rfl) (tv (tN i) rfl) hb7 U9) (VRunD.free rfl (VWant.on rfl rfl (ny fhg37_6)) rfl (xne (tv (T.int .u8 (Qr f i)) rfl) (VEv.int .u8 63)) (VRunD.free rfl (VWant.on rfl rfl hg32_4) rfl (OF.pickT (VEv.tmpB rfl (ny fhg37_6)) (tv (tB (!(decide (Qr f i=63)))) rfl)) (VRunD.free rfl (VWant.on rfl rfl hg32_4) rfl (OF.move (tv (tB (!(decide (Qr f i=63)))) rfl)) ?_)))
   refine gn (Qr f i=63) (fun fhg43_8=> ?_) fun fhg43_8=> ?_
   ·refine VRunD.free rfl (VWant.on rfl rfl (ny fhg43_8)) rfl (OF.move (tv (tS f) rfl)) ?_
    refine VRunD.free rfl (VWant.on rfl rfl (ny fhg43_8)) rfl (OF.move (tv (tN i) rfl)) ?_
    have hb9:i<f.size:=(by omega)
    refine VRunD.free rfl (VWant.on rfl rfl (ny fhg43_8)) rfl (Js (tv (tS f) rfl) (tv (tN i) rfl) hb9 U9) (VRunD.quiet (bi:= [22,20,18,17,16,19,14,11,9,7,6,5,8,3,2,0,1,4,10,12,13,15,21,23,24]) rfl (VWant.on rfl rfl (ny fhg43_8)) rfl rfl rfl bn (cS (vc (tv (T.int .u8 (Qr f i)) rfl) vn) (ZQ rfl) (YZ (n+1) (Qr f i)) rfl rfl) (VRunD.free rfl (VWant.on rfl rfl (ny fhg43_8)) rfl (QY (tv (tB (decide (97≤(Qr f i)∧(Qr f i)≤122))) rfl)) (VRunD.free rfl (VWant.on rfl rfl hg32_4) rfl (OF.pickT (VEv.tmpB rfl (ny fhg43_8)) (tv (tB (!(decide (97≤(Qr f i)∧(Qr f i)≤122)))) rfl)) (fD (OF.pickF (VEv.tmpB rfl hg32_4) (tv (tB (!(decide (97≤(Qr f i)∧(Qr f i)≤122)))) rfl)) rfl rfl (VRunD.nil (tn ?_))))))
    refine cn (97≤(Qr f i)∧(Qr f i)≤122) rfl (fun fhc2=> ?_) fun fhc2=> ?_
    ·refine sr ?_
     refine fO (OF.assign (VEv.bool false)) (nt (rt (vinB.r (tr (tr (vinB.r (tr (vb (b':=false) rfl ?_))))))))
     (symm;rw [decide_eq_false_iff_not];rintro ⟨g1,g2,g3⟩;(have g4:=g3 i fhc1;unfold Zm at g4;simp only [Qjp,decide_eq_true_eq,decide_eq_false_iff_not,Classical.not_not] at *;omega))
    refine sk (vinB.n (tn (VRun.region (fO (QA (tv (tN i) rfl) (VEv.int .i64 1) (by omega)) (mO (tN (i+1)) rfl (VRunO.nil (tn ?_)))))))
    refine ⟨(i+1:Nat),?_,?_,Wk.mk (fun k=>k) ?_ ?_ ?_⟩
    ·refine QT hI' fhc1 ?_;unfold Zm;simp only [Qjp,decide_eq_true_eq,decide_eq_false_iff_not,Classical.not_not] at *;omega
    ·omega
    ·exact (b2 (b2 (b2 (b2 bn))))
    ·exact (b3 bn)
    ·exact nd rfl
   refine oD rfl rfl (nz fhg43_8) rfl (oD rfl rfl (nz fhg43_8) rfl (oD rfl rfl (nz fhg43_8) rfl (oD rfl rfl (nz fhg43_8) rfl (oD rfl rfl (nz fhg43_8) rfl (VRunD.free rfl (VWant.on rfl rfl hg32_4) rfl (OF.pickF (VEv.tmpB rfl (nz fhg43_8)) (VEv.bool false)) (fD (OF.pickF (VEv.tmpB rfl hg32_4) (tv (tB false) rfl)) rfl rfl (VRunD.nil (tn (cf rfl (sk (vinB.n ?_)))))))))))
   refine tn (VRun.region (fO (QA (tv (tN i) rfl) (VEv.int .i64 1) (by omega)) (mO (tN (i+1)) rfl (VRunO.nil (tn ?_)))))
   refine ⟨(i+1:Nat),?_,?_,Wk.mk (fun k=>k) ?_ ?_ ?_⟩
   ·refine QT hI' fhc1 ?_;unfold Zm;simp only [Qjp,decide_eq_true_eq,decide_eq_false_iff_not,Classical.not_not] at *;omega
   ·omega
   ·exact (b2 (b2 (b2 (b2 bn))))
   ·exact (b3 bn)
   ·exact nd rfl
  refine oD rfl rfl (nz fhg37_6) rfl (oD rfl rfl (nz fhg37_6) rfl (oD rfl rfl (nz fhg37_6) rfl (oD rfl rfl (nz fhg37_6) rfl (VRunD.free rfl (VWant.on rfl rfl hg32_4) rfl (OF.pickF (VEv.tmpB rfl (nz fhg37_6)) (VEv.bool false)) (VRunD.free rfl (VWant.on rfl rfl hg32_4) rfl (OF.move (tv (tB false) rfl)) (VRunD.off rfl (VWant.not (b:=false) rfl rfl rfl) (VRunD.off rfl (VWant.not (b:=false) rfl rfl rfl) (VRunD.off rfl (VWant.not (b:=false) rfl rfl rfl) (VRunD.off rfl (VWant.not (b:=false) rfl rfl rfl) (VRunD.off rfl (VWant.not (b:=false) rfl rfl rfl) (VRunD.free rfl (VWant.on rfl rfl hg32_4) rfl (OF.pickF (tv (tB false) rfl) (VEv.bool false)) ?_)))))))))))
  refine fD (OF.pickF (VEv.tmpB rfl hg32_4) (tv (tB false) rfl)) rfl rfl (VRunD.nil (tn (cf rfl (sk (vinB.n (tn (VRun.region (fO (QA (tv (tN i) rfl) (VEv.int .i64 1) (by omega)) (mO (tN (i+1)) rfl (VRunO.nil (tn ?_)))))))))))
  refine ⟨(i+1:Nat),?_,?_,Wk.mk (fun k=>k) ?_ ?_ ?_⟩
  ·refine QT hI' fhc1 ?_;unfold Zm;simp only [Qjp,decide_eq_true_eq,decide_eq_false_iff_not,Classical.not_not] at *;omega
  ·omega
  ·exact (b2 (b2 (b2 (b2 bn))))
  ·exact (b3 bn)
  ·exact nd rfl
 refine VRun.exit (vthn.e (vthn.e (vinB.e (tn (sr (fO (OF.assign (VEv.bool true)) (nt (rt (vb (b':=true) rfl ?_)))))))))
 (symm;rw [decide_eq_true_eq];refine ⟨?_,?_,JU hI' fhc1⟩<;>assumption)
theorem QdS (n:Nat) (g:D.Grid) (c:Int) (hc:g.Cells.size≤maxLen):Pure (Qo Tryz.prog (n+3)) 100 [(T.agg (Qb false g)),(tI c)] (tB (decide (gridOk g∧(0≤c∧c≤((g.Cells.size:Nat):Int) - 1)∧Qr g.Cells (Int.toNat c)=46))):=by
 refine Pure.intro (rs:= [ResultVar.tmp 4]) Tryz.func100 rfl rfl rfl (E0:= [(0,(T.agg (Qb false g))),(1,(tI c))]) rfl ?_
 obtain ⟨hlim,hmx,hmax⟩:=QF
 refine sr (kO (B.box (ts:=(Qb false g)) (tv (T.agg (Qb false g)) rfl) nofun rfl) (fO (OF.assign (VEv.bool false)) (nt (sr (lO (OL.loadOn (us:=(Qb false g)) (tv (T.op 0 0) rfl) rfl QP QN (lb rfl) rfl) (cO (cS (vc (tv (T.agg (Qb false g)) rfl) vn) (LendL.cons (lg Qq) ln) (Zt (n+0) g (by assumption)) rfl rfl) (mO (tB (decide (gridOk g))) rfl ?_)))))))
 refine gw (gridOk g) (fun fhg7_1=> ?_) fun fhg7_1=> ?_
 ·refine gF (dy fhg7_1) rfl rfl (OF.move (tv (tI c) rfl)) ?_
  refine ZV (tS g.Cells) (dy fhg7_1) rfl rfl rfl rfl Qy rfl rfl ZN (gL (dy fhg7_1) rfl rfl (B.lenS (tv (tS g.Cells) rfl) U9) (gF (dy fhg7_1) rfl rfl (B.sub (n:=(((g.Cells.size:Nat):Int) - 1)) (tv (tN g.Cells.size) rfl) (VEv.int .i64 1) (by (rw [Qs (by omega)];done))) (VRunO.chain (VWant.on rfl rfl (dy fhg7_1)) (cS (vc (tv (tI c) rfl) (vc (VEv.int .i64 0) (vc (tv (tI (((g.Cells.size:Nat):Int) - 1)) rfl) vn))) (ZQ rfl) (QQ (n+1) c 0 (((g.Cells.size:Nat):Int) - 1)) rfl rfl) (fO (OF.pickT (VEv.tmpB rfl (dy fhg7_1)) (tv (tB (decide (0≤c∧c≤(((g.Cells.size:Nat):Int) - 1)))) rfl)) (mO (tB (decide (0≤c∧c≤(((g.Cells.size:Nat):Int) - 1)))) rfl ?_)))))
  refine gw (0≤c∧c≤(((g.Cells.size:Nat):Int) - 1)) (fun fhg15_2=> ?_) fun fhg15_2=> ?_
  ·refine ZV (tS g.Cells) (dy fhg15_2) rfl rfl rfl rfl Qy rfl rfl ZN ?_
   refine gF (dy fhg15_2) rfl rfl (OF.move (tv (tI c) rfl)) ?_
   have hb3:(Int.toNat c)<g.Cells.size:=(by omega)
   refine gF (dy fhg15_2) rfl rfl (B.index (n:=(Qr g.Cells (Int.toNat c))) (i:=(Int.toNat c)) (tv (tS g.Cells) rfl) (tv (tI c) rfl) (by omega) hb3 U9 (Yd hb3)) (gF (dy fhg15_2) rfl rfl (YF (tv (T.int .u8 (Qr g.Cells (Int.toNat c))) rfl) (VEv.int .u8 46)) (fO (OF.pickT (VEv.tmpB rfl (dy fhg15_2)) (tv (tB (decide (Qr g.Cells (Int.toNat c)=46))) rfl)) (aO (tB (decide (Qr g.Cells (Int.toNat c)=46))) rfl (nt (rt (vb (b':=(decide (Qr g.Cells (Int.toNat c)=46))) rfl ?_))))))
   (refine Q4 ⟨fun h=>⟨?_,?_,h⟩,fun h=>h.2.2⟩<;>assumption)
  refine Qx 5 10 true 15 (dz fhg15_2) rfl rfl rfl (fO (OF.pickF (VEv.tmpB rfl (dz fhg15_2)) (VEv.bool false)) (aO (tB false) rfl (nt (rt (vb (b':=false) rfl ?_)))))
  (symm;rw [decide_eq_false_iff_not];rintro ⟨g1,g2,g3⟩;contradiction)
 refine Qx 6 2 true 7 (dz fhg7_1) rfl rfl rfl (fO (OF.pickF (VEv.tmpB rfl (dz fhg7_1)) (VEv.bool false)) (mO (tB false) rfl (Qx 5 10 true 15 (b:=false) rfl rfl rfl rfl (fO (OF.pickF (tv (tB false) rfl) (VEv.bool false)) (aO (tB false) rfl (nt (rt (vb (b':=false) rfl ?_))))))))
 (symm;rw [decide_eq_false_iff_not];rintro ⟨g1,g2,g3⟩;contradiction)
theorem QfJ (n:Nat) (l:List Int) (v:Int) (hl:l.length≤YD):Pure (Qo Tryz.prog (n+1)) 134 [(rd 1 Qc l),(tI v)] (tB (decide (v∈l))):=by
 refine Pure.intro (rs:= [ResultVar.tmp 4]) Tryz.func134 rfl rfl rfl (E0:= [(0,(rd 1 Qc l)),(1,(tI v))]) rfl ?_
 obtain ⟨hlim,hmx,hmax⟩:=QF
 refine sr (fO (OF.assign (VEv.bool false)) (nt (sq (sr (fO (OF.assign (VEv.int .i64 0)) (nt (VRun.block ?_)))))))
 refine VRun.loop (A:=Nat) (fun s_=> [(0,(rd 1 Qc l)),(1,(tI v)),(5,(tN s_))]) (fun s_=>Q0 []) 0 (fun s_=>NoneTo (fun y=>y=v) l s_) (fun s_=>l.length - s_) (0:Nat) ?_ (Wk.mk (fun k=>k) ?_ ?_ ?_) ?_
 ·exact NoneTo.start _ _
 ·exact (b2 (b2 (b2 bn)))
 ·exact bn
 ·exact nd rfl
 rintro i (hI':NoneTo (fun y=>y=v) l i)
 show VRun _ _ _ [(0,(rd 1 Qc l)),(1,(tI v)),(5,(tN i))] (Q0 []) 0 _
 have hI1:=hI'.1
 refine sq (sr (mO (tN i) rfl (mO (rd 1 Qc l) rfl (lO (B.lenR (m:=l.length) (tv (rd 1 Qc l) rfl) ZL (List.length_map ..)) (fO (Ze (tv (tN i) rfl) (tv (tN l.length) rfl)) (nt ?_))))))
 refine cd (i<l.length) rfl (fun fhc0=> ?_) fun fhc0=> ?_
 ·refine sk ?_
  refine tn (sq (VRun.block (sr (mO (rd 1 Qc l) rfl (mO (tN i) rfl ?_)))))
  obtain ⟨x1,hx1⟩:∃x,l[i]? =some x:=⟨_,List.getElem?_eq_getElem (by omega)⟩
  refine fO (OF.indexAddrR (row:=(Qc false x1)) (i:=i) (tv (rd 1 Qc l) rfl) (tv (tN i) rfl) rfl (Qw _ hx1) ZL Zv Y7) (lO (OL.loadR1 (t:=(tI x1)) (tv (T.rp [(tI x1)]) rfl) rfl QV) (mO (tI v) rfl (fO (YF (tv (tI x1) rfl) (tv (tI v) rfl)) (nt ?_))))
  refine cd (x1=v) rfl (fun fhc1=> ?_) fun fhc1=> ?_
  ·refine sr ?_
   refine fO (OF.assign (VEv.bool true)) (nt (rt (vinB.r (tr (tr (vinB.r (tr (vb (b':=true) rfl ?_))))))))
   symm;rw [decide_eq_true_eq,← fhc1];exact List.mem_of_getElem? hx1
  refine sk (vinB.n (tn (VRun.region (mO (tN i) rfl (fO (QA (tv (tN i) rfl) (VEv.int .i64 1) (by omega)) (aO (tN (i+1)) rfl (VRunO.nil (tn ?_))))))))
  refine ⟨(i+1:Nat),?_,?_,Wk.mk (fun k=>k) ?_ ?_ ?_⟩
  ·exact hI'.next hx1 fhc1
  ·omega
  ·exact (b2 (b2 (b2 bn)))
  ·exact bn
  ·exact nd rfl
 refine VRun.exit (vthn.e (vthn.e (vinB.e (tn (sr (fO (OF.assign (VEv.bool false)) (nt (rt (vb (b':=false) rfl ?_)))))))))
 symm;rw [decide_eq_false_iff_not];intro h;exact hI'.mem fhc0 v h rfl
theorem J0 (n:Nat) (a:List Int) (b:Int) (ha:a.length≤YD):Pure (Qo Tryz.prog (n+1)) 165 [(rd 1 Qc a),(tI b)] (tI (ixF (fun y=>b=y) a)):=by
 refine Pure.intro (rs:= [ResultVar.tmp 4]) Tryz.func165 rfl rfl rfl (E0:= [(0,(rd 1 Qc a)),(1,(tI b))]) rfl ?_
 obtain ⟨hlim,hmx,hmax⟩:=QF
 refine sr (fO (OF.assign (VEv.int .i64 0)) (nt (sq (sr (mO (rd 1 Qc a) rfl (lO (B.lenR (m:=a.length) (tv (rd 1 Qc a) rfl) ZL (List.length_map ..)) (fO (OF.move (VEv.int .i64 0)) (nt (VRun.block ?_)))))))))
 refine VRun.loop (A:=Nat) (fun s_=> [(0,(rd 1 Qc a)),(1,(tI b)),(7,(tN a.length)),(8,(tN s_))]) (fun s_=>Q0 []) 0 (fun s_=>NoneTo (fun y=>b=y) a s_) (fun s_=>a.length - s_) (0:Nat) ?_ (Wk.mk (fun k=>k) ?_ ?_ ?_) ?_
 ·exact NoneTo.start _ _
 ·exact (b2 (b2 (b2 (b2 bn))))
 ·exact bn
 ·exact nd rfl
 rintro i (hI':NoneTo (fun y=>b=y) a i)
 show VRun _ _ _ [(0,(rd 1 Qc a)),(1,(tI b)),(7,(tN a.length)),(8,(tN i))] (Q0 []) 0 _
 have hI1:=hI'.1
 refine sr (fO (Ze (tv (tN i) rfl) (tv (tN a.length) rfl)) (nt (sq ?_)))
 refine cd (i<a.length) rfl (fun fhc0=> ?_) fun fhc0=> ?_
 ·refine sk ?_
  refine tn (sq (VRun.block (sr (mO (tN i) rfl (aO (tN i) rfl (nt (sr (mO (tI b) rfl (mO (rd 1 Qc a) rfl (mO (tN i) rfl ?_))))))))))
  obtain ⟨x1,hx1⟩:∃x,a[i]? =some x:=⟨_,List.getElem?_eq_getElem (by omega)⟩
  refine fO (OF.indexAddrR (row:=(Qc false x1)) (i:=i) (tv (rd 1 Qc a) rfl) (tv (tN i) rfl) rfl (Qw _ hx1) ZL Zv Y7) (lO (OL.loadR1 (t:=(tI x1)) (tv (T.rp [(tI x1)]) rfl) rfl QV) (fO (YF (tv (tI b) rfl) (tv (tI x1) rfl)) (nt ?_)))
  refine cd (b=x1) rfl (fun fhc1=> ?_) fun fhc1=> ?_
  ·refine sr ?_
   refine mO (tN i) rfl (aO (tN i) rfl (nt (rt (vinB.r (tr (tr (vinB.r (tr (vi (n':=((i:Nat):Int)) rfl ?_)))))))))
   exact (Qcn hx1 fhc1 hI'.2).symm
  refine sk (vinB.n (tn (VRun.region (fO (QA (tv (tN i) rfl) (VEv.int .i64 1) (by omega)) (mO (tN (i+1)) rfl (VRunO.nil (tn ?_)))))))
  refine ⟨(i+1:Nat),?_,?_,Wk.mk (fun k=>k) ?_ ?_ ?_⟩
  ·exact hI'.next hx1 fhc1
  ·omega
  ·exact (b2 (b2 (b2 (b2 bn))))
  ·exact bn
  ·exact nd rfl
 refine VRun.exit (vthn.e (vthn.e (vinB.e (tn (sr (fO (OF.assign (VEv.int .i64 (-1))) (nt (rt (vi (n':=(-1)) rfl ?_)))))))))
 exact (QdJ (hI'.all fhc0)).symm
theorem Jk (n:Nat) (a:List Int) (b:Int) (ha:a.length≤YD):Pure (Qo Tryz.prog (n+2)) 150 [(rd 1 Qc a),(tI b)] (tB (decide (b∈a))):=by
 refine Pure.intro (rs:= [ResultVar.tmp 4]) Tryz.func150 rfl rfl rfl (E0:= [(0,(rd 1 Qc a)),(1,(tI b))]) rfl ?_
 obtain ⟨hlim,hmx,hmax⟩:=QF
 refine sr (fO (OF.assign (VEv.bool false)) (nt (sr (mO (rd 1 Qc a) rfl (mO (tI b) rfl (cO (cS (vc (tv (rd 1 Qc a) rfl) (vc (tv (tI b) rfl) vn)) (ZQ rfl) (J0 (n+0) a b (by assumption)) rfl rfl) (fO (xge (tv (tI (ixF (fun y=>b=y) a)) rfl) (VEv.int .i64 0)) (aO (tB (decide (0≤ixF (fun y=>b=y) a))) rfl (nt (rt (vb (b':=(decide (0≤ixF (fun y=>b=y) a))) rfl ?_)))))))))))
 refine Q4 ?_
 rw [Qg0]
 exact ⟨fun ⟨x,h1,h2⟩=>h2▸h1,fun h=>⟨b,h,rfl⟩⟩
end Go.Proofs.YthifchndolccgaaGreatDoor.AE
namespace Go.Proofs.YthifchndolccgaaGreatDoor.AE
open Go Go.RowKit
set_option linter.unusedVariables false
set_option linter.unusedSimpArgs false
set_option maxRecDepth 20000
set_option maxHeartbeats 2000000
noncomputable section
def JS (ok:Nat→Prop) [DecidablePred ok]:Nat→Nat→Nat
 | 0,n=>n
 | f+1,n=>if ok n then JS ok f (n+1) else n
theorem Qe6 {ok:Nat→Prop} [DecidablePred ok] {n:Nat} (h:ok n) (hn:n<6):JS ok (6 - n) n=JS ok (6 - (n+1)) (n+1):=by
 obtain ⟨k,hk⟩:∃k,6 - n=k+1:=⟨5 - n,by omega⟩
 rw [hk,show 6 - (n+1)=k by omega]
 simp only [JS,if_pos h]
theorem QgL {ok:Nat→Prop} [DecidablePred ok] {n f:Nat} (h:¬ok n):JS ok f n=n:=by
 cases f with
 | zero=>rfl
 | succ f=>simp only [JS,if_neg h]
def slA (g:D.Grid) (cell n:Nat):Prop:=((cell % g.Cols.toNat+n:Nat):Int)<g.Cols∧Qr g.Cells (cell+n*1)=46
def slD (g:D.Grid) (cell n:Nat):Prop:=((cell / g.Cols.toNat+n:Nat):Int)<g.Rows∧Qr g.Cells (Int.toNat (((cell:Nat):Int)+((n:Nat):Int)*g.Cols))=46
instance (g:D.Grid) (cell:Nat):DecidablePred (slA g cell):=fun _=>Classical.propDecidable _
instance (g:D.Grid) (cell:Nat):DecidablePred (slD g cell):=fun _=>Classical.propDecidable _
def Qe2 (g:D.Grid) (cell:Nat):Nat:=if Qr g.Cells cell=46∧¬(0<cell % g.Cols.toNat∧Qr g.Cells (Int.toNat (((cell:Nat):Int) - 1))=46) then JS (slA g cell) 6 0 else 0
def Qe3 (g:D.Grid) (cell:Nat):Nat:=if Qr g.Cells cell=46∧¬(0<cell / g.Cols.toNat∧Qr g.Cells (Int.toNat (((cell:Nat):Int) - g.Cols))=46) then JS (slD g cell) 6 0 else 0
def Qn (g:D.Grid) (cell:Nat) (down:Bool):Nat:=if down=true then Qe3 g cell else Qe2 g cell
theorem Qj7 {c:Nat} {w:Int} (h:2≤w):((c:Nat):Int).tmod w=((c % w.toNat:Nat):Int):=by
 obtain ⟨k,rfl⟩:=Int.eq_ofNat_of_zero_le (show 0≤w by omega)
 rfl
theorem QkN {c:Nat} {w:Int} (h:2≤w) (hc:c≤36):IntKind.i64.wrap (((c:Nat):Int).tdiv w)=((c / w.toNat:Nat):Int):=by
 obtain ⟨k,rfl⟩:=Int.eq_ofNat_of_zero_le (show 0≤w by omega)
 have:c / k≤c:=Nat.div_le_self _ _
 show IntKind.i64.wrap ((c / k:Nat):Int)=((c / k:Nat):Int)
 generalize c / k=q at *
 rw [Qs (by omega)]
theorem Qde {n:Nat} {c:Int} (h:n≤6) (h2:2≤c) (h3:c≤6):0≤((n:Nat):Int)*c∧((n:Nat):Int)*c≤36:=by
 have e1:0≤((n:Nat):Int)*c:=Int.mul_nonneg (by omega) (by omega)
 have e2:((n:Nat):Int)*c≤6*6:=Int.mul_le_mul (by omega) h3 (by omega) (by decide)
 omega
theorem QeS {n:Nat} {c:Int} (h:n≤6) (h2:2≤c) (h3:c≤6):IntKind.i64.wrap (((n:Nat):Int)*c)=((n:Nat):Int)*c:=by
 have:=Qde h h2 h3
 rw [Qs (by omega)]
theorem QaR {g:D.Grid} {cell:Nat} (hg:gridOk g) (hc:cell<g.Cells.size):(cell % g.Cols.toNat<g.Cols.toNat∧cell / g.Cols.toNat<g.Rows.toNat)∧(0<cell % g.Cols.toNat→1≤cell)∧(0<cell / g.Cols.toNat→g.Cols.toNat≤cell)∧(∀n:Nat,((cell % g.Cols.toNat+n:Nat):Int)<g.Cols→cell+n<g.Cells.size)∧∀n:Nat,((cell / g.Cols.toNat+n:Nat):Int)<g.Rows→((cell:Nat):Int)+((n:Nat):Int)*g.Cols<g.Cells.size:=by
 obtain ⟨⟨a1,a2⟩,⟨b1,b2⟩,hs,_⟩:=hg
 obtain ⟨w,hw⟩:=Int.eq_ofNat_of_zero_le (show 0≤g.Cols by omega)
 obtain ⟨r,hr⟩:=Int.eq_ofNat_of_zero_le (show 0≤g.Rows by omega)
 have hs2:g.Cells.size=r*w:=by rw [hw,hr] at hs;exact_mod_cast hs
 have hw0:0<w:=by omega
 have hwn:g.Cols.toNat=w:=by omega
 have hrn:g.Rows.toNat=r:=by omega
 rw [hwn,hrn]
 have h1:cell % w<w:=Nat.mod_lt _ hw0
 have h2:cell / w<r:=(Nat.div_lt_iff_lt_mul hw0).2 (hs2▸hc)
 have h3:w*(cell / w)+cell % w=cell:=Nat.div_add_mod cell w
 have h4:∀k,k<r→w*k+w≤r*w:=fun k hk=>by
  have:=Nat.mul_le_mul_left w (show k+1≤r from hk)
  rw [Nat.mul_add,Nat.mul_one,Nat.mul_comm w r] at this
  exact this
 refine ⟨⟨h1,h2⟩,fun h=> ?_,fun h=> ?_,fun n hn=> ?_,fun n hn=> ?_⟩
 ·have:=Nat.mod_le cell w;omega
 ·have:=Nat.mul_le_mul_left w (show 1≤cell / w from h)
  rw [Nat.mul_one] at this
  generalize w*(cell / w)=q2 at *
  generalize cell % w=q3 at *
  omega
 ·have:=h4 _ h2
  generalize w*(cell / w)=q2 at *
  generalize cell % w=q3 at *
  omega
 ·have h5:=h4 (cell / w+n) (by omega)
  rw [Nat.mul_add] at h5
  have h6:((n:Nat):Int)*g.Cols=((w*n:Nat):Int):=by rw [hw,Int.mul_comm];rfl
  rw [h6]
  generalize w*n=q at *
  generalize w*(cell / w)=q2 at *
  generalize cell % w=q3 at *
  omega
theorem QgX {g:D.Grid} {cell:Nat} (h:¬Qr g.Cells cell=46∨(0<cell % g.Cols.toNat∧Qr g.Cells (Int.toNat (((cell:Nat):Int) - 1))=46)):Qe2 g cell=0:=if_neg (by omega)
theorem Qg6 {g:D.Grid} {cell:Nat} (h:¬Qr g.Cells cell=46∨(0<cell / g.Cols.toNat∧Qr g.Cells (Int.toNat (((cell:Nat):Int) - g.Cols))=46)):Qe3 g cell=0:=if_neg (by omega)
theorem Qh7 {g:D.Grid} {cell n:Nat} (h:Qr g.Cells cell=46∧¬(0<cell % g.Cols.toNat∧Qr g.Cells (Int.toNat (((cell:Nat):Int) - 1))=46)) (hr:JS (slA g cell) 6 0=JS (slA g cell) (6 - n) n) (hn:¬slA g cell n):Qe2 g cell=n:=by
 rw [Qe2,if_pos h,hr,QgL hn]
theorem Qh5 {g:D.Grid} {cell n:Nat} (h:Qr g.Cells cell=46∧¬(0<cell / g.Cols.toNat∧Qr g.Cells (Int.toNat (((cell:Nat):Int) - g.Cols))=46)) (hr:JS (slD g cell) 6 0=JS (slD g cell) (6 - n) n) (hn:¬slD g cell n):Qe3 g cell=n:=by
 rw [Qe3,if_pos h,hr,QgL hn]
theorem zD {g:D.Grid} {cell:Nat} {down:Bool} (hd:down=true) (h:¬Qr g.Cells cell=46∨(0<cell / g.Cols.toNat∧Qr g.Cells (Int.toNat (((cell:Nat):Int) - g.Cols))=46)):(0:Int)=((Qn g cell down:Nat):Int):=by
 rw [Qn,if_pos hd,Qg6 h];rfl
theorem zA {g:D.Grid} {cell:Nat} {down:Bool} (hd:down=false) (h:¬Qr g.Cells cell=46∨(0<cell % g.Cols.toNat∧Qr g.Cells (Int.toNat (((cell:Nat):Int) - 1))=46)):(0:Int)=((Qn g cell down:Nat):Int):=by
 rw [Qn,if_neg (by simp [hd]),QgX h];rfl
def Yz (g:D.Grid) (cell:Nat) (down:Bool) (n:Nat):Prop:=if down=true then JS (slD g cell) 6 0=JS (slD g cell) (6 - n) n else JS (slA g cell) 6 0=JS (slA g cell) (6 - n) n
theorem Yf (g:D.Grid) (cell:Nat) (down:Bool):Yz g cell down 0:=by
 unfold Yz
 split<;>rfl
theorem rD {g:D.Grid} {cell n:Nat} {down:Bool} (hd:down=true) (h:Qr g.Cells cell=46∧¬(0<cell / g.Cols.toNat∧Qr g.Cells (Int.toNat (((cell:Nat):Int) - g.Cols))=46)) (hr:Yz g cell down n) (hn:¬slD g cell n):((n:Nat):Int)=((Qn g cell down:Nat):Int):=by
 rw [Yz,if_pos hd] at hr
 rw [Qn,if_pos hd,Qh5 h hr hn]
theorem rA {g:D.Grid} {cell n:Nat} {down:Bool} (hd:down=false) (h:Qr g.Cells cell=46∧¬(0<cell % g.Cols.toNat∧Qr g.Cells (Int.toNat (((cell:Nat):Int) - 1))=46)) (hr:Yz g cell down n) (hn:¬slA g cell n):((n:Nat):Int)=((Qn g cell down:Nat):Int):=by
 rw [Yz,if_neg (by simp [hd])] at hr
 rw [Qn,if_neg (by simp [hd]),Qh7 h hr hn]
theorem Qhx {g:D.Grid} {cell n:Nat} {down:Bool} (hd:down=true) (hr:Yz g cell down n) (hn:slD g cell n) (h6:n<6):Yz g cell down (n+1):=by
 rw [Yz,if_pos hd] at *
 rw [hr,Qe6 hn h6]
theorem QhG {g:D.Grid} {cell n:Nat} {down:Bool} (hd:down=false) (hr:Yz g cell down n) (hn:slA g cell n) (h6:n<6):Yz g cell down (n+1):=by
 rw [Yz,if_neg (by simp [hd])] at *
 rw [hr,Qe6 hn h6]
end
theorem Qa3 (n:Nat) (g:D.Grid) (cell:Nat) (down:Bool) (hg:gridOk g) (hc:cell<g.Cells.size):Pure (Qo Tryz.prog (n+1)) 72 [(T.agg (Qb false g)),(tN cell),(tB down)] (tN (Qn g cell down)):=by
 refine Pure.intro (rs:= [ResultVar.tmp 6]) Tryz.func72 rfl rfl rfl (E0:= [(0,(T.agg (Qb false g))),(1,(tN cell)),(2,(tB down))]) rfl ?_
 obtain ⟨hlim,hmx,hmax⟩:=QF
 have hsz:=hg.size
 have hA:=hg.1
 have hB:=hg.2.1
 obtain ⟨hC1,hC2,hC3,hC4,hC5⟩:=QaR hg hc
 have hq0:0≤((cell:Nat):Int) / ((g.Cols.toNat:Nat):Int):=Int.ediv_nonneg (by omega) (by omega)
 have hm0:0≤((cell:Nat):Int) % ((g.Cols.toNat:Nat):Int):=Int.emod_nonneg _ (by omega)
 refine sr (kO (B.box (ts:=(Qb false g)) (tv (T.agg (Qb false g)) rfl) nofun rfl) (fO (OF.assign (VEv.int .i64 0)) (nt (sr (fO (OF.assign (VEv.int .i64 1)) (nt (sr (mO (tN cell) rfl (lf (tI g.Cols) rfl Za rfl rfl QV (fO (B.rem (n:=((cell % g.Cols.toNat:Nat):Int)) (tv (tN cell) rfl) (tv (tI g.Cols) rfl) (by omega) (by (refine Qj7 ?_;omega))) (aO (tN (cell % g.Cols.toNat)) rfl ?_)))))))))))
 refine nt (sr (lf (tI g.Cols) rfl Za rfl rfl QV (aO (tI g.Cols) rfl (nt (sq (sr (mO (tB down) rfl (nt ?_))))))))
 refine VRun.cond (tv (tB down) rfl) (fun hc0=> ?_) (fun hc0=> ?_)
 ·have fhc0:down=true:=hc0
  refine sr (lf (tI g.Cols) rfl Za rfl rfl QV (aO (tI g.Cols) rfl (nt (sr (mO (tN cell) rfl (lf (tI g.Cols) rfl Za rfl rfl QV (fO (B.quo (n:=((cell / g.Cols.toNat:Nat):Int)) (tv (tN cell) rfl) (tv (tI g.Cols) rfl) (by omega) (by (refine QkN ?_ ?_<;>omega))) (aO (tN (cell / g.Cols.toNat)) rfl (nt (VRun.region (lf (tI g.Rows) rfl JG rfl rfl QV ?_)))))))))))
  refine aO (tI g.Rows) rfl (VRunO.nil (tn (sq (sr (lf (tS g.Cells) rfl Qy rfl rfl ZN (mO (tN cell) rfl ?_))))))
  have hb1:cell<g.Cells.size:=(by omega)
  refine fO (Js (tv (tS g.Cells) rfl) (tv (tN cell) rfl) hb1 U9) (fO (xne (tv (T.int .u8 (Qr g.Cells cell)) rfl) (VEv.int .u8 46)) (mO (tB (!(decide (Qr g.Cells cell=46)))) rfl ?_))
  refine gn (Qr g.Cells cell=46) (fun fhg31_2=> ?_) fun fhg31_2=> ?_
  ·refine Qx 3 5 false 31 (ny fhg31_2) rfl rfl rfl ?_
   refine JK 7 8 true 34 rfl rfl rfl (oO rfl rfl (ny fhg31_2) (fO (OF.pickT (VEv.tmpB rfl (ny fhg31_2)) (VEv.bool true)) (nt (ct rfl (sr (fO (OF.assign (VEv.int .i64 0)) (nt (rt (tr (vi (n':=0) rfl ?_))))))))))
   (refine zD fhc0 ?_;omega)
  refine gF (nz fhg31_2) rfl rfl (OF.move (tv (tN (cell / g.Cols.toNat)) rfl)) (gF (nz fhg31_2) rfl rfl (B.gtr (c:=(decide (0<cell / g.Cols.toNat))) (tv (tN (cell / g.Cols.toNat)) rfl) (VEv.int .i64 0) (by exact Q4 (by omega))) (gF (nz fhg31_2) rfl rfl (OF.move (tv (tB (decide (0<cell / g.Cols.toNat))) rfl)) ?_))
  refine gw (0<cell / g.Cols.toNat) (fun fhg34_3=> ?_) fun fhg34_3=> ?_
  ·refine ZV (tS g.Cells) (dy fhg34_3) rfl rfl rfl rfl Qy rfl rfl ZN ?_
   refine gF (dy fhg34_3) rfl rfl (OF.move (tv (tN cell) rfl)) (gF (dy fhg34_3) rfl rfl (OF.move (tv (tI g.Cols) rfl)) (gF (dy fhg34_3) rfl rfl (B.sub (n:=(((cell:Nat):Int) - g.Cols)) (tv (tN cell) rfl) (tv (tI g.Cols) rfl) (by (rw [Qs (by omega)];done))) ?_))
   have hb4:(Int.toNat (((cell:Nat):Int) - g.Cols))<g.Cells.size:=(by omega)
   refine gF (dy fhg34_3) rfl rfl (B.index (n:=(Qr g.Cells (Int.toNat (((cell:Nat):Int) - g.Cols)))) (i:=(Int.toNat (((cell:Nat):Int) - g.Cols))) (tv (tS g.Cells) rfl) (tv (tI (((cell:Nat):Int) - g.Cols)) rfl) (by omega) hb4 U9 (Yd hb4)) (gF (dy fhg34_3) rfl rfl (YF (tv (T.int .u8 (Qr g.Cells (Int.toNat (((cell:Nat):Int) - g.Cols)))) rfl) (VEv.int .u8 46)) (gF (nz fhg31_2) rfl rfl (OF.pickT (VEv.tmpB rfl (dy fhg34_3)) (tv (tB (decide (Qr g.Cells (Int.toNat (((cell:Nat):Int) - g.Cols))=46))) rfl)) (fO (OF.pickF (VEv.tmpB rfl (nz fhg31_2)) (tv (tB (decide (Qr g.Cells (Int.toNat (((cell:Nat):Int) - g.Cols))=46))) rfl)) (nt ?_))))
   refine cd (Qr g.Cells (Int.toNat (((cell:Nat):Int) - g.Cols))=46) rfl (fun fhc1=> ?_) fun fhc1=> ?_
   ·refine sr ?_
    refine fO (OF.assign (VEv.int .i64 0)) (nt (rt (tr (vi (n':=0) rfl ?_))))
    (refine zD fhc0 ?_;omega)
   refine sk (tn (sr (fO (OF.assign (VEv.int .i64 0)) (nt (sq (VRun.block ?_))))))
   refine VRun.loop (A:=Nat) (fun s_=> [(1,(tN cell)),(3,(T.op 0 0)),(6,(tN 0)),(7,(tI g.Cols)),(8,(tN (cell / g.Cols.toNat))),(9,(tI g.Rows)),(10,(tN s_))]) (fun s_=>Q0 [(0,(Obj.cells (Qb false g)))]) 1 (fun s_=>s_≤6∧Yz g cell down s_) (fun s_=>6 - s_) (0:Nat) ?_ (Wk.mk (fun k=>k) ?_ ?_ ?_) ?_
   ·exact ⟨Nat.zero_le _,Yf _ _ _⟩
   ·exact (b2 (b2 (b2 (b2 (b2 (b2 (b2 bn)))))))
   ·exact (b3 bn)
   ·exact nd rfl
   rintro n (hI':n≤6∧Yz g cell down n)
   show VRun _ _ _ [(1,(tN cell)),(3,(T.op 0 0)),(6,(tN 0)),(7,(tI g.Cols)),(8,(tN (cell / g.Cols.toNat))),(9,(tI g.Rows)),(10,(tN n))] (Q0 [(0,(Obj.cells (Qb false g)))]) 1 _
   have hI1:=hI'.1
   have hN:=Qde hI1 hB.1 hB.2
   have hC6:=hC4 n
   have hC7:=hC5 n
   refine sq (sr (mO (tN (cell / g.Cols.toNat)) rfl (mO (tN n) rfl (fO (B.add (n:=(((cell / g.Cols.toNat+n):Nat):Int)) (tv (tN (cell / g.Cols.toNat)) rfl) (tv (tN n) rfl) (by (rw [Qs (by omega)];omega))) (mO (tI g.Rows) rfl (fO (xls (tv (tN (cell / g.Cols.toNat+n)) rfl) (tv (tI g.Rows) rfl)) (mO (tB (decide ((((cell / g.Cols.toNat+n):Nat):Int)<g.Rows))) rfl ?_)))))))
   refine gw ((((cell / g.Cols.toNat+n):Nat):Int)<g.Rows) (fun fhg49_5=> ?_) fun fhg49_5=> ?_
   ·refine ZV (tS g.Cells) (dy fhg49_5) rfl rfl rfl rfl Qy rfl rfl ZN ?_
    refine gF (dy fhg49_5) rfl rfl (OF.move (tv (tN cell) rfl)) (gF (dy fhg49_5) rfl rfl (OF.move (tv (tN n) rfl)) (gF (dy fhg49_5) rfl rfl (OF.move (tv (tI g.Cols) rfl)) (gF (dy fhg49_5) rfl rfl (B.mul (n:=(((n:Nat):Int)*g.Cols)) (tv (tN n) rfl) (tv (tI g.Cols) rfl) (by (refine QeS ?_ ?_ ?_<;>omega))) (gF (dy fhg49_5) rfl rfl (B.add (n:=(((cell:Nat):Int)+(((n:Nat):Int)*g.Cols))) (tv (tN cell) rfl) (tv (tI (((n:Nat):Int)*g.Cols)) rfl) (by (rw [Qs (by omega)];done))) ?_))))
    have hb6:(Int.toNat (((cell:Nat):Int)+(((n:Nat):Int)*g.Cols)))<g.Cells.size:=(by omega)
    refine gF (dy fhg49_5) rfl rfl (B.index (n:=(Qr g.Cells (Int.toNat (((cell:Nat):Int)+(((n:Nat):Int)*g.Cols))))) (i:=(Int.toNat (((cell:Nat):Int)+(((n:Nat):Int)*g.Cols)))) (tv (tS g.Cells) rfl) (tv (tI (((cell:Nat):Int)+(((n:Nat):Int)*g.Cols))) rfl) (by omega) hb6 U9 (Yd hb6)) (gF (dy fhg49_5) rfl rfl (YF (tv (T.int .u8 (Qr g.Cells (Int.toNat (((cell:Nat):Int)+(((n:Nat):Int)*g.Cols))))) rfl) (VEv.int .u8 46)) (fO (OF.pickT (VEv.tmpB rfl (dy fhg49_5)) (tv (tB (decide (Qr g.Cells (Int.toNat (((cell:Nat):Int)+(((n:Nat):Int)*g.Cols)))=46))) rfl)) (nt ?_)))
    refine cd (Qr g.Cells (Int.toNat (((cell:Nat):Int)+(((n:Nat):Int)*g.Cols)))=46) rfl (fun fhc2=> ?_) fun fhc2=> ?_
    ·refine sk ?_
     refine tn (VRun.block (VRun.region (mO (tN n) rfl (fO (QA (tv (tN n) rfl) (VEv.int .i64 1) (by omega)) (aO (tN (n+1)) rfl (VRunO.nil (vinB.n (tn ?_))))))))
     refine ⟨(n+1:Nat),?_,?_,Wk.mk (fun k=>k) ?_ ?_ ?_⟩
     ·(refine ⟨?_,Qhx fhc0 hI'.2 ?_ ?_⟩<;>first | omega | (unfold slD;omega))
     ·omega
     ·exact (b2 (b2 (b2 (b2 (b2 (b2 (b2 bn)))))))
     ·exact (b3 bn)
     ·exact nd rfl
    refine VRun.exit (vthn.e (vthn.e (vinB.e (tn (sr (mO (tN n) rfl (aO (tN n) rfl (nt (rt (vi (n':=((n:Nat):Int)) rfl ?_))))))))))
    (refine rD fhc0 ?_ hI'.2 ?_<;>first | omega | (unfold slD;omega))
   refine Qx 9 5 true 49 (dz fhg49_5) rfl rfl rfl (fO (OF.pickF (VEv.tmpB rfl (dz fhg49_5)) (VEv.bool false)) (nt (cf rfl (VRun.exit (vthn.e (vthn.e (vinB.e (tn (sr (mO (tN n) rfl (aO (tN n) rfl ?_)))))))))))
   refine nt (rt (vi (n':=((n:Nat):Int)) rfl ?_))
   (refine rD fhc0 ?_ hI'.2 ?_<;>first | omega | (unfold slD;omega))
  refine Qx 7 8 true 34 (dz fhg34_3) rfl rfl rfl (gF (nz fhg31_2) rfl rfl (OF.pickF (VEv.tmpB rfl (dz fhg34_3)) (VEv.bool false)) (fO (OF.pickF (VEv.tmpB rfl (nz fhg31_2)) (tv (tB false) rfl)) (nt (cf rfl (sk (tn (sr (fO (OF.assign (VEv.int .i64 0)) (nt (sq (VRun.block ?_)))))))))))
  refine VRun.loop (A:=Nat) (fun s_=> [(1,(tN cell)),(3,(T.op 0 0)),(6,(tN 0)),(7,(tI g.Cols)),(8,(tN (cell / g.Cols.toNat))),(9,(tI g.Rows)),(10,(tN s_))]) (fun s_=>Q0 [(0,(Obj.cells (Qb false g)))]) 1 (fun s_=>s_≤6∧Yz g cell down s_) (fun s_=>6 - s_) (0:Nat) ?_ (Wk.mk (fun k=>k) ?_ ?_ ?_) ?_
  ·exact ⟨Nat.zero_le _,Yf _ _ _⟩
  ·exact (b2 (b2 (b2 (b2 (b2 (b2 (b2 bn)))))))
  ·exact (b3 bn)
  ·exact nd rfl
  rintro n (hI':n≤6∧Yz g cell down n)
  show VRun _ _ _ [(1,(tN cell)),(3,(T.op 0 0)),(6,(tN 0)),(7,(tI g.Cols)),(8,(tN (cell / g.Cols.toNat))),(9,(tI g.Rows)),(10,(tN n))] (Q0 [(0,(Obj.cells (Qb false g)))]) 1 _
  have hI1:=hI'.1
  have hN:=Qde hI1 hB.1 hB.2
  have hC6:=hC4 n
  have hC7:=hC5 n
  refine sq (sr (mO (tN (cell / g.Cols.toNat)) rfl (mO (tN n) rfl (fO (B.add (n:=(((cell / g.Cols.toNat+n):Nat):Int)) (tv (tN (cell / g.Cols.toNat)) rfl) (tv (tN n) rfl) (by (rw [Qs (by omega)];omega))) (mO (tI g.Rows) rfl (fO (xls (tv (tN (cell / g.Cols.toNat+n)) rfl) (tv (tI g.Rows) rfl)) (mO (tB (decide ((((cell / g.Cols.toNat+n):Nat):Int)<g.Rows))) rfl ?_)))))))
  refine gw ((((cell / g.Cols.toNat+n):Nat):Int)<g.Rows) (fun fhg49_7=> ?_) fun fhg49_7=> ?_
  ·refine ZV (tS g.Cells) (dy fhg49_7) rfl rfl rfl rfl Qy rfl rfl ZN ?_
   refine gF (dy fhg49_7) rfl rfl (OF.move (tv (tN cell) rfl)) (gF (dy fhg49_7) rfl rfl (OF.move (tv (tN n) rfl)) (gF (dy fhg49_7) rfl rfl (OF.move (tv (tI g.Cols) rfl)) (gF (dy fhg49_7) rfl rfl (B.mul (n:=(((n:Nat):Int)*g.Cols)) (tv (tN n) rfl) (tv (tI g.Cols) rfl) (by (refine QeS ?_ ?_ ?_<;>omega))) (gF (dy fhg49_7) rfl rfl (B.add (n:=(((cell:Nat):Int)+(((n:Nat):Int)*g.Cols))) (tv (tN cell) rfl) (tv (tI (((n:Nat):Int)*g.Cols)) rfl) (by (rw [Qs (by omega)];done))) ?_))))
   have hb8:(Int.toNat (((cell:Nat):Int)+(((n:Nat):Int)*g.Cols)))<g.Cells.size:=(by omega)
   refine gF (dy fhg49_7) rfl rfl (B.index (n:=(Qr g.Cells (Int.toNat (((cell:Nat):Int)+(((n:Nat):Int)*g.Cols))))) (i:=(Int.toNat (((cell:Nat):Int)+(((n:Nat):Int)*g.Cols)))) (tv (tS g.Cells) rfl) (tv (tI (((cell:Nat):Int)+(((n:Nat):Int)*g.Cols))) rfl) (by omega) hb8 U9 (Yd hb8)) (gF (dy fhg49_7) rfl rfl (YF (tv (T.int .u8 (Qr g.Cells (Int.toNat (((cell:Nat):Int)+(((n:Nat):Int)*g.Cols))))) rfl) (VEv.int .u8 46)) (fO (OF.pickT (VEv.tmpB rfl (dy fhg49_7)) (tv (tB (decide (Qr g.Cells (Int.toNat (((cell:Nat):Int)+(((n:Nat):Int)*g.Cols)))=46))) rfl)) (nt ?_)))
   refine cd (Qr g.Cells (Int.toNat (((cell:Nat):Int)+(((n:Nat):Int)*g.Cols)))=46) rfl (fun fhc2=> ?_) fun fhc2=> ?_
   ·refine sk ?_
    refine tn (VRun.block (VRun.region (mO (tN n) rfl (fO (QA (tv (tN n) rfl) (VEv.int .i64 1) (by omega)) (aO (tN (n+1)) rfl (VRunO.nil (vinB.n (tn ?_))))))))
    refine ⟨(n+1:Nat),?_,?_,Wk.mk (fun k=>k) ?_ ?_ ?_⟩
    ·(refine ⟨?_,Qhx fhc0 hI'.2 ?_ ?_⟩<;>first | omega | (unfold slD;omega))
    ·omega
    ·exact (b2 (b2 (b2 (b2 (b2 (b2 (b2 bn)))))))
    ·exact (b3 bn)
    ·exact nd rfl
   refine VRun.exit (vthn.e (vthn.e (vinB.e (tn (sr (mO (tN n) rfl (aO (tN n) rfl (nt (rt (vi (n':=((n:Nat):Int)) rfl ?_))))))))))
   (refine rD fhc0 ?_ hI'.2 ?_<;>first | omega | (unfold slD;omega))
  refine Qx 9 5 true 49 (dz fhg49_7) rfl rfl rfl (fO (OF.pickF (VEv.tmpB rfl (dz fhg49_7)) (VEv.bool false)) (nt (cf rfl (VRun.exit (vthn.e (vthn.e (vinB.e (tn (sr (mO (tN n) rfl (aO (tN n) rfl ?_)))))))))))
  refine nt (rt (vi (n':=((n:Nat):Int)) rfl ?_))
  (refine rD fhc0 ?_ hI'.2 ?_<;>first | omega | (unfold slD;omega))
 have fhc0:down=false:=hc0
 refine sk (tn (sq (sr (lf (tS g.Cells) rfl Qy rfl rfl ZN (mO (tN cell) rfl ?_)))))
 have hb9:cell<g.Cells.size:=(by omega)
 refine fO (Js (tv (tS g.Cells) rfl) (tv (tN cell) rfl) hb9 U9) (fO (xne (tv (T.int .u8 (Qr g.Cells cell)) rfl) (VEv.int .u8 46)) (mO (tB (!(decide (Qr g.Cells cell=46)))) rfl ?_))
 refine gn (Qr g.Cells cell=46) (fun fhg31_10=> ?_) fun fhg31_10=> ?_
 ·refine Qx 3 5 false 31 (ny fhg31_10) rfl rfl rfl ?_
  refine JK 7 8 true 34 rfl rfl rfl (oO rfl rfl (ny fhg31_10) (fO (OF.pickT (VEv.tmpB rfl (ny fhg31_10)) (VEv.bool true)) (nt (ct rfl (sr (fO (OF.assign (VEv.int .i64 0)) (nt (rt (tr (vi (n':=0) rfl ?_))))))))))
  (refine zA fhc0 ?_;omega)
 refine gF (nz fhg31_10) rfl rfl (OF.move (tv (tN (cell % g.Cols.toNat)) rfl)) (gF (nz fhg31_10) rfl rfl (B.gtr (c:=(decide (0<cell % g.Cols.toNat))) (tv (tN (cell % g.Cols.toNat)) rfl) (VEv.int .i64 0) (by exact Q4 (by omega))) (gF (nz fhg31_10) rfl rfl (OF.move (tv (tB (decide (0<cell % g.Cols.toNat))) rfl)) ?_))
 refine gw (0<cell % g.Cols.toNat) (fun fhg34_11=> ?_) fun fhg34_11=> ?_
 ·refine ZV (tS g.Cells) (dy fhg34_11) rfl rfl rfl rfl Qy rfl rfl ZN ?_
  refine gF (dy fhg34_11) rfl rfl (OF.move (tv (tN cell) rfl)) (gF (dy fhg34_11) rfl rfl (OF.move (tv (tN 1) rfl)) (gF (dy fhg34_11) rfl rfl (B.sub (n:=(((cell:Nat):Int) - 1)) (tv (tN cell) rfl) (tv (tN 1) rfl) (by (rw [Qs (by omega)];omega))) ?_))
  have hb12:(Int.toNat (((cell:Nat):Int) - 1))<g.Cells.size:=(by omega)
  refine gF (dy fhg34_11) rfl rfl (B.index (n:=(Qr g.Cells (Int.toNat (((cell:Nat):Int) - 1)))) (i:=(Int.toNat (((cell:Nat):Int) - 1))) (tv (tS g.Cells) rfl) (tv (tI (((cell:Nat):Int) - 1)) rfl) (by omega) hb12 U9 (Yd hb12)) (gF (dy fhg34_11) rfl rfl (YF (tv (T.int .u8 (Qr g.Cells (Int.toNat (((cell:Nat):Int) - 1)))) rfl) (VEv.int .u8 46)) (gF (nz fhg31_10) rfl rfl (OF.pickT (VEv.tmpB rfl (dy fhg34_11)) (tv (tB (decide (Qr g.Cells (Int.toNat (((cell:Nat):Int) - 1))=46))) rfl)) (fO (OF.pickF (VEv.tmpB rfl (nz fhg31_10)) (tv (tB (decide (Qr g.Cells (Int.toNat (((cell:Nat):Int) - 1))=46))) rfl)) (nt ?_))))
  refine cd (Qr g.Cells (Int.toNat (((cell:Nat):Int) - 1))=46) rfl (fun fhc1=> ?_) fun fhc1=> ?_
  ·refine sr ?_
   refine fO (OF.assign (VEv.int .i64 0)) (nt (rt (tr (vi (n':=0) rfl ?_))))
   (refine zA fhc0 ?_;omega)
  refine sk (tn (sr (fO (OF.assign (VEv.int .i64 0)) (nt (sq (VRun.block ?_))))))
  refine VRun.loop (A:=Nat) (fun s_=> [(1,(tN cell)),(3,(T.op 0 0)),(6,(tN 0)),(7,(tN 1)),(8,(tN (cell % g.Cols.toNat))),(9,(tI g.Cols)),(10,(tN s_))]) (fun s_=>Q0 [(0,(Obj.cells (Qb false g)))]) 1 (fun s_=>s_≤6∧Yz g cell down s_) (fun s_=>6 - s_) (0:Nat) ?_ (Wk.mk (fun k=>k) ?_ ?_ ?_) ?_
  ·exact ⟨Nat.zero_le _,Yf _ _ _⟩
  ·exact (b2 (b2 (b2 (b2 (b2 (b2 (b2 bn)))))))
  ·exact (b3 bn)
  ·exact nd rfl
  rintro n (hI':n≤6∧Yz g cell down n)
  show VRun _ _ _ [(1,(tN cell)),(3,(T.op 0 0)),(6,(tN 0)),(7,(tN 1)),(8,(tN (cell % g.Cols.toNat))),(9,(tI g.Cols)),(10,(tN n))] (Q0 [(0,(Obj.cells (Qb false g)))]) 1 _
  have hI1:=hI'.1
  have hN:=Qde hI1 hB.1 hB.2
  have hC6:=hC4 n
  have hC7:=hC5 n
  refine sq (sr (mO (tN (cell % g.Cols.toNat)) rfl (mO (tN n) rfl (fO (B.add (n:=(((cell % g.Cols.toNat+n):Nat):Int)) (tv (tN (cell % g.Cols.toNat)) rfl) (tv (tN n) rfl) (by (rw [Qs (by omega)];omega))) (mO (tI g.Cols) rfl (fO (xls (tv (tN (cell % g.Cols.toNat+n)) rfl) (tv (tI g.Cols) rfl)) (mO (tB (decide ((((cell % g.Cols.toNat+n):Nat):Int)<g.Cols))) rfl ?_)))))))
  refine gw ((((cell % g.Cols.toNat+n):Nat):Int)<g.Cols) (fun fhg49_13=> ?_) fun fhg49_13=> ?_
  ·refine ZV (tS g.Cells) (dy fhg49_13) rfl rfl rfl rfl Qy rfl rfl ZN ?_
   refine gF (dy fhg49_13) rfl rfl (OF.move (tv (tN cell) rfl)) (gF (dy fhg49_13) rfl rfl (OF.move (tv (tN n) rfl)) (gF (dy fhg49_13) rfl rfl (OF.move (tv (tN 1) rfl)) (gF (dy fhg49_13) rfl rfl (B.mul (n:=(((n*1):Nat):Int)) (tv (tN n) rfl) (tv (tN 1) rfl) (by (rw [Qs (by omega)];omega))) (gF (dy fhg49_13) rfl rfl (B.add (n:=(((cell+(n*1)):Nat):Int)) (tv (tN cell) rfl) (tv (tN (n*1)) rfl) (by (rw [Qs (by omega)];omega))) ?_))))
   have hb14:(cell+(n*1))<g.Cells.size:=(by omega)
   refine gF (dy fhg49_13) rfl rfl (Js (tv (tS g.Cells) rfl) (tv (tN (cell+(n*1))) rfl) hb14 U9) (gF (dy fhg49_13) rfl rfl (YF (tv (T.int .u8 (Qr g.Cells (cell+(n*1)))) rfl) (VEv.int .u8 46)) (fO (OF.pickT (VEv.tmpB rfl (dy fhg49_13)) (tv (tB (decide (Qr g.Cells (cell+(n*1))=46))) rfl)) (nt ?_)))
   refine cd (Qr g.Cells (cell+(n*1))=46) rfl (fun fhc2=> ?_) fun fhc2=> ?_
   ·refine sk ?_
    refine tn (VRun.block (VRun.region (mO (tN n) rfl (fO (QA (tv (tN n) rfl) (VEv.int .i64 1) (by omega)) (aO (tN (n+1)) rfl (VRunO.nil (vinB.n (tn ?_))))))))
    refine ⟨(n+1:Nat),?_,?_,Wk.mk (fun k=>k) ?_ ?_ ?_⟩
    ·(refine ⟨?_,QhG fhc0 hI'.2 ?_ ?_⟩<;>first | omega | (unfold slA;omega))
    ·omega
    ·exact (b2 (b2 (b2 (b2 (b2 (b2 (b2 bn)))))))
    ·exact (b3 bn)
    ·exact nd rfl
   refine VRun.exit (vthn.e (vthn.e (vinB.e (tn (sr (mO (tN n) rfl (aO (tN n) rfl (nt (rt (vi (n':=((n:Nat):Int)) rfl ?_))))))))))
   (refine rA fhc0 ?_ hI'.2 ?_<;>first | omega | (unfold slA;omega))
  refine Qx 9 5 true 49 (dz fhg49_13) rfl rfl rfl (fO (OF.pickF (VEv.tmpB rfl (dz fhg49_13)) (VEv.bool false)) (nt (cf rfl (VRun.exit (vthn.e (vthn.e (vinB.e (tn (sr (mO (tN n) rfl (aO (tN n) rfl ?_)))))))))))
  refine nt (rt (vi (n':=((n:Nat):Int)) rfl ?_))
  (refine rA fhc0 ?_ hI'.2 ?_<;>first | omega | (unfold slA;omega))
 refine Qx 7 8 true 34 (dz fhg34_11) rfl rfl rfl (gF (nz fhg31_10) rfl rfl (OF.pickF (VEv.tmpB rfl (dz fhg34_11)) (VEv.bool false)) (fO (OF.pickF (VEv.tmpB rfl (nz fhg31_10)) (tv (tB false) rfl)) (nt (cf rfl (sk (tn (sr (fO (OF.assign (VEv.int .i64 0)) (nt (sq (VRun.block ?_)))))))))))
 refine VRun.loop (A:=Nat) (fun s_=> [(1,(tN cell)),(3,(T.op 0 0)),(6,(tN 0)),(7,(tN 1)),(8,(tN (cell % g.Cols.toNat))),(9,(tI g.Cols)),(10,(tN s_))]) (fun s_=>Q0 [(0,(Obj.cells (Qb false g)))]) 1 (fun s_=>s_≤6∧Yz g cell down s_) (fun s_=>6 - s_) (0:Nat) ?_ (Wk.mk (fun k=>k) ?_ ?_ ?_) ?_
 ·exact ⟨Nat.zero_le _,Yf _ _ _⟩
 ·exact (b2 (b2 (b2 (b2 (b2 (b2 (b2 bn)))))))
 ·exact (b3 bn)
 ·exact nd rfl
 rintro n (hI':n≤6∧Yz g cell down n)
 show VRun _ _ _ [(1,(tN cell)),(3,(T.op 0 0)),(6,(tN 0)),(7,(tN 1)),(8,(tN (cell % g.Cols.toNat))),(9,(tI g.Cols)),(10,(tN n))] (Q0 [(0,(Obj.cells (Qb false g)))]) 1 _
 have hI1:=hI'.1
 have hN:=Qde hI1 hB.1 hB.2
 have hC6:=hC4 n
 have hC7:=hC5 n
 refine sq (sr (mO (tN (cell % g.Cols.toNat)) rfl (mO (tN n) rfl (fO (B.add (n:=(((cell % g.Cols.toNat+n):Nat):Int)) (tv (tN (cell % g.Cols.toNat)) rfl) (tv (tN n) rfl) (by (rw [Qs (by omega)];omega))) (mO (tI g.Cols) rfl (fO (xls (tv (tN (cell % g.Cols.toNat+n)) rfl) (tv (tI g.Cols) rfl)) (mO (tB (decide ((((cell % g.Cols.toNat+n):Nat):Int)<g.Cols))) rfl ?_)))))))
 refine gw ((((cell % g.Cols.toNat+n):Nat):Int)<g.Cols) (fun fhg49_15=> ?_) fun fhg49_15=> ?_
 ·refine ZV (tS g.Cells) (dy fhg49_15) rfl rfl rfl rfl Qy rfl rfl ZN ?_
  refine gF (dy fhg49_15) rfl rfl (OF.move (tv (tN cell) rfl)) (gF (dy fhg49_15) rfl rfl (OF.move (tv (tN n) rfl)) (gF (dy fhg49_15) rfl rfl (OF.move (tv (tN 1) rfl)) (gF (dy fhg49_15) rfl rfl (B.mul (n:=(((n*1):Nat):Int)) (tv (tN n) rfl) (tv (tN 1) rfl) (by (rw [Qs (by omega)];omega))) (gF (dy fhg49_15) rfl rfl (B.add (n:=(((cell+(n*1)):Nat):Int)) (tv (tN cell) rfl) (tv (tN (n*1)) rfl) (by (rw [Qs (by omega)];omega))) ?_))))
  have hb16:(cell+(n*1))<g.Cells.size:=(by omega)
  refine gF (dy fhg49_15) rfl rfl (Js (tv (tS g.Cells) rfl) (tv (tN (cell+(n*1))) rfl) hb16 U9) (gF (dy fhg49_15) rfl rfl (YF (tv (T.int .u8 (Qr g.Cells (cell+(n*1)))) rfl) (VEv.int .u8 46)) (fO (OF.pickT (VEv.tmpB rfl (dy fhg49_15)) (tv (tB (decide (Qr g.Cells (cell+(n*1))=46))) rfl)) (nt ?_)))
  refine cd (Qr g.Cells (cell+(n*1))=46) rfl (fun fhc2=> ?_) fun fhc2=> ?_
  ·refine sk ?_
   refine tn (VRun.block (VRun.region (mO (tN n) rfl (fO (QA (tv (tN n) rfl) (VEv.int .i64 1) (by omega)) (aO (tN (n+1)) rfl (VRunO.nil (vinB.n (tn ?_))))))))
   refine ⟨(n+1:Nat),?_,?_,Wk.mk (fun k=>k) ?_ ?_ ?_⟩
   ·(refine ⟨?_,QhG fhc0 hI'.2 ?_ ?_⟩<;>first | omega | (unfold slA;omega))
   ·omega
   ·exact (b2 (b2 (b2 (b2 (b2 (b2 (b2 bn)))))))
   ·exact (b3 bn)
   ·exact nd rfl
  refine VRun.exit (vthn.e (vthn.e (vinB.e (tn (sr (mO (tN n) rfl (aO (tN n) rfl (nt (rt (vi (n':=((n:Nat):Int)) rfl ?_))))))))))
  (refine rA fhc0 ?_ hI'.2 ?_<;>first | omega | (unfold slA;omega))
 refine Qx 9 5 true 49 (dz fhg49_15) rfl rfl rfl (fO (OF.pickF (VEv.tmpB rfl (dz fhg49_15)) (VEv.bool false)) (nt (cf rfl (VRun.exit (vthn.e (vthn.e (vinB.e (tn (sr (mO (tN n) rfl (aO (tN n) rfl ?_)))))))))))
 refine nt (rt (vi (n':=((n:Nat):Int)) rfl ?_))
 (refine rA fhc0 ?_ hI'.2 ?_<;>first | omega | (unfold slA;omega))
theorem Qd9 (n:Nat) (g:D.Grid) (cell:Nat) (down:Bool) (hg:gridOk g) (hc:cell<g.Cells.size):Pure (Qo Tryz.prog (n+1)) 82 [(T.agg (Qb false g)),(tN cell),(tB down)] (tN (Qn g cell down)):=by
 refine Pure.intro (rs:= [ResultVar.tmp 6]) Tryz.func82 rfl rfl rfl (E0:= [(0,(T.agg (Qb false g))),(1,(tN cell)),(2,(tB down))]) rfl ?_
 obtain ⟨hlim,hmx,hmax⟩:=QF
 have hsz:=hg.size
 have hA:=hg.1
 have hB:=hg.2.1
 obtain ⟨hC1,hC2,hC3,hC4,hC5⟩:=QaR hg hc
 have hq0:0≤((cell:Nat):Int) / ((g.Cols.toNat:Nat):Int):=Int.ediv_nonneg (by omega) (by omega)
 have hm0:0≤((cell:Nat):Int) % ((g.Cols.toNat:Nat):Int):=Int.emod_nonneg _ (by omega)
 refine sr (kO (B.box (ts:=(Qb false g)) (tv (T.agg (Qb false g)) rfl) nofun rfl) (fO (OF.assign (VEv.int .i64 0)) (nt (sq (VRun.draw (B:= [[],[],[1],[1,2,0],[],[4],[],[6,0,2,1,3],[3,1,2,0,6,7,4,5]]) (by kernel_rfl) (by kernel_rfl) (mD (tN cell) rfl rfl (fD (OF.fieldAddrO (tv (T.op 0 0) rfl) Za) rfl rfl (lD (OL.loadO1 (t:=(tI g.Cols)) (tv (T.op 0 1) rfl) rfl rfl QV) rfl rfl (fD (B.rem (n:=((cell % g.Cols.toNat:Nat):Int)) (tv (tN cell) rfl) (tv (tI g.Cols) rfl) (by omega) (by (refine Qj7 ?_;omega))) rfl rfl (fD (OF.fieldAddrO (tv (T.op 0 0) rfl) Za) rfl rfl (lD (OL.loadO1 (t:=(tI g.Cols)) (tv (T.op 0 1) rfl) rfl rfl QV) rfl rfl ?_)))))))))))
 refine fD (OF.assign (VEv.int .i64 1)) rfl rfl (fD (OF.assign (tv (tN (cell % g.Cols.toNat)) rfl)) rfl rfl (fD (OF.assign (tv (tI g.Cols) rfl)) rfl rfl (VRunD.nil (tn (sq (sr (mO (tB down) rfl (nt ?_))))))))
 refine VRun.cond (tv (tB down) rfl) (fun hc0=> ?_) (fun hc0=> ?_)
 ·have fhc0:down=true:=hc0
  refine VRun.draw (B:= [[],[0],[],[],[3],[3,4,2],[],[6],[0,1],[1,0,8,2,4,3,5],[5,3,4,2,8,0,1,9,6,7]]) (by kernel_rfl) (by kernel_rfl) (fD (OF.fieldAddrO (tv (T.op 0 0) rfl) Za) rfl rfl (lD (OL.loadO1 (t:=(tI g.Cols)) (tv (T.op 0 1) rfl) rfl rfl QV) rfl rfl (mD (tN cell) rfl rfl (fD (OF.fieldAddrO (tv (T.op 0 0) rfl) Za) rfl rfl (lD (OL.loadO1 (t:=(tI g.Cols)) (tv (T.op 0 1) rfl) rfl rfl QV) rfl rfl (fD (B.quo (n:=((cell / g.Cols.toNat:Nat):Int)) (tv (tN cell) rfl) (tv (tI g.Cols) rfl) (by omega) (by (refine QkN ?_ ?_<;>omega))) rfl rfl (fD (OF.fieldAddrO (tv (T.op 0 0) rfl) JG) rfl rfl (lD (OL.loadO1 (t:=(tI g.Rows)) (tv (T.op 0 0) rfl) rfl rfl QV) rfl rfl (fD (OF.assign (tv (tI g.Cols) rfl)) rfl rfl (fD (OF.assign (tv (tN (cell / g.Cols.toNat)) rfl)) rfl rfl (fD (OF.assign (tv (tI g.Rows) rfl)) rfl rfl ?_)))))))))))
  refine VRunD.nil (tn (sq (sr (lf (tS g.Cells) rfl Qy rfl rfl ZN (mO (tN cell) rfl ?_)))))
  have hb1:cell<g.Cells.size:=(by omega)
  refine fO (Js (tv (tS g.Cells) rfl) (tv (tN cell) rfl) hb1 U9) (fO (xne (tv (T.int .u8 (Qr g.Cells cell)) rfl) (VEv.int .u8 46)) (mO (tB (!(decide (Qr g.Cells cell=46)))) rfl ?_))
  refine gn (Qr g.Cells cell=46) (fun fhg31_2=> ?_) fun fhg31_2=> ?_
  ·refine Qx 3 5 false 31 (ny fhg31_2) rfl rfl rfl ?_
   refine JK 7 8 true 34 rfl rfl rfl (oO rfl rfl (ny fhg31_2) (fO (OF.pickT (VEv.tmpB rfl (ny fhg31_2)) (VEv.bool true)) (nt (ct rfl (sr (fO (OF.assign (VEv.int .i64 0)) (nt (rt (tr (vi (n':=0) rfl ?_))))))))))
   (refine zD fhc0 ?_;omega)
  refine gF (nz fhg31_2) rfl rfl (OF.move (tv (tN (cell / g.Cols.toNat)) rfl)) (gF (nz fhg31_2) rfl rfl (B.gtr (c:=(decide (0<cell / g.Cols.toNat))) (tv (tN (cell / g.Cols.toNat)) rfl) (VEv.int .i64 0) (by exact Q4 (by omega))) (gF (nz fhg31_2) rfl rfl (OF.move (tv (tB (decide (0<cell / g.Cols.toNat))) rfl)) ?_))
  refine gw (0<cell / g.Cols.toNat) (fun fhg34_3=> ?_) fun fhg34_3=> ?_
  ·refine ZV (tS g.Cells) (dy fhg34_3) rfl rfl rfl rfl Qy rfl rfl ZN ?_
   refine gF (dy fhg34_3) rfl rfl (OF.move (tv (tN cell) rfl)) (gF (dy fhg34_3) rfl rfl (OF.move (tv (tI g.Cols) rfl)) (gF (dy fhg34_3) rfl rfl (B.sub (n:=(((cell:Nat):Int) - g.Cols)) (tv (tN cell) rfl) (tv (tI g.Cols) rfl) (by (rw [Qs (by omega)];done))) ?_))
   have hb4:(Int.toNat (((cell:Nat):Int) - g.Cols))<g.Cells.size:=(by omega)
   refine gF (dy fhg34_3) rfl rfl (B.index (n:=(Qr g.Cells (Int.toNat (((cell:Nat):Int) - g.Cols)))) (i:=(Int.toNat (((cell:Nat):Int) - g.Cols))) (tv (tS g.Cells) rfl) (tv (tI (((cell:Nat):Int) - g.Cols)) rfl) (by omega) hb4 U9 (Yd hb4)) (gF (dy fhg34_3) rfl rfl (YF (tv (T.int .u8 (Qr g.Cells (Int.toNat (((cell:Nat):Int) - g.Cols)))) rfl) (VEv.int .u8 46)) (gF (nz fhg31_2) rfl rfl (OF.pickT (VEv.tmpB rfl (dy fhg34_3)) (tv (tB (decide (Qr g.Cells (Int.toNat (((cell:Nat):Int) - g.Cols))=46))) rfl)) (fO (OF.pickF (VEv.tmpB rfl (nz fhg31_2)) (tv (tB (decide (Qr g.Cells (Int.toNat (((cell:Nat):Int) - g.Cols))=46))) rfl)) (nt ?_))))
   refine cd (Qr g.Cells (Int.toNat (((cell:Nat):Int) - g.Cols))=46) rfl (fun fhc1=> ?_) fun fhc1=> ?_
   ·refine sr ?_
    refine fO (OF.assign (VEv.int .i64 0)) (nt (rt (tr (vi (n':=0) rfl ?_))))
    (refine zD fhc0 ?_;omega)
   refine sk (tn (sr (fO (OF.assign (VEv.int .i64 0)) (nt (sq (VRun.block ?_))))))
   refine VRun.loop (A:=Nat) (fun s_=> [(1,(tN cell)),(3,(T.op 0 0)),(6,(tN 0)),(7,(tI g.Cols)),(8,(tN (cell / g.Cols.toNat))),(9,(tI g.Rows)),(10,(tN s_))]) (fun s_=>Q0 [(0,(Obj.cells (Qb false g)))]) 1 (fun s_=>s_≤6∧Yz g cell down s_) (fun s_=>6 - s_) (0:Nat) ?_ (Wk.mk (fun k=>k) ?_ ?_ ?_) ?_
   ·exact ⟨Nat.zero_le _,Yf _ _ _⟩
   ·exact (b2 (b2 (b2 (b2 (b2 (b2 (b2 bn)))))))
   ·exact (b3 bn)
   ·exact nd rfl
   rintro n (hI':n≤6∧Yz g cell down n)
   show VRun _ _ _ [(1,(tN cell)),(3,(T.op 0 0)),(6,(tN 0)),(7,(tI g.Cols)),(8,(tN (cell / g.Cols.toNat))),(9,(tI g.Rows)),(10,(tN n))] (Q0 [(0,(Obj.cells (Qb false g)))]) 1 _
   have hI1:=hI'.1
   have hN:=Qde hI1 hB.1 hB.2
   have hC6:=hC4 n
   have hC7:=hC5 n
   refine sq (sr (mO (tN (cell / g.Cols.toNat)) rfl (mO (tN n) rfl (fO (B.add (n:=(((cell / g.Cols.toNat+n):Nat):Int)) (tv (tN (cell / g.Cols.toNat)) rfl) (tv (tN n) rfl) (by (rw [Qs (by omega)];omega))) (mO (tI g.Rows) rfl (fO (xls (tv (tN (cell / g.Cols.toNat+n)) rfl) (tv (tI g.Rows) rfl)) (mO (tB (decide ((((cell / g.Cols.toNat+n):Nat):Int)<g.Rows))) rfl ?_)))))))
   refine gw ((((cell / g.Cols.toNat+n):Nat):Int)<g.Rows) (fun fhg49_5=> ?_) fun fhg49_5=> ?_
   ·refine ZV (tS g.Cells) (dy fhg49_5) rfl rfl rfl rfl Qy rfl rfl ZN ?_
    refine gF (dy fhg49_5) rfl rfl (OF.move (tv (tN cell) rfl)) (gF (dy fhg49_5) rfl rfl (OF.move (tv (tN n) rfl)) (gF (dy fhg49_5) rfl rfl (OF.move (tv (tI g.Cols) rfl)) (gF (dy fhg49_5) rfl rfl (B.mul (n:=(((n:Nat):Int)*g.Cols)) (tv (tN n) rfl) (tv (tI g.Cols) rfl) (by (refine QeS ?_ ?_ ?_<;>omega))) (gF (dy fhg49_5) rfl rfl (B.add (n:=(((cell:Nat):Int)+(((n:Nat):Int)*g.Cols))) (tv (tN cell) rfl) (tv (tI (((n:Nat):Int)*g.Cols)) rfl) (by (rw [Qs (by omega)];done))) ?_))))
    have hb6:(Int.toNat (((cell:Nat):Int)+(((n:Nat):Int)*g.Cols)))<g.Cells.size:=(by omega)
    refine gF (dy fhg49_5) rfl rfl (B.index (n:=(Qr g.Cells (Int.toNat (((cell:Nat):Int)+(((n:Nat):Int)*g.Cols))))) (i:=(Int.toNat (((cell:Nat):Int)+(((n:Nat):Int)*g.Cols)))) (tv (tS g.Cells) rfl) (tv (tI (((cell:Nat):Int)+(((n:Nat):Int)*g.Cols))) rfl) (by omega) hb6 U9 (Yd hb6)) (gF (dy fhg49_5) rfl rfl (YF (tv (T.int .u8 (Qr g.Cells (Int.toNat (((cell:Nat):Int)+(((n:Nat):Int)*g.Cols))))) rfl) (VEv.int .u8 46)) (fO (OF.pickT (VEv.tmpB rfl (dy fhg49_5)) (tv (tB (decide (Qr g.Cells (Int.toNat (((cell:Nat):Int)+(((n:Nat):Int)*g.Cols)))=46))) rfl)) (nt ?_)))
    refine cd (Qr g.Cells (Int.toNat (((cell:Nat):Int)+(((n:Nat):Int)*g.Cols)))=46) rfl (fun fhc2=> ?_) fun fhc2=> ?_
    ·refine sk ?_
     refine tn (VRun.block (VRun.region (mO (tN n) rfl (fO (QA (tv (tN n) rfl) (VEv.int .i64 1) (by omega)) (aO (tN (n+1)) rfl (VRunO.nil (vinB.n (tn ?_))))))))
     refine ⟨(n+1:Nat),?_,?_,Wk.mk (fun k=>k) ?_ ?_ ?_⟩
     ·(refine ⟨?_,Qhx fhc0 hI'.2 ?_ ?_⟩<;>first | omega | (unfold slD;omega))
     ·omega
     ·exact (b2 (b2 (b2 (b2 (b2 (b2 (b2 bn)))))))
     ·exact (b3 bn)
     ·exact nd rfl
    refine VRun.exit (vthn.e (vthn.e (vinB.e (tn (sr (mO (tN n) rfl (aO (tN n) rfl (nt (rt (vi (n':=((n:Nat):Int)) rfl ?_))))))))))
    (refine rD fhc0 ?_ hI'.2 ?_<;>first | omega | (unfold slD;omega))
   refine Qx 9 5 true 49 (dz fhg49_5) rfl rfl rfl (fO (OF.pickF (VEv.tmpB rfl (dz fhg49_5)) (VEv.bool false)) (nt (cf rfl (VRun.exit (vthn.e (vthn.e (vinB.e (tn (sr (mO (tN n) rfl (aO (tN n) rfl ?_)))))))))))
   refine nt (rt (vi (n':=((n:Nat):Int)) rfl ?_))
   (refine rD fhc0 ?_ hI'.2 ?_<;>first | omega | (unfold slD;omega))
  refine Qx 7 8 true 34 (dz fhg34_3) rfl rfl rfl (gF (nz fhg31_2) rfl rfl (OF.pickF (VEv.tmpB rfl (dz fhg34_3)) (VEv.bool false)) (fO (OF.pickF (VEv.tmpB rfl (nz fhg31_2)) (tv (tB false) rfl)) (nt (cf rfl (sk (tn (sr (fO (OF.assign (VEv.int .i64 0)) (nt (sq (VRun.block ?_)))))))))))
  refine VRun.loop (A:=Nat) (fun s_=> [(1,(tN cell)),(3,(T.op 0 0)),(6,(tN 0)),(7,(tI g.Cols)),(8,(tN (cell / g.Cols.toNat))),(9,(tI g.Rows)),(10,(tN s_))]) (fun s_=>Q0 [(0,(Obj.cells (Qb false g)))]) 1 (fun s_=>s_≤6∧Yz g cell down s_) (fun s_=>6 - s_) (0:Nat) ?_ (Wk.mk (fun k=>k) ?_ ?_ ?_) ?_
  ·exact ⟨Nat.zero_le _,Yf _ _ _⟩
  ·exact (b2 (b2 (b2 (b2 (b2 (b2 (b2 bn)))))))
  ·exact (b3 bn)
  ·exact nd rfl
  rintro n (hI':n≤6∧Yz g cell down n)
  show VRun _ _ _ [(1,(tN cell)),(3,(T.op 0 0)),(6,(tN 0)),(7,(tI g.Cols)),(8,(tN (cell / g.Cols.toNat))),(9,(tI g.Rows)),(10,(tN n))] (Q0 [(0,(Obj.cells (Qb false g)))]) 1 _
  have hI1:=hI'.1
  have hN:=Qde hI1 hB.1 hB.2
  have hC6:=hC4 n
  have hC7:=hC5 n
  refine sq (sr (mO (tN (cell / g.Cols.toNat)) rfl (mO (tN n) rfl (fO (B.add (n:=(((cell / g.Cols.toNat+n):Nat):Int)) (tv (tN (cell / g.Cols.toNat)) rfl) (tv (tN n) rfl) (by (rw [Qs (by omega)];omega))) (mO (tI g.Rows) rfl (fO (xls (tv (tN (cell / g.Cols.toNat+n)) rfl) (tv (tI g.Rows) rfl)) (mO (tB (decide ((((cell / g.Cols.toNat+n):Nat):Int)<g.Rows))) rfl ?_)))))))
  refine gw ((((cell / g.Cols.toNat+n):Nat):Int)<g.Rows) (fun fhg49_7=> ?_) fun fhg49_7=> ?_
  ·refine ZV (tS g.Cells) (dy fhg49_7) rfl rfl rfl rfl Qy rfl rfl ZN ?_
   refine gF (dy fhg49_7) rfl rfl (OF.move (tv (tN cell) rfl)) (gF (dy fhg49_7) rfl rfl (OF.move (tv (tN n) rfl)) (gF (dy fhg49_7) rfl rfl (OF.move (tv (tI g.Cols) rfl)) (gF (dy fhg49_7) rfl rfl (B.mul (n:=(((n:Nat):Int)*g.Cols)) (tv (tN n) rfl) (tv (tI g.Cols) rfl) (by (refine QeS ?_ ?_ ?_<;>omega))) (gF (dy fhg49_7) rfl rfl (B.add (n:=(((cell:Nat):Int)+(((n:Nat):Int)*g.Cols))) (tv (tN cell) rfl) (tv (tI (((n:Nat):Int)*g.Cols)) rfl) (by (rw [Qs (by omega)];done))) ?_))))
   have hb8:(Int.toNat (((cell:Nat):Int)+(((n:Nat):Int)*g.Cols)))<g.Cells.size:=(by omega)
   refine gF (dy fhg49_7) rfl rfl (B.index (n:=(Qr g.Cells (Int.toNat (((cell:Nat):Int)+(((n:Nat):Int)*g.Cols))))) (i:=(Int.toNat (((cell:Nat):Int)+(((n:Nat):Int)*g.Cols)))) (tv (tS g.Cells) rfl) (tv (tI (((cell:Nat):Int)+(((n:Nat):Int)*g.Cols))) rfl) (by omega) hb8 U9 (Yd hb8)) (gF (dy fhg49_7) rfl rfl (YF (tv (T.int .u8 (Qr g.Cells (Int.toNat (((cell:Nat):Int)+(((n:Nat):Int)*g.Cols))))) rfl) (VEv.int .u8 46)) (fO (OF.pickT (VEv.tmpB rfl (dy fhg49_7)) (tv (tB (decide (Qr g.Cells (Int.toNat (((cell:Nat):Int)+(((n:Nat):Int)*g.Cols)))=46))) rfl)) (nt ?_)))
   refine cd (Qr g.Cells (Int.toNat (((cell:Nat):Int)+(((n:Nat):Int)*g.Cols)))=46) rfl (fun fhc2=> ?_) fun fhc2=> ?_
   ·refine sk ?_
    refine tn (VRun.block (VRun.region (mO (tN n) rfl (fO (QA (tv (tN n) rfl) (VEv.int .i64 1) (by omega)) (aO (tN (n+1)) rfl (VRunO.nil (vinB.n (tn ?_))))))))
    refine ⟨(n+1:Nat),?_,?_,Wk.mk (fun k=>k) ?_ ?_ ?_⟩
    ·(refine ⟨?_,Qhx fhc0 hI'.2 ?_ ?_⟩<;>first | omega | (unfold slD;omega))
    ·omega
    ·exact (b2 (b2 (b2 (b2 (b2 (b2 (b2 bn)))))))
    ·exact (b3 bn)
    ·exact nd rfl
   refine VRun.exit (vthn.e (vthn.e (vinB.e (tn (sr (mO (tN n) rfl (aO (tN n) rfl (nt (rt (vi (n':=((n:Nat):Int)) rfl ?_))))))))))
   (refine rD fhc0 ?_ hI'.2 ?_<;>first | omega | (unfold slD;omega))
  refine Qx 9 5 true 49 (dz fhg49_7) rfl rfl rfl (fO (OF.pickF (VEv.tmpB rfl (dz fhg49_7)) (VEv.bool false)) (nt (cf rfl (VRun.exit (vthn.e (vthn.e (vinB.e (tn (sr (mO (tN n) rfl (aO (tN n) rfl ?_)))))))))))
  refine nt (rt (vi (n':=((n:Nat):Int)) rfl ?_))
  (refine rD fhc0 ?_ hI'.2 ?_<;>first | omega | (unfold slD;omega))
 have fhc0:down=false:=hc0
 refine sk (tn (sq (sr (lf (tS g.Cells) rfl Qy rfl rfl ZN (mO (tN cell) rfl ?_)))))
 have hb9:cell<g.Cells.size:=(by omega)
 refine fO (Js (tv (tS g.Cells) rfl) (tv (tN cell) rfl) hb9 U9) (fO (xne (tv (T.int .u8 (Qr g.Cells cell)) rfl) (VEv.int .u8 46)) (mO (tB (!(decide (Qr g.Cells cell=46)))) rfl ?_))
 refine gn (Qr g.Cells cell=46) (fun fhg31_10=> ?_) fun fhg31_10=> ?_
 ·refine Qx 3 5 false 31 (ny fhg31_10) rfl rfl rfl ?_
  refine JK 7 8 true 34 rfl rfl rfl (oO rfl rfl (ny fhg31_10) (fO (OF.pickT (VEv.tmpB rfl (ny fhg31_10)) (VEv.bool true)) (nt (ct rfl (sr (fO (OF.assign (VEv.int .i64 0)) (nt (rt (tr (vi (n':=0) rfl ?_))))))))))
  (refine zA fhc0 ?_;omega)
 refine gF (nz fhg31_10) rfl rfl (OF.move (tv (tN (cell % g.Cols.toNat)) rfl)) (gF (nz fhg31_10) rfl rfl (B.gtr (c:=(decide (0<cell % g.Cols.toNat))) (tv (tN (cell % g.Cols.toNat)) rfl) (VEv.int .i64 0) (by exact Q4 (by omega))) (gF (nz fhg31_10) rfl rfl (OF.move (tv (tB (decide (0<cell % g.Cols.toNat))) rfl)) ?_))
 refine gw (0<cell % g.Cols.toNat) (fun fhg34_11=> ?_) fun fhg34_11=> ?_
 ·refine ZV (tS g.Cells) (dy fhg34_11) rfl rfl rfl rfl Qy rfl rfl ZN ?_
  refine gF (dy fhg34_11) rfl rfl (OF.move (tv (tN cell) rfl)) (gF (dy fhg34_11) rfl rfl (OF.move (tv (tN 1) rfl)) (gF (dy fhg34_11) rfl rfl (B.sub (n:=(((cell:Nat):Int) - 1)) (tv (tN cell) rfl) (tv (tN 1) rfl) (by (rw [Qs (by omega)];omega))) ?_))
  have hb12:(Int.toNat (((cell:Nat):Int) - 1))<g.Cells.size:=(by omega)
  refine gF (dy fhg34_11) rfl rfl (B.index (n:=(Qr g.Cells (Int.toNat (((cell:Nat):Int) - 1)))) (i:=(Int.toNat (((cell:Nat):Int) - 1))) (tv (tS g.Cells) rfl) (tv (tI (((cell:Nat):Int) - 1)) rfl) (by omega) hb12 U9 (Yd hb12)) (gF (dy fhg34_11) rfl rfl (YF (tv (T.int .u8 (Qr g.Cells (Int.toNat (((cell:Nat):Int) - 1)))) rfl) (VEv.int .u8 46)) (gF (nz fhg31_10) rfl rfl (OF.pickT (VEv.tmpB rfl (dy fhg34_11)) (tv (tB (decide (Qr g.Cells (Int.toNat (((cell:Nat):Int) - 1))=46))) rfl)) (fO (OF.pickF (VEv.tmpB rfl (nz fhg31_10)) (tv (tB (decide (Qr g.Cells (Int.toNat (((cell:Nat):Int) - 1))=46))) rfl)) (nt ?_))))
  refine cd (Qr g.Cells (Int.toNat (((cell:Nat):Int) - 1))=46) rfl (fun fhc1=> ?_) fun fhc1=> ?_
  ·refine sr ?_
   refine fO (OF.assign (VEv.int .i64 0)) (nt (rt (tr (vi (n':=0) rfl ?_))))
   (refine zA fhc0 ?_;omega)
  refine sk (tn (sr (fO (OF.assign (VEv.int .i64 0)) (nt (sq (VRun.block ?_))))))
  refine VRun.loop (A:=Nat) (fun s_=> [(1,(tN cell)),(3,(T.op 0 0)),(6,(tN 0)),(7,(tN 1)),(8,(tN (cell % g.Cols.toNat))),(9,(tI g.Cols)),(10,(tN s_))]) (fun s_=>Q0 [(0,(Obj.cells (Qb false g)))]) 1 (fun s_=>s_≤6∧Yz g cell down s_) (fun s_=>6 - s_) (0:Nat) ?_ (Wk.mk (fun k=>k) ?_ ?_ ?_) ?_
  ·exact ⟨Nat.zero_le _,Yf _ _ _⟩
  ·exact (b2 (b2 (b2 (b2 (b2 (b2 (b2 bn)))))))
  ·exact (b3 bn)
  ·exact nd rfl
  rintro n (hI':n≤6∧Yz g cell down n)
  show VRun _ _ _ [(1,(tN cell)),(3,(T.op 0 0)),(6,(tN 0)),(7,(tN 1)),(8,(tN (cell % g.Cols.toNat))),(9,(tI g.Cols)),(10,(tN n))] (Q0 [(0,(Obj.cells (Qb false g)))]) 1 _
  have hI1:=hI'.1
  have hN:=Qde hI1 hB.1 hB.2
  have hC6:=hC4 n
  have hC7:=hC5 n
  refine sq (sr (mO (tN (cell % g.Cols.toNat)) rfl (mO (tN n) rfl (fO (B.add (n:=(((cell % g.Cols.toNat+n):Nat):Int)) (tv (tN (cell % g.Cols.toNat)) rfl) (tv (tN n) rfl) (by (rw [Qs (by omega)];omega))) (mO (tI g.Cols) rfl (fO (xls (tv (tN (cell % g.Cols.toNat+n)) rfl) (tv (tI g.Cols) rfl)) (mO (tB (decide ((((cell % g.Cols.toNat+n):Nat):Int)<g.Cols))) rfl ?_)))))))
  refine gw ((((cell % g.Cols.toNat+n):Nat):Int)<g.Cols) (fun fhg49_13=> ?_) fun fhg49_13=> ?_
  ·refine ZV (tS g.Cells) (dy fhg49_13) rfl rfl rfl rfl Qy rfl rfl ZN ?_
   refine gF (dy fhg49_13) rfl rfl (OF.move (tv (tN cell) rfl)) (gF (dy fhg49_13) rfl rfl (OF.move (tv (tN n) rfl)) (gF (dy fhg49_13) rfl rfl (OF.move (tv (tN 1) rfl)) (gF (dy fhg49_13) rfl rfl (B.mul (n:=(((n*1):Nat):Int)) (tv (tN n) rfl) (tv (tN 1) rfl) (by (rw [Qs (by omega)];omega))) (gF (dy fhg49_13) rfl rfl (B.add (n:=(((cell+(n*1)):Nat):Int)) (tv (tN cell) rfl) (tv (tN (n*1)) rfl) (by (rw [Qs (by omega)];omega))) ?_))))
   have hb14:(cell+(n*1))<g.Cells.size:=(by omega)
   refine gF (dy fhg49_13) rfl rfl (Js (tv (tS g.Cells) rfl) (tv (tN (cell+(n*1))) rfl) hb14 U9) (gF (dy fhg49_13) rfl rfl (YF (tv (T.int .u8 (Qr g.Cells (cell+(n*1)))) rfl) (VEv.int .u8 46)) (fO (OF.pickT (VEv.tmpB rfl (dy fhg49_13)) (tv (tB (decide (Qr g.Cells (cell+(n*1))=46))) rfl)) (nt ?_)))
   refine cd (Qr g.Cells (cell+(n*1))=46) rfl (fun fhc2=> ?_) fun fhc2=> ?_
   ·refine sk ?_
    refine tn (VRun.block (VRun.region (mO (tN n) rfl (fO (QA (tv (tN n) rfl) (VEv.int .i64 1) (by omega)) (aO (tN (n+1)) rfl (VRunO.nil (vinB.n (tn ?_))))))))
    refine ⟨(n+1:Nat),?_,?_,Wk.mk (fun k=>k) ?_ ?_ ?_⟩
    ·(refine ⟨?_,QhG fhc0 hI'.2 ?_ ?_⟩<;>first | omega | (unfold slA;omega))
    ·omega
    ·exact (b2 (b2 (b2 (b2 (b2 (b2 (b2 bn)))))))
    ·exact (b3 bn)
    ·exact nd rfl
   refine VRun.exit (vthn.e (vthn.e (vinB.e (tn (sr (mO (tN n) rfl (aO (tN n) rfl (nt (rt (vi (n':=((n:Nat):Int)) rfl ?_))))))))))
   (refine rA fhc0 ?_ hI'.2 ?_<;>first | omega | (unfold slA;omega))
  refine Qx 9 5 true 49 (dz fhg49_13) rfl rfl rfl (fO (OF.pickF (VEv.tmpB rfl (dz fhg49_13)) (VEv.bool false)) (nt (cf rfl (VRun.exit (vthn.e (vthn.e (vinB.e (tn (sr (mO (tN n) rfl (aO (tN n) rfl ?_)))))))))))
  refine nt (rt (vi (n':=((n:Nat):Int)) rfl ?_))
  (refine rA fhc0 ?_ hI'.2 ?_<;>first | omega | (unfold slA;omega))
 refine Qx 7 8 true 34 (dz fhg34_11) rfl rfl rfl (gF (nz fhg31_10) rfl rfl (OF.pickF (VEv.tmpB rfl (dz fhg34_11)) (VEv.bool false)) (fO (OF.pickF (VEv.tmpB rfl (nz fhg31_10)) (tv (tB false) rfl)) (nt (cf rfl (sk (tn (sr (fO (OF.assign (VEv.int .i64 0)) (nt (sq (VRun.block ?_)))))))))))
 refine VRun.loop (A:=Nat) (fun s_=> [(1,(tN cell)),(3,(T.op 0 0)),(6,(tN 0)),(7,(tN 1)),(8,(tN (cell % g.Cols.toNat))),(9,(tI g.Cols)),(10,(tN s_))]) (fun s_=>Q0 [(0,(Obj.cells (Qb false g)))]) 1 (fun s_=>s_≤6∧Yz g cell down s_) (fun s_=>6 - s_) (0:Nat) ?_ (Wk.mk (fun k=>k) ?_ ?_ ?_) ?_
 ·exact ⟨Nat.zero_le _,Yf _ _ _⟩
 ·exact (b2 (b2 (b2 (b2 (b2 (b2 (b2 bn)))))))
 ·exact (b3 bn)
 ·exact nd rfl
 rintro n (hI':n≤6∧Yz g cell down n)
 show VRun _ _ _ [(1,(tN cell)),(3,(T.op 0 0)),(6,(tN 0)),(7,(tN 1)),(8,(tN (cell % g.Cols.toNat))),(9,(tI g.Cols)),(10,(tN n))] (Q0 [(0,(Obj.cells (Qb false g)))]) 1 _
 have hI1:=hI'.1
 have hN:=Qde hI1 hB.1 hB.2
 have hC6:=hC4 n
 have hC7:=hC5 n
 refine sq (sr (mO (tN (cell % g.Cols.toNat)) rfl (mO (tN n) rfl (fO (B.add (n:=(((cell % g.Cols.toNat+n):Nat):Int)) (tv (tN (cell % g.Cols.toNat)) rfl) (tv (tN n) rfl) (by (rw [Qs (by omega)];omega))) (mO (tI g.Cols) rfl (fO (xls (tv (tN (cell % g.Cols.toNat+n)) rfl) (tv (tI g.Cols) rfl)) (mO (tB (decide ((((cell % g.Cols.toNat+n):Nat):Int)<g.Cols))) rfl ?_)))))))
 refine gw ((((cell % g.Cols.toNat+n):Nat):Int)<g.Cols) (fun fhg49_15=> ?_) fun fhg49_15=> ?_
 ·refine ZV (tS g.Cells) (dy fhg49_15) rfl rfl rfl rfl Qy rfl rfl ZN ?_
  refine gF (dy fhg49_15) rfl rfl (OF.move (tv (tN cell) rfl)) (gF (dy fhg49_15) rfl rfl (OF.move (tv (tN n) rfl)) (gF (dy fhg49_15) rfl rfl (OF.move (tv (tN 1) rfl)) (gF (dy fhg49_15) rfl rfl (B.mul (n:=(((n*1):Nat):Int)) (tv (tN n) rfl) (tv (tN 1) rfl) (by (rw [Qs (by omega)];omega))) (gF (dy fhg49_15) rfl rfl (B.add (n:=(((cell+(n*1)):Nat):Int)) (tv (tN cell) rfl) (tv (tN (n*1)) rfl) (by (rw [Qs (by omega)];omega))) ?_))))
  have hb16:(cell+(n*1))<g.Cells.size:=(by omega)
  refine gF (dy fhg49_15) rfl rfl (Js (tv (tS g.Cells) rfl) (tv (tN (cell+(n*1))) rfl) hb16 U9) (gF (dy fhg49_15) rfl rfl (YF (tv (T.int .u8 (Qr g.Cells (cell+(n*1)))) rfl) (VEv.int .u8 46)) (fO (OF.pickT (VEv.tmpB rfl (dy fhg49_15)) (tv (tB (decide (Qr g.Cells (cell+(n*1))=46))) rfl)) (nt ?_)))
  refine cd (Qr g.Cells (cell+(n*1))=46) rfl (fun fhc2=> ?_) fun fhc2=> ?_
  ·refine sk ?_
   refine tn (VRun.block (VRun.region (mO (tN n) rfl (fO (QA (tv (tN n) rfl) (VEv.int .i64 1) (by omega)) (aO (tN (n+1)) rfl (VRunO.nil (vinB.n (tn ?_))))))))
   refine ⟨(n+1:Nat),?_,?_,Wk.mk (fun k=>k) ?_ ?_ ?_⟩
   ·(refine ⟨?_,QhG fhc0 hI'.2 ?_ ?_⟩<;>first | omega | (unfold slA;omega))
   ·omega
   ·exact (b2 (b2 (b2 (b2 (b2 (b2 (b2 bn)))))))
   ·exact (b3 bn)
   ·exact nd rfl
  refine VRun.exit (vthn.e (vthn.e (vinB.e (tn (sr (mO (tN n) rfl (aO (tN n) rfl (nt (rt (vi (n':=((n:Nat):Int)) rfl ?_))))))))))
  (refine rA fhc0 ?_ hI'.2 ?_<;>first | omega | (unfold slA;omega))
 refine Qx 9 5 true 49 (dz fhg49_15) rfl rfl rfl (fO (OF.pickF (VEv.tmpB rfl (dz fhg49_15)) (VEv.bool false)) (nt (cf rfl (VRun.exit (vthn.e (vthn.e (vinB.e (tn (sr (mO (tN n) rfl (aO (tN n) rfl ?_)))))))))))
 refine nt (rt (vi (n':=((n:Nat):Int)) rfl ?_))
 (refine rA fhc0 ?_ hI'.2 ?_<;>first | omega | (unfold slA;omega))
end Go.Proofs.YthifchndolccgaaGreatDoor.AE
namespace Go.Proofs.YthifchndolccgaaGreatDoor.AE
open Go Go.RowKit
set_option linter.unusedVariables false
set_option linter.unusedSimpArgs false
set_option maxRecDepth 20000
set_option maxHeartbeats 2000000
noncomputable section
def QjI (g:D.Grid) (st:List D.Slot×Nat) (i:Nat):List D.Slot×Nat :=
 let k:=if 2≤Qn g i false∨2≤Qn g i true then st.2+1 else st.2
 ((st.1++(if 2≤Qn g i false then [D.Slot.mk ((k:Nat):Int) false ((i:Nat):Int) ((Qn g i false:Nat):Int)] else []))++(if 2≤Qn g i true then [D.Slot.mk ((k:Nat):Int) true ((i:Nat):Int) ((Qn g i true:Nat):Int)] else []),k)
def Qd (g:D.Grid):Nat→List D.Slot×Nat
 | 0=>([],0)
 | i+1=>QjI g (Qd g i) i
def Qa (g:D.Grid):List D.Slot:=if gridOk g then (Qd g g.Cells.size).1 else []
theorem Z6 (g:D.Grid) (i:Nat):(Qd g (i+1)).1=((Qd g i).1++(if 2≤Qn g i false then [D.Slot.mk (((Qd g (i+1)).2:Nat):Int) false ((i:Nat):Int) ((Qn g i false:Nat):Int)] else []))++(if 2≤Qn g i true then [D.Slot.mk (((Qd g (i+1)).2:Nat):Int) true ((i:Nat):Int) ((Qn g i true:Nat):Int)] else []):=rfl
theorem ZC (g:D.Grid) (i:Nat):(Qd g (i+1)).2=if 2≤Qn g i false∨2≤Qn g i true then (Qd g i).2+1 else (Qd g i).2:=rfl
theorem QaT (g:D.Grid):∀i,(Qd g i).2≤i∧(Qd g i).1.length≤2*i
 | 0=>⟨Nat.le_refl _,Nat.le_refl _⟩
 | i+1=>by
  have h:=QaT g i
  rw [Z6,ZC]
  refine ⟨by split<;>omega,?_⟩
  rw [List.length_append,List.length_append]
  have e:∀(c:Prop) [Decidable c] (x:D.Slot),(if c then [x] else []).length≤1:=fun c _ x=>by split<;>simp
  refine Nat.le_trans (Nat.add_le_add (Nat.add_le_add h.2 (e _ _)) (e _ _)) ?_
  omega
theorem Qcr {g:D.Grid} {i:Nat} (h1:i≤g.Cells.size) (h2:gridOk g∨i=0) (h3:¬i<g.Cells.size∨¬gridOk g):(Qd g i).1=Qa g:=by
 unfold Qa
 split
 ·rename_i hh
  rcases h3 with h3 | h3
  ·rw [show i=g.Cells.size by omega]
  ·contradiction
 ·rename_i hh
  rw [h2.resolve_left hh]
  rfl
theorem Qh9 {g:D.Grid} (h:¬gridOk g):Qa g= []:=if_neg h
theorem Q5 (g:D.Grid):(Qa g).length≤72:=by
 unfold Qa
 split
 ·rename_i hh
  have:=hh.size
  have:=(QaT g g.Cells.size).2
  omega
 ·simp
end
theorem Zi (n:Nat) (g:D.Grid) (hc:g.Cells.size≤maxLen):Pure (Qo Tryz.prog (n+3)) 51 [(T.agg (Qb false g))] (T.sl true 4 ((Qa g).map (Qf true))):=by
 refine Pure.intro (rs:= [ResultVar.tmp 2]) Tryz.func51 rfl rfl rfl (E0:= [(0,(T.agg (Qb false g)))]) rfl ?_
 obtain ⟨hlim,hmx,hmax⟩:=QF
 refine sr (kO (B.box (ts:=(Qb false g)) (tv (T.agg (Qb false g)) rfl) nofun rfl) (fO (OF.assign VEv.nils) (nt (sr (kO (OM.slice0 J6 Jr (by kernel_rfl) rfl (by rw [ZJ];decide) ZJ) (aO (T.os 4 1 0 0) rfl (nt (sr (fO (OF.assign (VEv.int .i64 0)) (nt (sq ?_)))))))))))
 refine sr (fO (OF.assign (VEv.int .i64 0)) (nt (VRun.block ?_)))
 have he1: []=(((Qd g 0).1).map (Qf true)):=by rfl
 refine VRun.loop (A:=Nat) (fun s_=> [(1,(T.op 0 0)),(2,T.nils),(3,(T.os 4 1 0 ((((Qd g s_).1).map (Qf true)).length))),(4,(tN ((Qd g s_).2))),(5,(tN s_))]) (fun s_=>Q0 [(0,(Obj.cells (Qb false g))),(1,(Obj.rows 4 (((Qd g s_).1).map (Qf true))))]) 2 (fun s_=>s_≤g.Cells.size∧(gridOk g∨s_=0)) (fun s_=>g.Cells.size - s_) (0:Nat) ?_ (Wk.mk (fun k=>k) ?_ ?_ ?_) ?_
 ·exact ⟨Nat.zero_le _, .inr rfl⟩
 ·exact (b2 (b2 (bc ⟨(congrArg (fun n_=>T.os 4 1 0 n_) (show 0=(((Qd g 0).1).map (Qf true)).length from (by rfl))),rfl⟩ (bc ⟨(congrArg (T.int .i64) (show 0=(((Qd g 0).2:Nat):Int) from (by rfl))),rfl⟩ (b2 bn)))))
 ·exact (b3 (bc ⟨(congrArg (fun l_=>some (Obj.rows 4 l_)) he1),(lb rfl),rfl⟩ bn))
 ·exact nd rfl
 rintro i (hI':i≤g.Cells.size∧(gridOk g∨i=0))
 show VRun _ _ _ [(1,(T.op 0 0)),(2,T.nils),(3,(T.os 4 1 0 ((((Qd g i).1).map (Qf true)).length))),(4,(tN ((Qd g i).2))),(5,(tN i))] (Q0 [(0,(Obj.cells (Qb false g))),(1,(Obj.rows 4 (((Qd g i).1).map (Qf true))))]) 2 _
 have hI1:=hI'.1
 have hbd:=QaT g i
 refine sq (sr (mO (tN i) rfl (lf (tS g.Cells) rfl Qy rfl rfl ZN (lO (B.lenS (tv (tS g.Cells) rfl) U9) (fO (Ze (tv (tN i) rfl) (tv (tN g.Cells.size) rfl)) (mO (tB (decide (i<g.Cells.size))) rfl ?_))))))
 refine gw (i<g.Cells.size) (fun fhg14_2=> ?_) fun fhg14_2=> ?_
 ·refine gL (dy fhg14_2) rfl rfl (OL.loadOn (us:=(Qb false g)) (tv (T.op 0 0) rfl) rfl QP QN (lb rfl) rfl) ?_
  refine VRunO.chain (VWant.on rfl rfl (dy fhg14_2)) (cS (vc (tv (T.agg (Qb false g)) rfl) vn) (LendL.cons (lg Qq) ln) (Zt (n+0) g (by assumption)) rfl rfl) (fO (OF.pickT (VEv.tmpB rfl (dy fhg14_2)) (tv (tB (decide (gridOk g))) rfl)) (nt ?_))
  refine cd (gridOk g) rfl (fun fhc0=> ?_) fun fhc0=> ?_
  ·have hgo:gridOk g:=by assumption
   have hsz:=hgo.size
   refine sk (tn (sq (VRun.block (sr (lO (OL.loadOn (us:=(Qb false g)) (tv (T.op 0 0) rfl) rfl QP QN (lb rfl) rfl) (mO (tN i) rfl (cO (cS (vc (tv (T.agg (Qb false g)) rfl) (vc (tv (tN i) rfl) (vc (VEv.bool false) vn))) (LendL.cons (lg Qq) (lp rfl (lp rfl ln))) (Qa3 (n+1) g i false (by assumption) (by assumption)) rfl rfl) (aO (tN (Qn g i false)) rfl (nt (sr (lO (OL.loadOn (us:=(Qb false g)) (tv (T.op 0 0) rfl) rfl QP QN (lb rfl) rfl) ?_)))))))))))
   refine mO (tN i) rfl (cO (cS (vc (tv (T.agg (Qb false g)) rfl) (vc (tv (tN i) rfl) (vc (VEv.bool true) vn))) (LendL.cons (lg Qq) (lp rfl (lp rfl ln))) (Qa3 (n+1) g i true (by assumption) (by assumption)) rfl rfl) (aO (tN (Qn g i true)) rfl (nt (sq (sr (mO (tN (Qn g i false)) rfl (fO (B.geq (c:=(decide (2≤Qn g i false))) (tv (tN (Qn g i false)) rfl) (VEv.int .i64 2) (by exact Q4 (by omega))) (mO (tB (decide (2≤Qn g i false))) rfl ?_))))))))
   refine gw (2≤Qn g i false) (fun fhg28_3=> ?_) fun fhg28_3=> ?_
   ·refine Qx 2 2 false 28 (dy fhg28_3) rfl rfl rfl ?_
    refine fO (OF.pickT (VEv.tmpB rfl (dy fhg28_3)) (VEv.bool true)) (nt (ct rfl (VRun.region (mO (tN ((Qd g i).2)) rfl (fO (QA (tv (tN ((Qd g i).2)) rfl) (VEv.int .i64 1) (by omega)) (aO (tN ((Qd g i).2+1)) rfl (VRunO.nil (tn (sq (sr (mO (tN (Qn g i false)) rfl ?_)))))))))))
    refine fO (B.geq (c:=(decide (2≤Qn g i false))) (tv (tN (Qn g i false)) rfl) (VEv.int .i64 2) (by exact Q4 (by omega))) (nt (ck (dy fhg28_3) rfl (VRun.region (mO (T.os 4 1 0 ((((Qd g i).1).map (Qf true)).length)) rfl (mO (tN ((Qd g i).2+1)) rfl (mO (tN i) rfl (mO (tN (Qn g i false)) rfl (fO (OF.build (l:= [(0,(tN ((Qd g i).2+1))),(2,(tN i)),(3,(tN (Qn g i false)))]) (zs:= [(tN 0),(tB false),(tN 0),(tN 0)]) (out:= [(tN ((Qd g i).2+1)),(tB false),(tN i),(tN (Qn g i false))]) (VEvp.cons (i:=0) (tv (tN ((Qd g i).2+1)) rfl) (VEvp.cons (i:=2) (tv (tN i) rfl) (VEvp.cons (i:=3) (tv (tN (Qn g i false)) rfl) VEvp.nil))) (bc nofun (bc nofun (bc nofun bn))) Tryz.underlying97 Jr (fun _=>RL.cons (.int _ _) (RL.cons (.bool _) (RL.cons (.int _ _) (RL.cons (.int _ _) (RL.nil _))))) (by kernel_rfl) (by kernel_rfl)) (kO (OM.buildSlice (l:= [(T.agg [(tN ((Qd g i).2+1)),(tB false),(tN i),(tN (Qn g i false))])]) (VEvp.cons (tv (T.agg [(tN ((Qd g i).2+1)),(tB false),(tN i),(tN (Qn g i false))]) rfl) VEvp.nil) rfl (by decide) (bc (nofun) bn) (bc ((bc (rfl) (bc (rfl) (bc (rfl) (bc (rfl) bn))))) bn) (bc (rfl) bn) J6 Jr (by kernel_rfl) rfl (by rw [ZJ];decide) ZJ (Nat.le_of_ble_eq_true rfl)) (cO (B.append (rows:=(((Qd g i).1).map (Qf true))) (rows2:= [[(tN ((Qd g i).2+1)),(tB false),(tN i),(tN (Qn g i false))]]) (rows3:=(((Qd g i).1++ [(D.Slot.mk ((((Qd g i).2+1):Nat):Int) false ((i:Nat):Int) ((Qn g i false:Nat):Int))]).map (Qf true))) (VDst.own (tv (T.os 4 1 0 ((((Qd g i).1).map (Qf true)).length)) rfl) rfl rfl) (VSrc.own (tv (T.os 4 2 0 1) rfl) rfl rfl J6 (bc (bc rfl (bc rfl (bc rfl (bc rfl bn)))) bn)) (by decide) J6 ZJ (by decide) Jr rfl (of_decide_eq_true (by kernel_rfl)) (by (simp only [List.length_map,List.length_append,List.length_cons,List.length_nil,List.length_replicate,List.length_set,List.length_drop,List.length_take,YD] at *;omega)) ((List.map_append (f:=Qf true) (l₁:=(Qd g i).1) (l₂:= [(D.Slot.mk ((((Qd g i).2+1):Nat):Int) false ((i:Nat):Int) ((Qn g i false:Nat):Int))])).symm)) (aO (T.os 4 3 0 ((((Qd g i).1++ [(D.Slot.mk ((((Qd g i).2+1):Nat):Int) false ((i:Nat):Int) ((Qn g i false:Nat):Int))]).map (Qf true)).length)) rfl ?_)))))))))))
    refine VRunO.nil (tn (sr (mO (tN (Qn g i true)) rfl (fO (B.geq (c:=(decide (2≤Qn g i true))) (tv (tN (Qn g i true)) rfl) (VEv.int .i64 2) (by exact Q4 (by omega))) (nt ?_)))))
    refine cd (2≤Qn g i true) rfl (fun fhc3=> ?_) fun fhc3=> ?_
    ·refine VRun.region ?_
     refine mO (T.os 4 3 0 ((((Qd g i).1++ [(D.Slot.mk ((((Qd g i).2+1):Nat):Int) false ((i:Nat):Int) ((Qn g i false:Nat):Int))]).map (Qf true)).length)) rfl (mO (tN ((Qd g i).2+1)) rfl (mO (tN i) rfl (mO (tN (Qn g i true)) rfl (fO (OF.build (l:= [(0,(tN ((Qd g i).2+1))),(1,(tB true)),(2,(tN i)),(3,(tN (Qn g i true)))]) (zs:= [(tN 0),(tB false),(tN 0),(tN 0)]) (out:= [(tN ((Qd g i).2+1)),(tB true),(tN i),(tN (Qn g i true))]) (VEvp.cons (i:=0) (tv (tN ((Qd g i).2+1)) rfl) (VEvp.cons (i:=1) (VEv.bool true) (VEvp.cons (i:=2) (tv (tN i) rfl) (VEvp.cons (i:=3) (tv (tN (Qn g i true)) rfl) VEvp.nil)))) (bc nofun (bc nofun (bc nofun (bc nofun bn)))) Tryz.underlying97 Jr (fun _=>RL.cons (.int _ _) (RL.cons (.bool _) (RL.cons (.int _ _) (RL.cons (.int _ _) (RL.nil _))))) (by kernel_rfl) (by kernel_rfl)) (kO (OM.buildSlice (l:= [(T.agg [(tN ((Qd g i).2+1)),(tB true),(tN i),(tN (Qn g i true))])]) (VEvp.cons (tv (T.agg [(tN ((Qd g i).2+1)),(tB true),(tN i),(tN (Qn g i true))]) rfl) VEvp.nil) rfl (by decide) (bc (nofun) bn) (bc ((bc (rfl) (bc (rfl) (bc (rfl) (bc (rfl) bn))))) bn) (bc (rfl) bn) J6 Jr (by kernel_rfl) rfl (by rw [ZJ];decide) ZJ (Nat.le_of_ble_eq_true rfl)) (cO (B.append (rows:=(((Qd g i).1++ [(D.Slot.mk ((((Qd g i).2+1):Nat):Int) false ((i:Nat):Int) ((Qn g i false:Nat):Int))]).map (Qf true))) (rows2:= [[(tN ((Qd g i).2+1)),(tB true),(tN i),(tN (Qn g i true))]]) (rows3:=((((Qd g i).1++ [(D.Slot.mk ((((Qd g i).2+1):Nat):Int) false ((i:Nat):Int) ((Qn g i false:Nat):Int))])++ [(D.Slot.mk ((((Qd g i).2+1):Nat):Int) true ((i:Nat):Int) ((Qn g i true:Nat):Int))]).map (Qf true))) (VDst.own (tv (T.os 4 3 0 ((((Qd g i).1++ [(D.Slot.mk ((((Qd g i).2+1):Nat):Int) false ((i:Nat):Int) ((Qn g i false:Nat):Int))]).map (Qf true)).length)) rfl) rfl rfl) (VSrc.own (tv (T.os 4 4 0 1) rfl) rfl rfl J6 (bc (bc rfl (bc rfl (bc rfl (bc rfl bn)))) bn)) (by decide) J6 ZJ (by decide) Jr rfl (of_decide_eq_true (by kernel_rfl)) (by (simp only [List.length_map,List.length_append,List.length_cons,List.length_nil,List.length_replicate,List.length_set,List.length_drop,List.length_take,YD] at *;omega)) ((List.map_append (f:=Qf true) (l₁:=((Qd g i).1++ [(D.Slot.mk ((((Qd g i).2+1):Nat):Int) false ((i:Nat):Int) ((Qn g i false:Nat):Int))])) (l₂:= [(D.Slot.mk ((((Qd g i).2+1):Nat):Int) true ((i:Nat):Int) ((Qn g i true:Nat):Int))])).symm)) (aO (T.os 4 5 0 (((((Qd g i).1++ [(D.Slot.mk ((((Qd g i).2+1):Nat):Int) false ((i:Nat):Int) ((Qn g i false:Nat):Int))])++ [(D.Slot.mk ((((Qd g i).2+1):Nat):Int) true ((i:Nat):Int) ((Qn g i true:Nat):Int))]).map (Qf true)).length)) rfl (VRunO.nil (vinB.n (tn (VRun.region ?_)))))))))))
     refine mO (tN i) rfl (fO (QA (tv (tN i) rfl) (VEv.int .i64 1) (by omega)) (aO (tN (i+1)) rfl (VRunO.nil (tn ?_))))
     have hgo:gridOk g:=by assumption
     have he4:(((Qd g i).1++ [(D.Slot.mk ((((Qd g i).2+1):Nat):Int) false ((i:Nat):Int) ((Qn g i false:Nat):Int))])++ [(D.Slot.mk ((((Qd g i).2+1):Nat):Int) true ((i:Nat):Int) ((Qn g i true:Nat):Int))])=(Qd g (i+1)).1:=by (rw [Z6,ZC];simp [*];done)
     refine ⟨(i+1:Nat),?_,?_,Wk.mk (fun k=>if k=1 then 5 else k) ?_ ?_ ?_⟩
     ·exact ⟨by omega, .inl hgo⟩
     ·omega
     ·exact (b2 (b2 (bc ⟨(congrArg (fun l_=>T.os 4 5 0 (List.map (Qf true) l_).length) he4),rfl⟩ (bc ⟨(congrArg (T.int .i64) (show ((((Qd g i).2+1):Nat):Int)=(((Qd g (i+1)).2:Nat):Int) from (by (rw [ZC];simp [*];done)))),rfl⟩ (b2 bn)))))
     ·exact (b3 (bc ⟨(congrArg (fun l_=>some (Obj.rows 4 (List.map (Qf true) l_))) he4),(lb rfl),rfl⟩ bn))
     ·exact nd rfl
    refine sk (vinB.n (tn (VRun.region (mO (tN i) rfl (fO (QA (tv (tN i) rfl) (VEv.int .i64 1) (by omega)) (aO (tN (i+1)) rfl (VRunO.nil (tn ?_))))))))
    have hgo:gridOk g:=by assumption
    have he5:((Qd g i).1++ [(D.Slot.mk ((((Qd g i).2+1):Nat):Int) false ((i:Nat):Int) ((Qn g i false:Nat):Int))])=(Qd g (i+1)).1:=by (rw [Z6,ZC];simp [*];done)
    refine ⟨(i+1:Nat),?_,?_,Wk.mk (fun k=>if k=1 then 3 else k) ?_ ?_ ?_⟩
    ·exact ⟨by omega, .inl hgo⟩
    ·omega
    ·exact (b2 (b2 (bc ⟨(congrArg (fun l_=>T.os 4 3 0 (List.map (Qf true) l_).length) he5),rfl⟩ (bc ⟨(congrArg (T.int .i64) (show ((((Qd g i).2+1):Nat):Int)=(((Qd g (i+1)).2:Nat):Int) from (by (rw [ZC];simp [*];done)))),rfl⟩ (b2 bn)))))
    ·exact (b3 (bc ⟨(congrArg (fun l_=>some (Obj.rows 4 (List.map (Qf true) l_))) he5),(lb rfl),rfl⟩ bn))
    ·exact nd rfl
   refine gF (dz fhg28_3) rfl rfl (OF.move (tv (tN (Qn g i true)) rfl)) (gF (dz fhg28_3) rfl rfl (B.geq (c:=(decide (2≤Qn g i true))) (tv (tN (Qn g i true)) rfl) (VEv.int .i64 2) (by exact Q4 (by omega))) (fO (OF.pickF (VEv.tmpB rfl (dz fhg28_3)) (tv (tB (decide (2≤Qn g i true))) rfl)) (nt ?_)))
   refine cd (2≤Qn g i true) rfl (fun fhc1=> ?_) fun fhc1=> ?_
   ·refine VRun.region ?_
    refine mO (tN ((Qd g i).2)) rfl (fO (QA (tv (tN ((Qd g i).2)) rfl) (VEv.int .i64 1) (by omega)) (aO (tN ((Qd g i).2+1)) rfl (VRunO.nil (tn (sq (sr (mO (tN (Qn g i false)) rfl (fO (B.geq (c:=(decide (2≤Qn g i false))) (tv (tN (Qn g i false)) rfl) (VEv.int .i64 2) (by exact Q4 (by omega))) (nt (cg (dz fhg28_3) rfl (sk ?_)))))))))))
    refine tn (sr (mO (tN (Qn g i true)) rfl (fO (B.geq (c:=(decide (2≤Qn g i true))) (tv (tN (Qn g i true)) rfl) (VEv.int .i64 2) (by exact Q4 (by omega))) (nt (ck (dy fhc1) rfl (VRun.region (mO (T.os 4 1 0 ((((Qd g i).1).map (Qf true)).length)) rfl (mO (tN ((Qd g i).2+1)) rfl (mO (tN i) rfl (mO (tN (Qn g i true)) rfl (fO (OF.build (l:= [(0,(tN ((Qd g i).2+1))),(1,(tB true)),(2,(tN i)),(3,(tN (Qn g i true)))]) (zs:= [(tN 0),(tB false),(tN 0),(tN 0)]) (out:= [(tN ((Qd g i).2+1)),(tB true),(tN i),(tN (Qn g i true))]) (VEvp.cons (i:=0) (tv (tN ((Qd g i).2+1)) rfl) (VEvp.cons (i:=1) (VEv.bool true) (VEvp.cons (i:=2) (tv (tN i) rfl) (VEvp.cons (i:=3) (tv (tN (Qn g i true)) rfl) VEvp.nil)))) (bc nofun (bc nofun (bc nofun (bc nofun bn)))) Tryz.underlying97 Jr (fun _=>RL.cons (.int _ _) (RL.cons (.bool _) (RL.cons (.int _ _) (RL.cons (.int _ _) (RL.nil _))))) (by kernel_rfl) (by kernel_rfl)) ?_)))))))))))
    refine kO (OM.buildSlice (l:= [(T.agg [(tN ((Qd g i).2+1)),(tB true),(tN i),(tN (Qn g i true))])]) (VEvp.cons (tv (T.agg [(tN ((Qd g i).2+1)),(tB true),(tN i),(tN (Qn g i true))]) rfl) VEvp.nil) rfl (by decide) (bc (nofun) bn) (bc ((bc (rfl) (bc (rfl) (bc (rfl) (bc (rfl) bn))))) bn) (bc (rfl) bn) J6 Jr (by kernel_rfl) rfl (by rw [ZJ];decide) ZJ (Nat.le_of_ble_eq_true rfl)) (cO (B.append (rows:=(((Qd g i).1).map (Qf true))) (rows2:= [[(tN ((Qd g i).2+1)),(tB true),(tN i),(tN (Qn g i true))]]) (rows3:=(((Qd g i).1++ [(D.Slot.mk ((((Qd g i).2+1):Nat):Int) true ((i:Nat):Int) ((Qn g i true:Nat):Int))]).map (Qf true))) (VDst.own (tv (T.os 4 1 0 ((((Qd g i).1).map (Qf true)).length)) rfl) rfl rfl) (VSrc.own (tv (T.os 4 2 0 1) rfl) rfl rfl J6 (bc (bc rfl (bc rfl (bc rfl (bc rfl bn)))) bn)) (by decide) J6 ZJ (by decide) Jr rfl (of_decide_eq_true (by kernel_rfl)) (by (simp only [List.length_map,List.length_append,List.length_cons,List.length_nil,List.length_replicate,List.length_set,List.length_drop,List.length_take,YD] at *;omega)) ((List.map_append (f:=Qf true) (l₁:=(Qd g i).1) (l₂:= [(D.Slot.mk ((((Qd g i).2+1):Nat):Int) true ((i:Nat):Int) ((Qn g i true:Nat):Int))])).symm)) (aO (T.os 4 3 0 ((((Qd g i).1++ [(D.Slot.mk ((((Qd g i).2+1):Nat):Int) true ((i:Nat):Int) ((Qn g i true:Nat):Int))]).map (Qf true)).length)) rfl (VRunO.nil (vinB.n (tn (VRun.region (mO (tN i) rfl (fO (QA (tv (tN i) rfl) (VEv.int .i64 1) (by omega)) (aO (tN (i+1)) rfl (VRunO.nil (tn ?_)))))))))))
    have hgo:gridOk g:=by assumption
    have he6:((Qd g i).1++ [(D.Slot.mk ((((Qd g i).2+1):Nat):Int) true ((i:Nat):Int) ((Qn g i true:Nat):Int))])=(Qd g (i+1)).1:=by (rw [Z6,ZC];simp [*];done)
    refine ⟨(i+1:Nat),?_,?_,Wk.mk (fun k=>if k=1 then 3 else k) ?_ ?_ ?_⟩
    ·exact ⟨by omega, .inl hgo⟩
    ·omega
    ·exact (b2 (b2 (bc ⟨(congrArg (fun l_=>T.os 4 3 0 (List.map (Qf true) l_).length) he6),rfl⟩ (bc ⟨(congrArg (T.int .i64) (show ((((Qd g i).2+1):Nat):Int)=(((Qd g (i+1)).2:Nat):Int) from (by (rw [ZC];simp [*];done)))),rfl⟩ (b2 bn)))))
    ·exact (b3 (bc ⟨(congrArg (fun l_=>some (Obj.rows 4 (List.map (Qf true) l_))) he6),(lb rfl),rfl⟩ bn))
    ·exact nd rfl
   refine sk (tn (sq (sr (mO (tN (Qn g i false)) rfl (fO (B.geq (c:=(decide (2≤Qn g i false))) (tv (tN (Qn g i false)) rfl) (VEv.int .i64 2) (by exact Q4 (by omega))) (nt (cg (dz fhg28_3) rfl (sk (tn (sr (mO (tN (Qn g i true)) rfl ?_)))))))))))
   refine fO (B.geq (c:=(decide (2≤Qn g i true))) (tv (tN (Qn g i true)) rfl) (VEv.int .i64 2) (by exact Q4 (by omega))) (nt (cg (dz fhc1) rfl (sk (vinB.n (tn (VRun.region (mO (tN i) rfl (fO (QA (tv (tN i) rfl) (VEv.int .i64 1) (by omega)) (aO (tN (i+1)) rfl (VRunO.nil (tn ?_)))))))))))
   have hgo:gridOk g:=by assumption
   have he7:(Qd g i).1=(Qd g (i+1)).1:=by (rw [Z6,ZC];simp [*];done)
   refine ⟨(i+1:Nat),?_,?_,Wk.mk (fun k=>k) ?_ ?_ ?_⟩
   ·exact ⟨by omega, .inl hgo⟩
   ·omega
   ·exact (b2 (b2 (bc ⟨(congrArg (fun l_=>T.os 4 1 0 (List.map (Qf true) l_).length) he7),rfl⟩ (bc ⟨(congrArg (T.int .i64) (show (((Qd g i).2:Nat):Int)=(((Qd g (i+1)).2:Nat):Int) from (by (rw [ZC];simp [*];done)))),rfl⟩ (b2 bn)))))
   ·exact (b3 (bc ⟨(congrArg (fun l_=>some (Obj.rows 4 (List.map (Qf true) l_))) he7),(lb rfl),rfl⟩ bn))
   ·exact nd rfl
  refine VRun.exit (vthn.e (vthn.e (vinB.e (tn (sr (mO (T.os 4 1 0 ((((Qd g i).1).map (Qf true)).length)) rfl (aO (T.os 4 1 0 ((((Qd g i).1).map (Qf true)).length)) rfl (nt (rt ?_)))))))))
  refine vfin.eq (r':=(T.sl true 4 (((Qd g i).1).map (Qf true)))) ?_ (vfin.r (VRes.tmp (t:=(T.os 4 1 0 ((((Qd g i).1).map (Qf true)).length))) rfl VRes.nil) (Give.os rfl rfl (okeSlot.cleanMap _)))
  refine congrArg (fun l_=>T.sl true 4 (List.map (Qf true) l_)) ?_
  refine Qcr hI1 hI'.2 ?_;(right;assumption)
 refine Qx 2 5 true 14 (dz fhg14_2) rfl rfl rfl (fO (OF.pickF (VEv.tmpB rfl (dz fhg14_2)) (VEv.bool false)) (nt (cf rfl (VRun.exit (vthn.e (vthn.e (vinB.e (tn (sr (mO (T.os 4 1 0 ((((Qd g i).1).map (Qf true)).length)) rfl (aO (T.os 4 1 0 ((((Qd g i).1).map (Qf true)).length)) rfl ?_)))))))))))
 refine nt (rt ?_)
 refine vfin.eq (r':=(T.sl true 4 (((Qd g i).1).map (Qf true)))) ?_ (vfin.r (VRes.tmp (t:=(T.os 4 1 0 ((((Qd g i).1).map (Qf true)).length))) rfl VRes.nil) (Give.os rfl rfl (okeSlot.cleanMap _)))
 refine congrArg (fun l_=>T.sl true 4 (List.map (Qf true) l_)) ?_
 refine Qcr hI1 hI'.2 ?_;(left;assumption)
theorem Jo (n:Nat) (g:D.Grid) (hc:g.Cells.size≤maxLen):Pure (Qo Tryz.prog (n+3)) 56 [(T.agg (Qb false g))] (T.sl true 4 ((Qa g).map (Qf true))):=by
 refine Pure.intro (rs:= [ResultVar.tmp 2]) Tryz.func56 rfl rfl rfl (E0:= [(0,(T.agg (Qb false g)))]) rfl ?_
 obtain ⟨hlim,hmx,hmax⟩:=QF
 refine sr (kO (B.box (ts:=(Qb false g)) (tv (T.agg (Qb false g)) rfl) nofun rfl) (fO (OF.assign VEv.nils) (nt (sq (sr (lO (OL.loadOn (us:=(Qb false g)) (tv (T.op 0 0) rfl) rfl QP QN (lb rfl) rfl) (cO (cS (vc (tv (T.agg (Qb false g)) rfl) vn) (LendL.cons (lg Qq) ln) (ZD (n+0) g (by assumption)) rfl rfl) (fO (QY (tv (tB (decide (gridOk g))) rfl)) (nt ?_)))))))))
 refine cn (gridOk g) rfl (fun fhc0=> ?_) fun fhc0=> ?_
 ·refine sr ?_
  refine fO (OF.assign VEv.nils) (nt (rt (tr ?_)))
  refine vfin.eq (r':=(T.sl true 4 [])) ?_ (vfin.r (VRes.tmp (t:=T.nils) rfl VRes.nil) (Give.nils 4))
  refine congrArg (fun l_=>T.sl true 4 (List.map (Qf true) l_)) (a₁:= []) ?_
  exact (Qh9 fhc0).symm
 refine sk (tn (sr (fO (OF.assign VEv.nils) (nt (sr (fO (OF.assign (VEv.int .i64 0)) (nt (sq (sr (lf (tS g.Cells) rfl Qy rfl rfl ZN (lO (B.lenS (tv (tS g.Cells) rfl) U9) ?_)))))))))))
 refine fO (OF.move (VEv.int .i64 0)) (nt (VRun.block (VRun.wk (Wk.phantom 3 4 rfl) ?_)))
 have he1: []=(((Qd g 0).1).map (Qf true)):=by rfl
 refine VRun.loop (A:=Nat) (fun s_=> [(1,(T.op 0 0)),(2,T.nils),(3,(T.os 4 1 0 ((((Qd g s_).1).map (Qf true)).length))),(4,(tN ((Qd g s_).2))),(13,(tN g.Cells.size)),(14,(tN s_))]) (fun s_=>Q0 [(0,(Obj.cells (Qb false g))),(1,(Obj.rows 4 (((Qd g s_).1).map (Qf true))))]) 2 (fun s_=>s_≤g.Cells.size) (fun s_=>g.Cells.size - s_) (0:Nat) ?_ (Wk.mk (fun k=>k) ?_ ?_ ?_) ?_
 ·(simp;done)
 ·exact (b2 (b2 (bc ⟨(congrArg (fun n_=>T.os 4 1 0 n_) (show 0=(((Qd g 0).1).map (Qf true)).length from (by rfl))),rfl⟩ (bc ⟨(congrArg (T.int .i64) (show 0=(((Qd g 0).2:Nat):Int) from (by rfl))),rfl⟩ (b2 (b2 bn))))))
 ·exact (b3 (bc ⟨(congrArg (fun l_=>some (Obj.rows 4 l_)) he1),(lb rfl),rfl⟩ bn))
 ·exact nd rfl
 rintro i (hI':i≤g.Cells.size)
 show VRun _ _ _ [(1,(T.op 0 0)),(2,T.nils),(3,(T.os 4 1 0 ((((Qd g i).1).map (Qf true)).length))),(4,(tN ((Qd g i).2))),(13,(tN g.Cells.size)),(14,(tN i))] (Q0 [(0,(Obj.cells (Qb false g))),(1,(Obj.rows 4 (((Qd g i).1).map (Qf true))))]) 2 _
 have hI1:=hI'
 have hbd:=QaT g i
 have hgo:gridOk g:=by assumption
 have hsz:=hgo.size
 refine sr (fO (Ze (tv (tN i) rfl) (tv (tN g.Cells.size) rfl)) (nt (sq ?_)))
 refine cd (i<g.Cells.size) rfl (fun fhc1=> ?_) fun fhc1=> ?_
 ·refine sk ?_
  refine tn (sq (VRun.block (sr (mO (tN i) rfl (aO (tN i) rfl (nt (sq (VRun.draw (B:= [[],[],[1,0],[],[],[0,1,2,4,3],[3,4,5,0,1,2],[6,3,4,2,1,0,5]]) (by kernel_rfl) (by kernel_rfl) (lD (OL.loadOn (us:=(Qb false g)) (tv (T.op 0 0) rfl) rfl QP QN (lb rfl) rfl) rfl rfl (mD (tN i) rfl rfl (VRunD.quiet (bi:= [1,0]) rfl VWant.always rfl rfl rfl bn (cS (vc (tv (T.agg (Qb false g)) rfl) (vc (tv (tN i) rfl) (vc (VEv.bool false) vn))) (LendL.cons (lg Qq) (lp rfl (lp rfl ln))) (Qd9 (n+1) g i false (by assumption) (by assumption)) rfl rfl) ?_)))))))))))
  refine lD (OL.loadOn (us:=(Qb false g)) (tv (T.op 0 0) rfl) rfl QP QN (lb rfl) rfl) rfl rfl (mD (tN i) rfl rfl (VRunD.quiet (bi:= [0,1,2,4,3]) rfl VWant.always rfl rfl rfl bn (cS (vc (tv (T.agg (Qb false g)) rfl) (vc (tv (tN i) rfl) (vc (VEv.bool true) vn))) (LendL.cons (lg Qq) (lp rfl (lp rfl ln))) (Qd9 (n+1) g i true (by assumption) (by assumption)) rfl rfl) (fD (OF.assign (tv (tN (Qn g i false)) rfl)) rfl rfl (fD (OF.assign (tv (tN (Qn g i true)) rfl)) rfl rfl (VRunD.nil (tn (sq (sr (mO (tN (Qn g i false)) rfl (fO (B.geq (c:=(decide (2≤Qn g i false))) (tv (tN (Qn g i false)) rfl) (VEv.int .i64 2) (by exact Q4 (by omega))) (mO (tB (decide (2≤Qn g i false))) rfl ?_)))))))))))
  refine gw (2≤Qn g i false) (fun fhg25_2=> ?_) fun fhg25_2=> ?_
  ·refine Qx 2 2 false 25 (dy fhg25_2) rfl rfl rfl ?_
   refine fO (OF.pickT (VEv.tmpB rfl (dy fhg25_2)) (VEv.bool true)) (nt (ct rfl (VRun.region (mO (tN ((Qd g i).2)) rfl (fO (QA (tv (tN ((Qd g i).2)) rfl) (VEv.int .i64 1) (by omega)) (aO (tN ((Qd g i).2+1)) rfl (VRunO.nil (tn (sq (sr (mO (tN (Qn g i false)) rfl ?_)))))))))))
   refine fO (B.geq (c:=(decide (2≤Qn g i false))) (tv (tN (Qn g i false)) rfl) (VEv.int .i64 2) (by exact Q4 (by omega))) (nt (ck (dy fhg25_2) rfl (VRun.region (mO (T.os 4 1 0 ((((Qd g i).1).map (Qf true)).length)) rfl (mO (tN ((Qd g i).2+1)) rfl (mO (tN i) rfl (mO (tN (Qn g i false)) rfl (fO (OF.build (l:= [(0,(tN ((Qd g i).2+1))),(1,(tB false)),(2,(tN i)),(3,(tN (Qn g i false)))]) (zs:= [(tN 0),(tB false),(tN 0),(tN 0)]) (out:= [(tN ((Qd g i).2+1)),(tB false),(tN i),(tN (Qn g i false))]) (VEvp.cons (i:=0) (tv (tN ((Qd g i).2+1)) rfl) (VEvp.cons (i:=1) (VEv.bool false) (VEvp.cons (i:=2) (tv (tN i) rfl) (VEvp.cons (i:=3) (tv (tN (Qn g i false)) rfl) VEvp.nil)))) (bc nofun (bc nofun (bc nofun (bc nofun bn)))) Tryz.underlying97 Jr (fun _=>RL.cons (.int _ _) (RL.cons (.bool _) (RL.cons (.int _ _) (RL.cons (.int _ _) (RL.nil _))))) (by kernel_rfl) (by kernel_rfl)) (kO (OM.buildSlice (l:= [(T.agg [(tN ((Qd g i).2+1)),(tB false),(tN i),(tN (Qn g i false))])]) (VEvp.cons (tv (T.agg [(tN ((Qd g i).2+1)),(tB false),(tN i),(tN (Qn g i false))]) rfl) VEvp.nil) rfl (by decide) (bc (nofun) bn) (bc ((bc (rfl) (bc (rfl) (bc (rfl) (bc (rfl) bn))))) bn) (bc (rfl) bn) J6 Jr (by kernel_rfl) rfl (by rw [ZJ];decide) ZJ (Nat.le_of_ble_eq_true rfl)) (cO (B.append (rows:=(((Qd g i).1).map (Qf true))) (rows2:= [[(tN ((Qd g i).2+1)),(tB false),(tN i),(tN (Qn g i false))]]) (rows3:=(((Qd g i).1++ [(D.Slot.mk ((((Qd g i).2+1):Nat):Int) false ((i:Nat):Int) ((Qn g i false:Nat):Int))]).map (Qf true))) (VDst.own (tv (T.os 4 1 0 ((((Qd g i).1).map (Qf true)).length)) rfl) rfl rfl) (VSrc.own (tv (T.os 4 2 0 1) rfl) rfl rfl J6 (bc (bc rfl (bc rfl (bc rfl (bc rfl bn)))) bn)) (by decide) J6 ZJ (by decide) Jr rfl (of_decide_eq_true (by kernel_rfl)) (by (simp only [List.length_map,List.length_append,List.length_cons,List.length_nil,List.length_replicate,List.length_set,List.length_drop,List.length_take,YD] at *;omega)) ((List.map_append (f:=Qf true) (l₁:=(Qd g i).1) (l₂:= [(D.Slot.mk ((((Qd g i).2+1):Nat):Int) false ((i:Nat):Int) ((Qn g i false:Nat):Int))])).symm)) (aO (T.os 4 3 0 ((((Qd g i).1++ [(D.Slot.mk ((((Qd g i).2+1):Nat):Int) false ((i:Nat):Int) ((Qn g i false:Nat):Int))]).map (Qf true)).length)) rfl ?_)))))))))))
   refine VRunO.nil (tn (sr (mO (tN (Qn g i true)) rfl (fO (B.geq (c:=(decide (2≤Qn g i true))) (tv (tN (Qn g i true)) rfl) (VEv.int .i64 2) (by exact Q4 (by omega))) (nt ?_)))))
   refine cd (2≤Qn g i true) rfl (fun fhc4=> ?_) fun fhc4=> ?_
   ·refine VRun.region ?_
    refine mO (T.os 4 3 0 ((((Qd g i).1++ [(D.Slot.mk ((((Qd g i).2+1):Nat):Int) false ((i:Nat):Int) ((Qn g i false:Nat):Int))]).map (Qf true)).length)) rfl (mO (tN ((Qd g i).2+1)) rfl (mO (tN i) rfl (mO (tN (Qn g i true)) rfl (fO (OF.build (l:= [(0,(tN ((Qd g i).2+1))),(1,(tB true)),(2,(tN i)),(3,(tN (Qn g i true)))]) (zs:= [(tN 0),(tB false),(tN 0),(tN 0)]) (out:= [(tN ((Qd g i).2+1)),(tB true),(tN i),(tN (Qn g i true))]) (VEvp.cons (i:=0) (tv (tN ((Qd g i).2+1)) rfl) (VEvp.cons (i:=1) (VEv.bool true) (VEvp.cons (i:=2) (tv (tN i) rfl) (VEvp.cons (i:=3) (tv (tN (Qn g i true)) rfl) VEvp.nil)))) (bc nofun (bc nofun (bc nofun (bc nofun bn)))) Tryz.underlying97 Jr (fun _=>RL.cons (.int _ _) (RL.cons (.bool _) (RL.cons (.int _ _) (RL.cons (.int _ _) (RL.nil _))))) (by kernel_rfl) (by kernel_rfl)) (kO (OM.buildSlice (l:= [(T.agg [(tN ((Qd g i).2+1)),(tB true),(tN i),(tN (Qn g i true))])]) (VEvp.cons (tv (T.agg [(tN ((Qd g i).2+1)),(tB true),(tN i),(tN (Qn g i true))]) rfl) VEvp.nil) rfl (by decide) (bc (nofun) bn) (bc ((bc (rfl) (bc (rfl) (bc (rfl) (bc (rfl) bn))))) bn) (bc (rfl) bn) J6 Jr (by kernel_rfl) rfl (by rw [ZJ];decide) ZJ (Nat.le_of_ble_eq_true rfl)) (cO (B.append (rows:=(((Qd g i).1++ [(D.Slot.mk ((((Qd g i).2+1):Nat):Int) false ((i:Nat):Int) ((Qn g i false:Nat):Int))]).map (Qf true))) (rows2:= [[(tN ((Qd g i).2+1)),(tB true),(tN i),(tN (Qn g i true))]]) (rows3:=((((Qd g i).1++ [(D.Slot.mk ((((Qd g i).2+1):Nat):Int) false ((i:Nat):Int) ((Qn g i false:Nat):Int))])++ [(D.Slot.mk ((((Qd g i).2+1):Nat):Int) true ((i:Nat):Int) ((Qn g i true:Nat):Int))]).map (Qf true))) (VDst.own (tv (T.os 4 3 0 ((((Qd g i).1++ [(D.Slot.mk ((((Qd g i).2+1):Nat):Int) false ((i:Nat):Int) ((Qn g i false:Nat):Int))]).map (Qf true)).length)) rfl) rfl rfl) (VSrc.own (tv (T.os 4 4 0 1) rfl) rfl rfl J6 (bc (bc rfl (bc rfl (bc rfl (bc rfl bn)))) bn)) (by decide) J6 ZJ (by decide) Jr rfl (of_decide_eq_true (by kernel_rfl)) (by (simp only [List.length_map,List.length_append,List.length_cons,List.length_nil,List.length_replicate,List.length_set,List.length_drop,List.length_take,YD] at *;omega)) ((List.map_append (f:=Qf true) (l₁:=((Qd g i).1++ [(D.Slot.mk ((((Qd g i).2+1):Nat):Int) false ((i:Nat):Int) ((Qn g i false:Nat):Int))])) (l₂:= [(D.Slot.mk ((((Qd g i).2+1):Nat):Int) true ((i:Nat):Int) ((Qn g i true:Nat):Int))])).symm)) (aO (T.os 4 5 0 (((((Qd g i).1++ [(D.Slot.mk ((((Qd g i).2+1):Nat):Int) false ((i:Nat):Int) ((Qn g i false:Nat):Int))])++ [(D.Slot.mk ((((Qd g i).2+1):Nat):Int) true ((i:Nat):Int) ((Qn g i true:Nat):Int))]).map (Qf true)).length)) rfl (VRunO.nil (vinB.n (tn (VRun.region ?_)))))))))))
    refine fO (QA (tv (tN i) rfl) (VEv.int .i64 1) (by omega)) (mO (tN (i+1)) rfl (VRunO.nil (tn ?_)))
    have he3:(((Qd g i).1++ [(D.Slot.mk ((((Qd g i).2+1):Nat):Int) false ((i:Nat):Int) ((Qn g i false:Nat):Int))])++ [(D.Slot.mk ((((Qd g i).2+1):Nat):Int) true ((i:Nat):Int) ((Qn g i true:Nat):Int))])=(Qd g (i+1)).1:=by (rw [Z6,ZC];simp [*];done)
    refine ⟨(i+1:Nat),?_,?_,Wk.mk (fun k=>if k=1 then 5 else k) ?_ ?_ ?_⟩
    ·trivial
    ·omega
    ·exact (b2 (b2 (bc ⟨(congrArg (fun l_=>T.os 4 5 0 (List.map (Qf true) l_).length) he3),rfl⟩ (bc ⟨(congrArg (T.int .i64) (show ((((Qd g i).2+1):Nat):Int)=(((Qd g (i+1)).2:Nat):Int) from (by (rw [ZC];simp [*];done)))),rfl⟩ (b2 (b2 bn))))))
    ·exact (b3 (bc ⟨(congrArg (fun l_=>some (Obj.rows 4 (List.map (Qf true) l_))) he3),(lb rfl),rfl⟩ bn))
    ·exact nd rfl
   refine sk (vinB.n (tn (VRun.region (fO (QA (tv (tN i) rfl) (VEv.int .i64 1) (by omega)) (mO (tN (i+1)) rfl (VRunO.nil (tn ?_)))))))
   have he4:((Qd g i).1++ [(D.Slot.mk ((((Qd g i).2+1):Nat):Int) false ((i:Nat):Int) ((Qn g i false:Nat):Int))])=(Qd g (i+1)).1:=by (rw [Z6,ZC];simp [*];done)
   refine ⟨(i+1:Nat),?_,?_,Wk.mk (fun k=>if k=1 then 3 else k) ?_ ?_ ?_⟩
   ·trivial
   ·omega
   ·exact (b2 (b2 (bc ⟨(congrArg (fun l_=>T.os 4 3 0 (List.map (Qf true) l_).length) he4),rfl⟩ (bc ⟨(congrArg (T.int .i64) (show ((((Qd g i).2+1):Nat):Int)=(((Qd g (i+1)).2:Nat):Int) from (by (rw [ZC];simp [*];done)))),rfl⟩ (b2 (b2 bn))))))
   ·exact (b3 (bc ⟨(congrArg (fun l_=>some (Obj.rows 4 (List.map (Qf true) l_))) he4),(lb rfl),rfl⟩ bn))
   ·exact nd rfl
  refine gF (dz fhg25_2) rfl rfl (OF.move (tv (tN (Qn g i true)) rfl)) (gF (dz fhg25_2) rfl rfl (B.geq (c:=(decide (2≤Qn g i true))) (tv (tN (Qn g i true)) rfl) (VEv.int .i64 2) (by exact Q4 (by omega))) (fO (OF.pickF (VEv.tmpB rfl (dz fhg25_2)) (tv (tB (decide (2≤Qn g i true))) rfl)) (nt ?_)))
  refine cd (2≤Qn g i true) rfl (fun fhc2=> ?_) fun fhc2=> ?_
  ·refine VRun.region ?_
   refine mO (tN ((Qd g i).2)) rfl (fO (QA (tv (tN ((Qd g i).2)) rfl) (VEv.int .i64 1) (by omega)) (aO (tN ((Qd g i).2+1)) rfl (VRunO.nil (tn (sq (sr (mO (tN (Qn g i false)) rfl (fO (B.geq (c:=(decide (2≤Qn g i false))) (tv (tN (Qn g i false)) rfl) (VEv.int .i64 2) (by exact Q4 (by omega))) (nt (cg (dz fhg25_2) rfl (sk ?_)))))))))))
   refine tn (sr (mO (tN (Qn g i true)) rfl (fO (B.geq (c:=(decide (2≤Qn g i true))) (tv (tN (Qn g i true)) rfl) (VEv.int .i64 2) (by exact Q4 (by omega))) (nt (ck (dy fhc2) rfl (VRun.region (mO (T.os 4 1 0 ((((Qd g i).1).map (Qf true)).length)) rfl (mO (tN ((Qd g i).2+1)) rfl (mO (tN i) rfl (mO (tN (Qn g i true)) rfl (fO (OF.build (l:= [(0,(tN ((Qd g i).2+1))),(1,(tB true)),(2,(tN i)),(3,(tN (Qn g i true)))]) (zs:= [(tN 0),(tB false),(tN 0),(tN 0)]) (out:= [(tN ((Qd g i).2+1)),(tB true),(tN i),(tN (Qn g i true))]) (VEvp.cons (i:=0) (tv (tN ((Qd g i).2+1)) rfl) (VEvp.cons (i:=1) (VEv.bool true) (VEvp.cons (i:=2) (tv (tN i) rfl) (VEvp.cons (i:=3) (tv (tN (Qn g i true)) rfl) VEvp.nil)))) (bc nofun (bc nofun (bc nofun (bc nofun bn)))) Tryz.underlying97 Jr (fun _=>RL.cons (.int _ _) (RL.cons (.bool _) (RL.cons (.int _ _) (RL.cons (.int _ _) (RL.nil _))))) (by kernel_rfl) (by kernel_rfl)) ?_)))))))))))
   refine kO (OM.buildSlice (l:= [(T.agg [(tN ((Qd g i).2+1)),(tB true),(tN i),(tN (Qn g i true))])]) (VEvp.cons (tv (T.agg [(tN ((Qd g i).2+1)),(tB true),(tN i),(tN (Qn g i true))]) rfl) VEvp.nil) rfl (by decide) (bc (nofun) bn) (bc ((bc (rfl) (bc (rfl) (bc (rfl) (bc (rfl) bn))))) bn) (bc (rfl) bn) J6 Jr (by kernel_rfl) rfl (by rw [ZJ];decide) ZJ (Nat.le_of_ble_eq_true rfl)) (cO (B.append (rows:=(((Qd g i).1).map (Qf true))) (rows2:= [[(tN ((Qd g i).2+1)),(tB true),(tN i),(tN (Qn g i true))]]) (rows3:=(((Qd g i).1++ [(D.Slot.mk ((((Qd g i).2+1):Nat):Int) true ((i:Nat):Int) ((Qn g i true:Nat):Int))]).map (Qf true))) (VDst.own (tv (T.os 4 1 0 ((((Qd g i).1).map (Qf true)).length)) rfl) rfl rfl) (VSrc.own (tv (T.os 4 2 0 1) rfl) rfl rfl J6 (bc (bc rfl (bc rfl (bc rfl (bc rfl bn)))) bn)) (by decide) J6 ZJ (by decide) Jr rfl (of_decide_eq_true (by kernel_rfl)) (by (simp only [List.length_map,List.length_append,List.length_cons,List.length_nil,List.length_replicate,List.length_set,List.length_drop,List.length_take,YD] at *;omega)) ((List.map_append (f:=Qf true) (l₁:=(Qd g i).1) (l₂:= [(D.Slot.mk ((((Qd g i).2+1):Nat):Int) true ((i:Nat):Int) ((Qn g i true:Nat):Int))])).symm)) (aO (T.os 4 3 0 ((((Qd g i).1++ [(D.Slot.mk ((((Qd g i).2+1):Nat):Int) true ((i:Nat):Int) ((Qn g i true:Nat):Int))]).map (Qf true)).length)) rfl (VRunO.nil (vinB.n (tn (VRun.region (fO (QA (tv (tN i) rfl) (VEv.int .i64 1) (by omega)) (mO (tN (i+1)) rfl (VRunO.nil (tn ?_))))))))))
   have he5:((Qd g i).1++ [(D.Slot.mk ((((Qd g i).2+1):Nat):Int) true ((i:Nat):Int) ((Qn g i true:Nat):Int))])=(Qd g (i+1)).1:=by (rw [Z6,ZC];simp [*];done)
   refine ⟨(i+1:Nat),?_,?_,Wk.mk (fun k=>if k=1 then 3 else k) ?_ ?_ ?_⟩
   ·trivial
   ·omega
   ·exact (b2 (b2 (bc ⟨(congrArg (fun l_=>T.os 4 3 0 (List.map (Qf true) l_).length) he5),rfl⟩ (bc ⟨(congrArg (T.int .i64) (show ((((Qd g i).2+1):Nat):Int)=(((Qd g (i+1)).2:Nat):Int) from (by (rw [ZC];simp [*];done)))),rfl⟩ (b2 (b2 bn))))))
   ·exact (b3 (bc ⟨(congrArg (fun l_=>some (Obj.rows 4 (List.map (Qf true) l_))) he5),(lb rfl),rfl⟩ bn))
   ·exact nd rfl
  refine sk (tn (sq (sr (mO (tN (Qn g i false)) rfl (fO (B.geq (c:=(decide (2≤Qn g i false))) (tv (tN (Qn g i false)) rfl) (VEv.int .i64 2) (by exact Q4 (by omega))) (nt (cg (dz fhg25_2) rfl (sk (tn (sr (mO (tN (Qn g i true)) rfl ?_)))))))))))
  refine fO (B.geq (c:=(decide (2≤Qn g i true))) (tv (tN (Qn g i true)) rfl) (VEv.int .i64 2) (by exact Q4 (by omega))) (nt (cg (dz fhc2) rfl (sk (vinB.n (tn (VRun.region (fO (QA (tv (tN i) rfl) (VEv.int .i64 1) (by omega)) (mO (tN (i+1)) rfl (VRunO.nil (tn ?_))))))))))
  have he6:(Qd g i).1=(Qd g (i+1)).1:=by (rw [Z6,ZC];simp [*];done)
  refine ⟨(i+1:Nat),?_,?_,Wk.mk (fun k=>k) ?_ ?_ ?_⟩
  ·trivial
  ·omega
  ·exact (b2 (b2 (bc ⟨(congrArg (fun l_=>T.os 4 1 0 (List.map (Qf true) l_).length) he6),rfl⟩ (bc ⟨(congrArg (T.int .i64) (show (((Qd g i).2:Nat):Int)=(((Qd g (i+1)).2:Nat):Int) from (by (rw [ZC];simp [*];done)))),rfl⟩ (b2 (b2 bn))))))
  ·exact (b3 (bc ⟨(congrArg (fun l_=>some (Obj.rows 4 (List.map (Qf true) l_))) he6),(lb rfl),rfl⟩ bn))
  ·exact nd rfl
 refine VRun.exit (vthn.e (vthn.e (vinB.e (tn (sr (mO (T.os 4 1 0 ((((Qd g i).1).map (Qf true)).length)) rfl (aO (T.os 4 1 0 ((((Qd g i).1).map (Qf true)).length)) rfl (nt (rt ?_)))))))))
 refine vfin.eq (r':=(T.sl true 4 (((Qd g i).1).map (Qf true)))) ?_ (vfin.r (VRes.tmp (t:=(T.os 4 1 0 ((((Qd g i).1).map (Qf true)).length))) rfl VRes.nil) (Give.os rfl rfl (okeSlot.cleanMap _)))
 refine congrArg (fun l_=>T.sl true 4 (List.map (Qf true) l_)) ?_
 refine Qcr hI1 (.inl hgo) ?_;left;assumption
noncomputable section
def Qbh (g:D.Grid):Prop:=∃s∈Qa g,s.Length<3
instance (g:D.Grid):Decidable (Qbh g):=Classical.propDecidable _
end
theorem Qc7 (n:Nat) (g:D.Grid) (hc:g.Cells.size≤maxLen):Pure (Qo Tryz.prog (n+4)) 75 [(T.agg (Qb false g))] (tB (decide (Qbh g))):=by
 refine Pure.intro (rs:= [ResultVar.tmp 2]) Tryz.func75 rfl rfl rfl (E0:= [(0,(T.agg (Qb false g)))]) rfl ?_
 obtain ⟨hlim,hmx,hmax⟩:=QF
 have hsl:=Q5 g
 refine sr (kO (B.box (ts:=(Qb false g)) (tv (T.agg (Qb false g)) rfl) nofun rfl) (fO (OF.assign (VEv.bool false)) (nt (sr (lO (OL.loadOn (us:=(Qb false g)) (tv (T.op 0 0) rfl) rfl QP QN (lb rfl) rfl) (cO (OC.callF (r':=(T.os 4 1 0 (((Qa g).map (Qf true)).length))) (objs:= [(Obj.rows 4 ((Qa g).map (Qf true)))]) rfl (vc (tv (T.agg (Qb false g)) rfl) vn) (LendL.cons (lg Qq) ln) (Zi (n+0) g (by assumption)) rfl) (aO (T.os 4 1 0 (((Qa g).map (Qf true)).length)) rfl (nt (sq (sr (fO (OF.assign (VEv.int .i64 0)) ?_)))))))))))
 refine nt (VRun.block ?_)
 refine VRun.loop (A:=Nat) (fun s_=> [(3,(T.os 4 0 0 (((Qa g).map (Qf true)).length))),(4,(tN s_))]) (fun s_=>Q0 [(0,(Obj.rows 4 ((Qa g).map (Qf true))))]) 1 (fun s_=>NoneTo (fun s:D.Slot=>s.Length<3) (Qa g) s_) (fun s_=>(Qa g).length - s_) (0:Nat) ?_ (Wk.mk (fun k=>if k=0 then 1 else k) ?_ ?_ ?_) ?_
 ·exact NoneTo.start _ _
 ·exact (b2 (b2 bn))
 ·exact (b3 bn)
 ·exact nd rfl
 rintro i (hI':NoneTo (fun s:D.Slot=>s.Length<3) (Qa g) i)
 show VRun _ _ _ [(3,(T.os 4 0 0 (((Qa g).map (Qf true)).length))),(4,(tN i))] (Q0 [(0,(Obj.rows 4 ((Qa g).map (Qf true))))]) 1 _
 have hI1:=hI'.1
 refine sq (sr (mO (tN i) rfl (mO (T.os 4 0 0 (((Qa g).map (Qf true)).length)) rfl (lO (B.lenO (m:=(Qa g).length) (tv (T.os 4 0 0 (((Qa g).map (Qf true)).length)) rfl) J6 (List.length_map ..)) (fO (Ze (tv (tN i) rfl) (tv (tN ((Qa g).length)) rfl)) (nt ?_))))))
 refine cd (i<(Qa g).length) rfl (fun fhc0=> ?_) fun fhc0=> ?_
 ·refine sk ?_
  refine tn (sq (VRun.block (sr (mO (T.os 4 0 0 (((Qa g).map (Qf true)).length)) rfl (mO (tN i) rfl ?_)))))
  obtain ⟨x1,hx1⟩:∃x,(Qa g)[i]? =some x:=⟨_,List.getElem?_eq_getElem (by omega)⟩
  refine fO (B.indexAddrO (i:=i) (tv (T.os 4 0 0 (((Qa g).map (Qf true)).length)) rfl) (tv (tN i) rfl) rfl (by (simp only [List.length_map];omega)) J6 ZJ Qc5) (fO (OF.fieldAddrP (tv (T.orp 4 0 i 0) rfl) Qbg) (lO (OL.loadP1 (t:=(tI x1.Length)) (row:=(Qf true x1)) (tv (T.orp 4 0 i 3) rfl) rfl (Qw _ hx1) rfl rfl QV) (fO (xls (tv (tI x1.Length) rfl) (VEv.int .i64 3)) (nt ?_))))
  refine cd (x1.Length<3) rfl (fun fhc1=> ?_) fun fhc1=> ?_
  ·refine sr ?_
   refine fO (OF.assign (VEv.bool true)) (nt (rt (vinB.r (tr (tr (vinB.r (tr (vb (b':=true) rfl ?_))))))))
   symm;rw [decide_eq_true_eq];exact ⟨x1,List.mem_of_getElem? hx1,fhc1⟩
  refine sk (vinB.n (tn (VRun.region (mO (tN i) rfl (fO (QA (tv (tN i) rfl) (VEv.int .i64 1) (by omega)) (aO (tN (i+1)) rfl (VRunO.nil (tn ?_))))))))
  refine ⟨(i+1:Nat),?_,?_,Wk.mk (fun k=>k) ?_ ?_ ?_⟩
  ·exact hI'.next hx1 fhc1
  ·omega
  ·exact (b2 (b2 bn))
  ·exact (b3 bn)
  ·exact nd rfl
 refine VRun.exit (vthn.e (vthn.e (vinB.e (tn (sr (fO (OF.assign (VEv.bool false)) (nt (rt (vb (b':=false) rfl ?_)))))))))
 symm;rw [decide_eq_false_iff_not];rintro ⟨y,hy,hy2⟩;exact hI'.mem fhc0 y hy hy2
end Go.Proofs.YthifchndolccgaaGreatDoor.AE
namespace Go.Proofs.YthifchndolccgaaGreatDoor.AE
open Go Go.RowKit
set_option linter.unusedVariables false
set_option linter.unusedSimpArgs false
set_option maxRecDepth 20000
set_option maxHeartbeats 2000000
noncomputable section
def Qeb (g:D.Grid) (s:D.Slot):Int:=if s.Down=true then g.Cols else 1
def Qh (g:D.Grid) (s:D.Slot) (n:Nat):List Int:=(List.range n).map fun k=>s.Cell+((k:Nat):Int)*Qeb g s
theorem Jl (g:D.Grid) (s:D.Slot) (n:Nat):(Qh g s n).length=n:=by simp [Qh]
theorem JB (g:D.Grid) (s:D.Slot) (n:Nat):Qh g s (n+1)=Qh g s n++ [s.Cell+((n:Nat):Int)*Qeb g s]:=by
 simp [Qh,List.range_succ]
def QfI (g:D.Grid) (s:D.Slot):Prop:=gridOk g∧(0≤s.Cell∧s.Cell≤36)∧(0≤s.Length∧s.Length≤6)
theorem QfF {ok:Nat→Prop} [DecidablePred ok]:∀f n,JS ok f n≤n+f
 | 0,n=>Nat.le_refl _
 | f+1,n=>by
  simp only [JS]
  split
  ·have:=QfF (ok:=ok) f (n+1)
   omega
  ·omega
theorem Qgx (g:D.Grid) (cell:Nat) (down:Bool):Qn g cell down≤6:=by
 unfold Qn Qe2 Qe3
 split<;>split<;>first | omega | (have:=QfF (ok:=slD g cell) 6 0;omega) | (have:=QfF (ok:=slA g cell) 6 0;omega)
theorem QeZ (g:D.Grid) (hg:gridOk g):∀i,i≤g.Cells.size→∀s∈(Qd g i).1,QfI g s
 | 0,_,s,hs=>by simp [Qd] at hs
 | i+1,hi,s,hs=>by
  have hsz:=hg.size
  rw [Z6,List.mem_append,List.mem_append] at hs
  rcases hs with (hs | hs) | hs
  ·exact QeZ g hg i (by omega) s hs
  ·split at hs
   ·obtain rfl:=List.mem_singleton.1 hs
    have:=Qgx g i false
    exact ⟨hg,by simp only;omega,by simp only;omega⟩
   ·cases hs
  ·split at hs
   ·obtain rfl:=List.mem_singleton.1 hs
    have:=Qgx g i true
    exact ⟨hg,by simp only;omega,by simp only;omega⟩
   ·cases hs
theorem J2 {g:D.Grid} {s:D.Slot} (hs:s∈Qa g):QfI g s:=by
 unfold Qa at hs
 split at hs
 ·exact QeZ g ‹_› _ (Nat.le_refl _) s hs
 ·cases hs
end
theorem QfE (n:Nat) (g:D.Grid) (s:D.Slot) (hs:QfI g s):Pure (Qo Tryz.prog (n+1)) 137 [(T.agg (Qb false g)),(T.agg (Qf false s))] (T.sl true 1 ((Qh g s s.Length.toNat).map (Qc true))):=by
 refine Pure.intro (rs:= [ResultVar.tmp 4]) Tryz.func137 rfl rfl rfl (E0:= [(0,(T.agg (Qb false g))),(1,(T.agg (Qf false s)))]) rfl ?_
 obtain ⟨hlim,hmx,hmax⟩:=QF
 obtain ⟨hg,hc,hl⟩:=hs
 have hB:=hg.2.1
 refine sr (kO (B.box (ts:=(Qb false g)) (tv (T.agg (Qb false g)) rfl) nofun rfl) (kO (B.box (ts:=(Qf false s)) (tv (T.agg (Qf false s)) rfl) nofun rfl) (fO (OF.assign VEv.nils) (nt (sr (fO (OF.assign (VEv.int .i64 1)) (nt (sq (sr (lf (tB s.Down) rfl Qjf rfl rfl st4 (nt ?_)))))))))))
 refine VRun.cond (tv (tB s.Down) rfl) (fun hc0=> ?_) (fun hc0=> ?_)
 ·have fhc0:s.Down=true:=hc0
  refine VRun.region (lf (tI g.Cols) rfl Za rfl rfl QV (aO (tI g.Cols) rfl (VRunO.nil (tn (sr (fO (OF.assign VEv.nils) (nt (sq (sr (lf (tI s.Length) rfl Qbg rfl rfl QV (fO (OF.move (VEv.int .i64 0)) ?_)))))))))))
  refine nt (VRun.block (VRun.wk (Wk.phantom 6 1 rfl) ?_))
  have he1: []=((Qh g s 0).map (Qc true)):=by rfl
  refine VRun.loop (A:=Nat) (fun s_=> [(3,(T.op 0 0)),(4,T.nils),(5,(tI g.Cols)),(6,(T.os 1 1 0 (((Qh g s s_).map (Qc true)).length))),(13,(tI s.Length)),(14,(tN s_))]) (fun s_=>Q0 [(0,(Obj.cells (Qf false s))),(1,(Obj.rows 1 ((Qh g s s_).map (Qc true))))]) 2 (fun s_=>s_≤s.Length.toNat) (fun s_=>s.Length.toNat - s_) (0:Nat) ?_ (Wk.mk (fun k=>if k=0 then 1 else if k=1 then 2 else k) ?_ ?_ ?_) ?_
  ·(simp;done)
  ·exact (b2 (b2 (b2 (bc ⟨(congrArg (fun n_=>T.os 1 2 0 n_) (show 0=((Qh g s 0).map (Qc true)).length from (by rfl))),rfl⟩ (b2 (b2 bn))))))
  ·exact (b3 (bc ⟨(congrArg (fun l_=>some (Obj.rows 1 l_)) he1),(lb rfl),rfl⟩ bn))
  ·exact nd rfl
  rintro i (hI':i≤s.Length.toNat)
  show VRun _ _ _ [(3,(T.op 0 0)),(4,T.nils),(5,(tI g.Cols)),(6,(T.os 1 1 0 (((Qh g s i).map (Qc true)).length))),(13,(tI s.Length)),(14,(tN i))] (Q0 [(0,(Obj.cells (Qf false s))),(1,(Obj.rows 1 ((Qh g s i).map (Qc true))))]) 2 _
  have hI1:=hI'
  have hN:=Qde (n:=i) (c:=g.Cols) (by omega) hB.1 hB.2
  have hcl:=Jl g s i
  refine sr (fO (xls (tv (tN i) rfl) (tv (tI s.Length) rfl)) (nt (sq ?_)))
  refine cd (((i:Nat):Int)<s.Length) rfl (fun fhc1=> ?_) fun fhc1=> ?_
  ·refine sk ?_
   refine tn (sq (VRun.block (sr (mO (tN i) rfl (aO (tN i) rfl (nt (VRun.region (mO (T.os 1 1 0 (((Qh g s i).map (Qc true)).length)) rfl (lf (tI s.Cell) rfl QfA rfl rfl QV (mO (tN i) rfl (mO (tI g.Cols) rfl ?_)))))))))))
   refine fO (B.mul (n:=(((i:Nat):Int)*g.Cols)) (tv (tN i) rfl) (tv (tI g.Cols) rfl) (by (refine QeS ?_ ?_ ?_<;>omega))) (fO (B.add (n:=(s.Cell+(((i:Nat):Int)*g.Cols))) (tv (tI s.Cell) rfl) (tv (tI (((i:Nat):Int)*g.Cols)) rfl) (by (rw [Qs (by omega)];done))) (kO (OM.buildSlice (l:= [(tI (s.Cell+(((i:Nat):Int)*g.Cols)))]) (VEvp.cons (tv (tI (s.Cell+(((i:Nat):Int)*g.Cols))) rfl) VEvp.nil) rfl (by decide) (bc (nofun) bn) (bc ((bc (rfl) bn)) bn) (bc (rfl) bn) ZL zo3 (by kernel_rfl) rfl (by rw [Zv];decide) Zv (Nat.le_of_ble_eq_true rfl)) (cO (B.append (rows:=((Qh g s i).map (Qc true))) (rows2:= [[(tI (s.Cell+(((i:Nat):Int)*g.Cols)))]]) (rows3:=((Qh g s i++ [(s.Cell+(((i:Nat):Int)*g.Cols))]).map (Qc true))) (VDst.own (tv (T.os 1 1 0 (((Qh g s i).map (Qc true)).length)) rfl) rfl rfl) (VSrc.own (tv (T.os 1 2 0 1) rfl) rfl rfl ZL (bc (bc rfl bn) bn)) (by decide) ZL Zv (by decide) zo3 rfl (of_decide_eq_true (by kernel_rfl)) (by (simp only [List.length_map,List.length_append,List.length_cons,List.length_nil,List.length_replicate,List.length_set,List.length_drop,List.length_take,YD] at *;omega)) ((List.map_append (f:=Qc true) (l₁:=Qh g s i) (l₂:= [(s.Cell+(((i:Nat):Int)*g.Cols))])).symm)) (aO (T.os 1 3 0 (((Qh g s i++ [(s.Cell+(((i:Nat):Int)*g.Cols))]).map (Qc true)).length)) rfl (VRunO.nil (vinB.n (tn (VRun.region (fO (QA (tv (tN i) rfl) (VEv.int .i64 1) (by omega)) (mO (tN (i+1)) rfl (VRunO.nil ?_)))))))))))
   refine tn ?_
   have he2:(Qh g s i++ [(s.Cell+(((i:Nat):Int)*g.Cols))])=Qh g s (i+1):=by rw [JB,Qeb,if_pos fhc0]
   refine ⟨(i+1:Nat),?_,?_,Wk.mk (fun k=>if k=1 then 3 else k) ?_ ?_ ?_⟩
   ·omega
   ·omega
   ·exact (b2 (b2 (b2 (bc ⟨(congrArg (fun l_=>T.os 1 3 0 (List.map (Qc true) l_).length) he2),rfl⟩ (b2 (b2 bn))))))
   ·exact (b3 (bc ⟨(congrArg (fun l_=>some (Obj.rows 1 (List.map (Qc true) l_))) he2),(lb rfl),rfl⟩ bn))
   ·exact nd rfl
  refine VRun.exit (vthn.e (vthn.e (vinB.e (tn (sr (mO (T.os 1 1 0 (((Qh g s i).map (Qc true)).length)) rfl (aO (T.os 1 1 0 (((Qh g s i).map (Qc true)).length)) rfl (nt (rt ?_)))))))))
  refine vfin.eq (r':=(T.sl true 1 ((Qh g s i).map (Qc true)))) ?_ (vfin.r (VRes.tmp (t:=(T.os 1 1 0 (((Qh g s i).map (Qc true)).length))) rfl VRes.nil) (Give.os rfl rfl (okInt.cleanMap _)))
  refine congrArg (fun l_=>T.sl true 1 (List.map (Qc true) l_)) ?_
  rw [show i=s.Length.toNat from by omega]
 have fhc0:s.Down=false:=hc0
 refine sk (tn (sr (fO (OF.assign VEv.nils) (nt (sq (sr (lf (tI s.Length) rfl Qbg rfl rfl QV (fO (OF.move (VEv.int .i64 0)) (nt (VRun.block (VRun.wk (Wk.phantom 6 1 rfl) ?_)))))))))))
 have he3: []=((Qh g s 0).map (Qc true)):=by rfl
 refine VRun.loop (A:=Nat) (fun s_=> [(3,(T.op 0 0)),(4,T.nils),(5,(tN 1)),(6,(T.os 1 1 0 (((Qh g s s_).map (Qc true)).length))),(13,(tI s.Length)),(14,(tN s_))]) (fun s_=>Q0 [(0,(Obj.cells (Qf false s))),(1,(Obj.rows 1 ((Qh g s s_).map (Qc true))))]) 2 (fun s_=>s_≤s.Length.toNat) (fun s_=>s.Length.toNat - s_) (0:Nat) ?_ (Wk.mk (fun k=>if k=0 then 1 else if k=1 then 2 else k) ?_ ?_ ?_) ?_
 ·(simp;done)
 ·exact (b2 (b2 (b2 (bc ⟨(congrArg (fun n_=>T.os 1 2 0 n_) (show 0=((Qh g s 0).map (Qc true)).length from (by rfl))),rfl⟩ (b2 (b2 bn))))))
 ·exact (b3 (bc ⟨(congrArg (fun l_=>some (Obj.rows 1 l_)) he3),(lb rfl),rfl⟩ bn))
 ·exact nd rfl
 rintro i (hI':i≤s.Length.toNat)
 show VRun _ _ _ [(3,(T.op 0 0)),(4,T.nils),(5,(tN 1)),(6,(T.os 1 1 0 (((Qh g s i).map (Qc true)).length))),(13,(tI s.Length)),(14,(tN i))] (Q0 [(0,(Obj.cells (Qf false s))),(1,(Obj.rows 1 ((Qh g s i).map (Qc true))))]) 2 _
 have hI1:=hI'
 have hN:=Qde (n:=i) (c:=g.Cols) (by omega) hB.1 hB.2
 have hcl:=Jl g s i
 refine sr (fO (xls (tv (tN i) rfl) (tv (tI s.Length) rfl)) (nt (sq ?_)))
 refine cd (((i:Nat):Int)<s.Length) rfl (fun fhc1=> ?_) fun fhc1=> ?_
 ·refine sk ?_
  refine tn (sq (VRun.block (sr (mO (tN i) rfl (aO (tN i) rfl (nt (VRun.region (mO (T.os 1 1 0 (((Qh g s i).map (Qc true)).length)) rfl (lf (tI s.Cell) rfl QfA rfl rfl QV (mO (tN i) rfl (mO (tN 1) rfl ?_)))))))))))
  refine fO (B.mul (n:=(((i*1):Nat):Int)) (tv (tN i) rfl) (tv (tN 1) rfl) (by (rw [Qs (by omega)];omega))) (fO (B.add (n:=(s.Cell+(((i*1):Nat):Int))) (tv (tI s.Cell) rfl) (tv (tN (i*1)) rfl) (by (rw [Qs (by omega)];done))) (kO (OM.buildSlice (l:= [(tI (s.Cell+(((i*1):Nat):Int)))]) (VEvp.cons (tv (tI (s.Cell+(((i*1):Nat):Int))) rfl) VEvp.nil) rfl (by decide) (bc (nofun) bn) (bc ((bc (rfl) bn)) bn) (bc (rfl) bn) ZL zo3 (by kernel_rfl) rfl (by rw [Zv];decide) Zv (Nat.le_of_ble_eq_true rfl)) (cO (B.append (rows:=((Qh g s i).map (Qc true))) (rows2:= [[(tI (s.Cell+(((i*1):Nat):Int)))]]) (rows3:=((Qh g s i++ [(s.Cell+(((i*1):Nat):Int))]).map (Qc true))) (VDst.own (tv (T.os 1 1 0 (((Qh g s i).map (Qc true)).length)) rfl) rfl rfl) (VSrc.own (tv (T.os 1 2 0 1) rfl) rfl rfl ZL (bc (bc rfl bn) bn)) (by decide) ZL Zv (by decide) zo3 rfl (of_decide_eq_true (by kernel_rfl)) (by (simp only [List.length_map,List.length_append,List.length_cons,List.length_nil,List.length_replicate,List.length_set,List.length_drop,List.length_take,YD] at *;omega)) ((List.map_append (f:=Qc true) (l₁:=Qh g s i) (l₂:= [(s.Cell+(((i*1):Nat):Int))])).symm)) (aO (T.os 1 3 0 (((Qh g s i++ [(s.Cell+(((i*1):Nat):Int))]).map (Qc true)).length)) rfl (VRunO.nil (vinB.n (tn (VRun.region (fO (QA (tv (tN i) rfl) (VEv.int .i64 1) (by omega)) (mO (tN (i+1)) rfl (VRunO.nil ?_)))))))))))
  refine tn ?_
  have he4:(Qh g s i++ [(s.Cell+(((i*1):Nat):Int))])=Qh g s (i+1):=by (rw [JB,Qeb,fhc0];rfl)
  refine ⟨(i+1:Nat),?_,?_,Wk.mk (fun k=>if k=1 then 3 else k) ?_ ?_ ?_⟩
  ·omega
  ·omega
  ·exact (b2 (b2 (b2 (bc ⟨(congrArg (fun l_=>T.os 1 3 0 (List.map (Qc true) l_).length) he4),rfl⟩ (b2 (b2 bn))))))
  ·exact (b3 (bc ⟨(congrArg (fun l_=>some (Obj.rows 1 (List.map (Qc true) l_))) he4),(lb rfl),rfl⟩ bn))
  ·exact nd rfl
 refine VRun.exit (vthn.e (vthn.e (vinB.e (tn (sr (mO (T.os 1 1 0 (((Qh g s i).map (Qc true)).length)) rfl (aO (T.os 1 1 0 (((Qh g s i).map (Qc true)).length)) rfl (nt (rt ?_)))))))))
 refine vfin.eq (r':=(T.sl true 1 ((Qh g s i).map (Qc true)))) ?_ (vfin.r (VRes.tmp (t:=(T.os 1 1 0 (((Qh g s i).map (Qc true)).length))) rfl VRes.nil) (Give.os rfl rfl (okInt.cleanMap _)))
 refine congrArg (fun l_=>T.sl true 1 (List.map (Qc true) l_)) ?_
 rw [show i=s.Length.toNat from by omega]
noncomputable section
def QD (g:D.Grid):List (List Int):=(Qa g).map fun s=>Qh g s s.Length.toNat
theorem QiA {g:D.Grid} {i:Nat} {s:D.Slot} (h:(Qa g)[i]? =some s):(QD g).take (i+1)=(QD g).take i++ [Qh g s s.Length.toNat]:=by
 unfold QD
 rw [List.take_add_one,List.getElem?_map,h]
 rfl
theorem JY (g:D.Grid):(QD g).length=(Qa g).length:=by simp [QD]
end
theorem YQ (n:Nat) (g:D.Grid) (hc:g.Cells.size≤maxLen):Pure (Qo Tryz.prog (n+4)) 105 [(T.agg (Qb false g))] (T.sl true 1 ((QD g).map ((Yw 1 Qc) true))):=by
 refine Pure.intro (rs:= [ResultVar.tmp 2]) Tryz.func105 rfl rfl rfl (E0:= [(0,(T.agg (Qb false g)))]) rfl ?_
 obtain ⟨hlim,hmx,hmax⟩:=QF
 have hsl:=Q5 g
 have hll:=JY g
 refine sr (kO (B.box (ts:=(Qb false g)) (tv (T.agg (Qb false g)) rfl) nofun rfl) (fO (OF.assign VEv.nils) (nt (sr (fO (OF.assign VEv.nils) (nt (sq (sr (lO (OL.loadOn (us:=(Qb false g)) (tv (T.op 0 0) rfl) rfl QP QN (lb rfl) rfl) (cO (OC.callF (r':=(T.os 4 1 0 (((Qa g).map (Qf true)).length))) (objs:= [(Obj.rows 4 ((Qa g).map (Qf true)))]) rfl (vc (tv (T.agg (Qb false g)) rfl) vn) (LendL.cons (lg Qq) ln) (Jo (n+0) g (by assumption)) rfl) (lO (B.lenO (m:=(Qa g).length) (tv (T.os 4 1 0 (((Qa g).map (Qf true)).length)) rfl) J6 (List.length_map ..)) ?_)))))))))))
 refine fO (OF.move (VEv.int .i64 0)) (nt (VRun.block (VRun.wk (Wk.phantom 3 1 rfl) ?_)))
 have he1: []=(((QD g).take 0).map ((Yw 1 Qc) true)):=by rfl
 refine VRun.loop (A:=Nat) (fun s_=> [(1,(T.op 0 0)),(2,T.nils),(3,(T.os 1 2 0 ((((QD g).take s_).map ((Yw 1 Qc) true)).length))),(7,(T.os 4 1 0 (((Qa g).map (Qf true)).length))),(8,(tN ((Qa g).length))),(9,(tN s_))]) (fun s_=>Q0 [(0,(Obj.cells (Qb false g))),(1,(Obj.rows 4 ((Qa g).map (Qf true)))),(2,(Obj.rows 1 (((QD g).take s_).map ((Yw 1 Qc) true))))]) 3 (fun s_=>s_≤(Qa g).length) (fun s_=>(Qa g).length - s_) (0:Nat) ?_ (Wk.mk (fun k=>k) ?_ ?_ ?_) ?_
 ·(simp;done)
 ·exact (b2 (b2 (bc ⟨(congrArg (fun n_=>T.os 1 2 0 n_) (show 0=(((QD g).take 0).map ((Yw 1 Qc) true)).length from (by rfl))),rfl⟩ (b2 (b2 (b2 bn))))))
 ·exact (b3 (b3 (bc ⟨(congrArg (fun l_=>some (Obj.rows 1 l_)) he1),(lb rfl),rfl⟩ bn)))
 ·exact nd rfl
 rintro i (hI':i≤(Qa g).length)
 show VRun _ _ _ [(1,(T.op 0 0)),(2,T.nils),(3,(T.os 1 2 0 ((((QD g).take i).map ((Yw 1 Qc) true)).length))),(7,(T.os 4 1 0 (((Qa g).map (Qf true)).length))),(8,(tN ((Qa g).length))),(9,(tN i))] (Q0 [(0,(Obj.cells (Qb false g))),(1,(Obj.rows 4 ((Qa g).map (Qf true)))),(2,(Obj.rows 1 (((QD g).take i).map ((Yw 1 Qc) true))))]) 3 _
 have hI1:=hI'
 refine sr (fO (Ze (tv (tN i) rfl) (tv (tN ((Qa g).length)) rfl)) (nt (sq ?_)))
 refine cd (i<(Qa g).length) rfl (fun fhc0=> ?_) fun fhc0=> ?_
 ·refine sk ?_
  refine tn (sq (VRun.block (sr ?_)))
  obtain ⟨x1,hx1⟩:∃x,(Qa g)[i]? =some x:=⟨_,List.getElem?_eq_getElem (by omega)⟩
  refine fO (B.indexAddrO (i:=i) (tv (T.os 4 1 0 (((Qa g).map (Qf true)).length)) rfl) (tv (tN i) rfl) rfl (by (simp only [List.length_map];omega)) J6 ZJ Qc5) (lO (OL.loadPn (us:=(Qf false x1)) (row:=(Qf true x1)) (tv (T.orp 4 1 i 0) rfl) rfl (Qw _ hx1) Qfs ZJ (lb rfl) rfl (bc rfl (bc rfl (bc rfl (bc rfl bn))))) (kO (B.alloc (t:=(T.agg [(tN 0),(tB false),(tN 0),(tN 0)])) (ts:= [(tN 0),(tB false),(tN 0),(tN 0)]) Jr Qk5 nofun (fun _=> .agg _ _ rfl (Y8 (RL.cons (.int _ _) (RL.cons (.bool _) (RL.cons (.int _ _) (RL.cons (.int _ _) (RL.nil _))))))) rfl) (cO (B.storeW (us:=(Qf false x1)) (tv (T.op 3 0) rfl) (tv (T.agg (Qf false x1)) rfl) nofun rfl rfl rfl Qc5 ZJ (bc rfl (bc rfl (bc rfl (bc rfl bn))))) (nt (VRun.region (mO (T.os 1 2 0 ((((QD g).take i).map ((Yw 1 Qc) true)).length)) rfl (lO (OL.loadOn (us:=(Qb false g)) (tv (T.op 0 0) rfl) rfl QP QN (lb rfl) rfl) (lO (OL.loadOn (us:=(Qf false x1)) (tv (T.op 3 0) rfl) rfl Qfs ZJ (lb rfl) rfl) (cO (OC.callF (r':=(T.os 1 4 0 (((Qh g x1 x1.Length.toNat).map (Qc true)).length))) (objs:= [(Obj.rows 1 ((Qh g x1 x1.Length.toNat).map (Qc true)))]) rfl (vc (tv (T.agg (Qb false g)) rfl) (vc (tv (T.agg (Qf false x1)) rfl) vn)) (LendL.cons (lg Qq) (LendL.cons (lg okeSlot) ln)) (QfE (n+2) g x1 (by exact J2 (List.mem_of_getElem? hx1))) rfl) ?_)))))))))
  refine B.sliceB (t:=(T.os 1 4 0 (((Qh g x1 x1.Length.toNat).map (Qc true)).length))) (us:= [(T.os 1 4 0 (((Qh g x1 x1.Length.toNat).map (Qc true)).length))]) (rows:= [[(T.sl true 1 ((Qh g x1 x1.Length.toNat).map (Qc true)))]]) VWant.always (VEvp.cons (tv (T.os 1 4 0 (((Qh g x1 x1.Length.toNat).map (Qc true)).length)) rfl) VEvp.nil) nofun rfl (Bury.os rfl rfl Bury.nil (by decide)) rfl (bc rfl bn) rfl Qd1 Ql5 (by kernel_rfl) rfl (by rw [Qeu];decide) Qeu (Nat.le_of_ble_eq_true rfl) ?_
  refine cO (B.append (rows:=(((QD g).take i).map ((Yw 1 Qc) true))) (rows2:= [[(T.sl true 1 ((Qh g x1 x1.Length.toNat).map (Qc true)))]]) (rows3:=(((QD g).take i++ [Qh g x1 x1.Length.toNat]).map ((Yw 1 Qc) true))) (VDst.own (tv (T.os 1 2 0 ((((QD g).take i).map ((Yw 1 Qc) true)).length)) rfl) rfl rfl) (VSrc.own (tv (T.os 1 5 0 1) rfl) rfl rfl Qd1 (bc (bc rfl bn) bn)) (by decide) Qd1 Qeu (by decide) Ql5 rfl (of_decide_eq_true (by kernel_rfl)) (by (rw [List.length_map,List.length_take];simp only [List.length_cons,List.length_nil];omega)) ((List.map_append (f:=(Yw 1 Qc) true) (l₁:=(QD g).take i) (l₂:= [Qh g x1 x1.Length.toNat])).symm)) (aO (T.os 1 6 0 ((((QD g).take i++ [Qh g x1 x1.Length.toNat]).map ((Yw 1 Qc) true)).length)) rfl (VRunO.nil (vinB.n (tn (VRun.region (fO (QA (tv (tN i) rfl) (VEv.int .i64 1) (by omega)) (mO (tN (i+1)) rfl (VRunO.nil (tn ?_)))))))))
  have he2:((QD g).take i++ [Qh g x1 x1.Length.toNat])=(QD g).take (i+1):=by exact (QiA hx1).symm
  refine ⟨(i+1:Nat),?_,?_,Wk.mk (fun k=>if k=2 then 6 else k) ?_ ?_ ?_⟩
  ·trivial
  ·omega
  ·exact (b2 (b2 (bc ⟨(congrArg (fun l_=>T.os 1 6 0 (List.map ((Yw 1 Qc) true) l_).length) he2),rfl⟩ (b2 (b2 (b2 bn))))))
  ·exact (b3 (b3 (bc ⟨(congrArg (fun l_=>some (Obj.rows 1 (List.map ((Yw 1 Qc) true) l_))) he2),(lb rfl),rfl⟩ bn)))
  ·exact nd rfl
 refine VRun.exit (vthn.e (vthn.e (vinB.e (tn (sr (mO (T.os 1 2 0 ((((QD g).take i).map ((Yw 1 Qc) true)).length)) rfl (aO (T.os 1 2 0 ((((QD g).take i).map ((Yw 1 Qc) true)).length)) rfl (nt (rt ?_)))))))))
 refine vfin.eq (r':=(T.sl true 1 (((QD g).take i).map ((Yw 1 Qc) true)))) ?_ (vfin.r (VRes.tmp (t:=(T.os 1 2 0 ((((QD g).take i).map ((Yw 1 Qc) true)).length))) rfl VRes.nil) (Give.os rfl rfl ((QjH okInt).cleanMap _)))
 refine congrArg (fun l_=>T.sl true 1 (List.map ((Yw 1 Qc) true) l_)) ?_
 rw [List.take_of_length_le (by omega)]
end Go.Proofs.YthifchndolccgaaGreatDoor.AE
namespace Go.Proofs.YthifchndolccgaaGreatDoor.AE
open Go Go.RowKit
set_option linter.unusedVariables false
set_option linter.unusedSimpArgs false
set_option maxRecDepth 20000
set_option maxHeartbeats 2000000
noncomputable section
theorem QcX (g:D.Grid):∀i,∀s∈(Qd g i).1,s.Cell<((i:Nat):Int)
 | 0,s,hs=>by simp [Qd] at hs
 | i+1,s,hs=>by
  rw [Z6,List.mem_append,List.mem_append] at hs
  rcases hs with (hs | hs) | hs
  ·have:=QcX g i s hs
   omega
  ·split at hs
   ·obtain rfl:=List.mem_singleton.1 hs
    simp only;omega
   ·cases hs
  ·split at hs
   ·obtain rfl:=List.mem_singleton.1 hs
    simp only;omega
   ·cases hs
theorem QbV (g:D.Grid):∀i,(Qd g i).1.Nodup
 | 0=>by simp [Qd]
 | i+1=>by
  have h:=QcX g i
  rw [Z6,List.nodup_append,List.nodup_append]
  refine ⟨⟨QbV g i,by split<;>simp,fun a ha b hb e=> ?_⟩,by split<;>simp,fun a ha b hb e=> ?_⟩
  ·split at hb
   ·obtain rfl:=List.mem_singleton.1 hb
    have:=h a ha
    rw [e] at this
    simp only at this
    omega
   ·cases hb
  ·split at hb
   ·obtain rfl:=List.mem_singleton.1 hb
    rcases List.mem_append.1 ha with ha | ha
    ·have:=h a ha
     rw [e] at this
     simp only at this
     omega
    ·split at ha
     ·obtain rfl:=List.mem_singleton.1 ha
      cases e
     ·cases ha
   ·cases hb
theorem QfM (g:D.Grid):(Qa g).Nodup:=by
 unfold Qa
 split
 ·exact QbV g _
 ·simp
def Jt (g:D.Grid) (s:D.Slot) (i:Nat):List Int:=if s∈(Qa g).take i then Qh g s s.Length.toNat else []
theorem Qlg {g:D.Grid} {s x:D.Slot} {i:Nat} (h:(Qa g)[i]? =some x) (hn:¬x=s):Jt g s (i+1)=Jt g s i:=by
 unfold Jt
 rw [List.take_add_one,h]
 simp [show ¬s=x from fun e=>hn e.symm]
theorem Qjx {g:D.Grid} {s x:D.Slot} {i:Nat} (h:(Qa g)[i]? =some x) (hn:x=s):Jt g s i= []:=by
 subst hn
 refine if_neg fun hm=> ?_
 have hd:=QfM g
 have hi:=(List.getElem?_eq_some_iff.1 h).1
 rw [← List.take_append_drop i (Qa g),List.nodup_append] at hd
 refine hd.2.2 x hm x ?_ rfl
 rw [List.drop_eq_getElem_cons hi,(List.getElem?_eq_some_iff.1 h).2]
 exact List.mem_cons_self
theorem Qj1 {g:D.Grid} {s x:D.Slot} {i:Nat} (h:(Qa g)[i]? =some x) (hn:x=s):Jt g s (i+1)=Qh g s s.Length.toNat:=by
 subst hn
 refine if_pos ?_
 rw [List.take_add_one,h]
 simp
theorem Qkn {g:D.Grid} {s x:D.Slot} {i k:Nat} (h:(Qa g)[i]? =some x) (hn:x=s) (h1:¬((k:Nat):Int)<s.Length) (h2:k≤s.Length.toNat):Qh g s k=Jt g s (i+1):=by
 rw [Qj1 h hn,show k=s.Length.toNat by omega]
theorem Qka (g:D.Grid) (s:D.Slot) {i:Nat} (h:(Qa g).length≤i):Jt g s i=if s∈Qa g then Qh g s s.Length.toNat else []:=by
 rw [Jt,List.take_of_length_le h]
end
theorem Jh (n:Nat) (g:D.Grid) (s:D.Slot) (hc:g.Cells.size≤maxLen):Pure (Qo Tryz.prog (n+4)) 132 [(T.agg (Qb false g)),(T.agg (Qf false s))] (T.sl true 1 ((if s∈Qa g then Qh g s s.Length.toNat else []).map (Qc true))):=by
 refine Pure.intro (rs:= [ResultVar.tmp 4]) Tryz.func132 rfl rfl rfl (E0:= [(0,(T.agg (Qb false g))),(1,(T.agg (Qf false s)))]) rfl ?_
 obtain ⟨hlim,hmx,hmax⟩:=QF
 have hsl:=Q5 g
 refine sr (kO (B.box (ts:=(Qb false g)) (tv (T.agg (Qb false g)) rfl) nofun rfl) (kO (B.box (ts:=(Qf false s)) (tv (T.agg (Qf false s)) rfl) nofun rfl) (fO (OF.assign VEv.nils) (nt (sr (kO (OM.slice0 ZL zo3 (by kernel_rfl) rfl (by rw [Zv];decide) Zv) (aO (T.os 1 2 0 0) rfl (nt (sr (lO (OL.loadOn (us:=(Qb false g)) (tv (T.op 0 0) rfl) rfl QP QN (lb rfl) rfl) (cO (OC.callF (r':=(T.os 4 3 0 (((Qa g).map (Qf true)).length))) (objs:= [(Obj.rows 4 ((Qa g).map (Qf true)))]) rfl (vc (tv (T.agg (Qb false g)) rfl) vn) (LendL.cons (lg Qq) ln) (Zi (n+0) g (by assumption)) rfl) ?_)))))))))))
 refine aO (T.os 4 3 0 (((Qa g).map (Qf true)).length)) rfl (nt (sq (sr (fO (OF.assign (VEv.int .i64 0)) (nt (VRun.block ?_))))))
 have he1: []=((Jt g s 0).map (Qc true)):=by rfl
 refine VRun.loop (A:=Nat) (fun s_=> [(2,(T.op 0 0)),(3,(T.op 1 0)),(4,T.nils),(5,(T.os 1 3 0 (((Jt g s s_).map (Qc true)).length))),(6,(T.os 4 2 0 (((Qa g).map (Qf true)).length))),(7,(tN s_))]) (fun s_=>Q0 [(0,(Obj.cells (Qb false g))),(1,(Obj.cells (Qf false s))),(2,(Obj.rows 4 ((Qa g).map (Qf true)))),(3,(Obj.rows 1 ((Jt g s s_).map (Qc true))))]) 4 (fun s_=>s_≤(Qa g).length) (fun s_=>(Qa g).length - s_) (0:Nat) ?_ (Wk.mk (fun k=>if k=2 then 3 else if k=3 then 2 else k) ?_ ?_ ?_) ?_
 ·(simp;done)
 ·exact (b2 (b2 (b2 (bc ⟨(congrArg (fun n_=>T.os 1 2 0 n_) (show 0=((Jt g s 0).map (Qc true)).length from (by rfl))),rfl⟩ (b2 (b2 bn))))))
 ·exact (b3 (b3 (b3 (bc ⟨(congrArg (fun l_=>some (Obj.rows 1 l_)) he1),(lb rfl),rfl⟩ bn))))
 ·exact nd rfl
 rintro i (hI':i≤(Qa g).length)
 show VRun _ _ _ [(2,(T.op 0 0)),(3,(T.op 1 0)),(4,T.nils),(5,(T.os 1 3 0 (((Jt g s i).map (Qc true)).length))),(6,(T.os 4 2 0 (((Qa g).map (Qf true)).length))),(7,(tN i))] (Q0 [(0,(Obj.cells (Qb false g))),(1,(Obj.cells (Qf false s))),(2,(Obj.rows 4 ((Qa g).map (Qf true)))),(3,(Obj.rows 1 ((Jt g s i).map (Qc true))))]) 4 _
 have hI1:=hI'
 refine sq (sr (mO (tN i) rfl (mO (T.os 4 2 0 (((Qa g).map (Qf true)).length)) rfl (lO (B.lenO (m:=(Qa g).length) (tv (T.os 4 2 0 (((Qa g).map (Qf true)).length)) rfl) J6 (List.length_map ..)) (fO (Ze (tv (tN i) rfl) (tv (tN ((Qa g).length)) rfl)) (nt ?_))))))
 refine cd (i<(Qa g).length) rfl (fun fhc0=> ?_) fun fhc0=> ?_
 ·refine sk ?_
  refine tn (sq (VRun.block (sq (sq (VRun.draw (B:= [[],[],[1,0],[0,1,2],[],[4,2,1,0,3]]) (by kernel_rfl) (by kernel_rfl) (mD (T.os 4 2 0 (((Qa g).map (Qf true)).length)) rfl rfl (mD (tN i) rfl rfl ?_)))))))
  obtain ⟨x1,hx1⟩:∃x,(Qa g)[i]? =some x:=⟨_,List.getElem?_eq_getElem (by omega)⟩
  refine fD (B.indexAddrO (i:=i) (tv (T.os 4 2 0 (((Qa g).map (Qf true)).length)) rfl) (tv (tN i) rfl) rfl (by (simp only [List.length_map];omega)) J6 ZJ Qc5) rfl rfl (lD (OL.loadPn (us:=(Qf false x1)) (row:=(Qf true x1)) (tv (T.orp 4 2 i 0) rfl) rfl (Qw _ hx1) Qfs ZJ (lb rfl) rfl (bc rfl (bc rfl (bc rfl (bc rfl bn))))) rfl rfl (lD (OL.loadOn (us:=(Qf false s)) (tv (T.op 1 0) rfl) rfl Qfs ZJ (lb rfl) rfl) rfl rfl (fD (B.neq97 (a:=x1) (b:=s) (m:=false) (m':=false) (tv (T.agg (Qf false x1)) rfl) (tv (T.agg (Qf false s)) rfl)) rfl rfl (VRunD.nil (tn ?_)))))
  refine cn (x1=s) rfl (fun fhc1=> ?_) fun fhc1=> ?_
  ·refine VRun.exit ?_
   refine vthn.e (vinB.e (tn (VRun.region (mO (tN i) rfl (fO (QA (tv (tN i) rfl) (VEv.int .i64 1) (by omega)) (aO (tN (i+1)) rfl (VRunO.nil (tn ?_))))))))
   have he2:Jt g s i=Jt g s (i+1):=by exact (Qlg hx1 fhc1).symm
   refine ⟨(i+1:Nat),?_,?_,Wk.mk (fun k=>k) ?_ ?_ ?_⟩
   ·trivial
   ·omega
   ·exact (b2 (b2 (b2 (bc ⟨(congrArg (fun l_=>T.os 1 3 0 (List.map (Qc true) l_).length) he2),rfl⟩ (b2 (b2 bn))))))
   ·exact (b3 (b3 (b3 (bc ⟨(congrArg (fun l_=>some (Obj.rows 1 (List.map (Qc true) l_))) he2),(lb rfl),rfl⟩ bn))))
   ·exact nd rfl
  have hok:QfI g s:=fhc1▸J2 (List.mem_of_getElem? hx1)
  obtain ⟨hg,hcc,hll⟩:=hok
  have hB:=hg.2.1
  refine sk (tn (sr (fO (OF.assign (VEv.int .i64 0)) (nt (VRun.block ?_)))))
  have he3:Jt g s i=Qh g s 0:=by (rw [Qjx hx1 fhc1];rfl)
  refine VRun.loop (A:=Nat) (fun s_=> [(2,(T.op 0 0)),(3,(T.op 1 0)),(4,T.nils),(5,(T.os 1 3 0 (((Qh g s s_).map (Qc true)).length))),(6,(T.os 4 2 0 (((Qa g).map (Qf true)).length))),(7,(tN i)),(8,(tN s_))]) (fun s_=>Q0 [(0,(Obj.cells (Qb false g))),(1,(Obj.cells (Qf false s))),(2,(Obj.rows 4 ((Qa g).map (Qf true)))),(3,(Obj.rows 1 ((Qh g s s_).map (Qc true))))]) 4 (fun s_=>s_≤s.Length.toNat) (fun s_=>s.Length.toNat - s_) (0:Nat) ?_ (Wk.mk (fun k=>k) ?_ ?_ ?_) ?_
  ·(simp;done)
  ·exact (b2 (b2 (b2 (bc ⟨(congrArg (fun l_=>T.os 1 3 0 (List.map (Qc true) l_).length) he3),rfl⟩ (b2 (b2 (b2 bn)))))))
  ·exact (b3 (b3 (b3 (bc ⟨(congrArg (fun l_=>some (Obj.rows 1 (List.map (Qc true) l_))) he3),(lb rfl),rfl⟩ bn))))
  ·exact nd rfl
  rintro k (hI':k≤s.Length.toNat)
  show VRun _ _ _ [(2,(T.op 0 0)),(3,(T.op 1 0)),(4,T.nils),(5,(T.os 1 3 0 (((Qh g s k).map (Qc true)).length))),(6,(T.os 4 2 0 (((Qa g).map (Qf true)).length))),(7,(tN i)),(8,(tN k))] (Q0 [(0,(Obj.cells (Qb false g))),(1,(Obj.cells (Qf false s))),(2,(Obj.rows 4 ((Qa g).map (Qf true)))),(3,(Obj.rows 1 ((Qh g s k).map (Qc true))))]) 4 _
  have hJ1:=hI'
  have hN:=Qde (n:=k) (c:=g.Cols) (by omega) hB.1 hB.2
  have hcl:=Jl g s k
  refine sq (sr (mO (tN k) rfl (lf (tI s.Length) rfl Qbg rfl rfl QV (fO (xls (tv (tN k) rfl) (tv (tI s.Length) rfl)) (nt ?_)))))
  refine cd (((k:Nat):Int)<s.Length) rfl (fun fhc2=> ?_) fun fhc2=> ?_
  ·refine sk ?_
   refine tn (sq (VRun.block (sr (lf (tB s.Down) rfl Qjf rfl rfl st4 (nt ?_)))))
   refine VRun.cond (tv (tB s.Down) rfl) (fun hc3=> ?_) (fun hc3=> ?_)
   ·have fhc3:s.Down=true:=hc3
    refine VRun.region (mO (T.os 1 3 0 (((Qh g s k).map (Qc true)).length)) rfl (lf (tI s.Cell) rfl QfA rfl rfl QV (mO (tN k) rfl (lf (tI g.Cols) rfl Za rfl rfl QV (fO (B.mul (n:=(((k:Nat):Int)*g.Cols)) (tv (tN k) rfl) (tv (tI g.Cols) rfl) (by (refine QeS ?_ ?_ ?_<;>omega))) (fO (B.add (n:=(s.Cell+(((k:Nat):Int)*g.Cols))) (tv (tI s.Cell) rfl) (tv (tI (((k:Nat):Int)*g.Cols)) rfl) (by (rw [Qs (by omega)];done))) (kO (OM.buildSlice (l:= [(tI (s.Cell+(((k:Nat):Int)*g.Cols)))]) (VEvp.cons (tv (tI (s.Cell+(((k:Nat):Int)*g.Cols))) rfl) VEvp.nil) rfl (by decide) (bc (nofun) bn) (bc ((bc (rfl) bn)) bn) (bc (rfl) bn) ZL zo3 (by kernel_rfl) rfl (by rw [Zv];decide) Zv (Nat.le_of_ble_eq_true rfl)) (cO (B.append (rows:=((Qh g s k).map (Qc true))) (rows2:= [[(tI (s.Cell+(((k:Nat):Int)*g.Cols)))]]) (rows3:=((Qh g s k++ [(s.Cell+(((k:Nat):Int)*g.Cols))]).map (Qc true))) (VDst.own (tv (T.os 1 3 0 (((Qh g s k).map (Qc true)).length)) rfl) rfl rfl) (VSrc.own (tv (T.os 1 4 0 1) rfl) rfl rfl ZL (bc (bc rfl bn) bn)) (by decide) ZL Zv (by decide) zo3 rfl (of_decide_eq_true (by kernel_rfl)) (by (simp only [List.length_map,List.length_append,List.length_cons,List.length_nil,List.length_replicate,List.length_set,List.length_drop,List.length_take,YD] at *;omega)) ((List.map_append (f:=Qc true) (l₁:=Qh g s k) (l₂:= [(s.Cell+(((k:Nat):Int)*g.Cols))])).symm)) (aO (T.os 1 5 0 (((Qh g s k++ [(s.Cell+(((k:Nat):Int)*g.Cols))]).map (Qc true)).length)) rfl (VRunO.nil (vinB.n ?_)))))))))))
    refine tn (VRun.region (mO (tN k) rfl (fO (QA (tv (tN k) rfl) (VEv.int .i64 1) (by omega)) (aO (tN (k+1)) rfl (VRunO.nil (tn ?_))))))
    have he4:(Qh g s k++ [(s.Cell+(((k:Nat):Int)*g.Cols))])=Qh g s (k+1):=by rw [JB,Qeb,if_pos fhc3]
    refine ⟨(k+1:Nat),?_,?_,Wk.mk (fun k=>if k=3 then 5 else k) ?_ ?_ ?_⟩
    ·omega
    ·omega
    ·exact (b2 (b2 (b2 (bc ⟨(congrArg (fun l_=>T.os 1 5 0 (List.map (Qc true) l_).length) he4),rfl⟩ (b2 (b2 (b2 bn)))))))
    ·exact (b3 (b3 (b3 (bc ⟨(congrArg (fun l_=>some (Obj.rows 1 (List.map (Qc true) l_))) he4),(lb rfl),rfl⟩ bn))))
    ·exact nd rfl
   have fhc3:s.Down=false:=hc3
   refine VRun.region (mO (T.os 1 3 0 (((Qh g s k).map (Qc true)).length)) rfl (lf (tI s.Cell) rfl QfA rfl rfl QV (mO (tN k) rfl (fO (B.add (n:=(s.Cell+((k:Nat):Int))) (tv (tI s.Cell) rfl) (tv (tN k) rfl) (by (rw [Qs (by omega)];done))) (kO (OM.buildSlice (l:= [(tI (s.Cell+((k:Nat):Int)))]) (VEvp.cons (tv (tI (s.Cell+((k:Nat):Int))) rfl) VEvp.nil) rfl (by decide) (bc (nofun) bn) (bc ((bc (rfl) bn)) bn) (bc (rfl) bn) ZL zo3 (by kernel_rfl) rfl (by rw [Zv];decide) Zv (Nat.le_of_ble_eq_true rfl)) (cO (B.append (rows:=((Qh g s k).map (Qc true))) (rows2:= [[(tI (s.Cell+((k:Nat):Int)))]]) (rows3:=((Qh g s k++ [(s.Cell+((k:Nat):Int))]).map (Qc true))) (VDst.own (tv (T.os 1 3 0 (((Qh g s k).map (Qc true)).length)) rfl) rfl rfl) (VSrc.own (tv (T.os 1 4 0 1) rfl) rfl rfl ZL (bc (bc rfl bn) bn)) (by decide) ZL Zv (by decide) zo3 rfl (of_decide_eq_true (by kernel_rfl)) (by (simp only [List.length_map,List.length_append,List.length_cons,List.length_nil,List.length_replicate,List.length_set,List.length_drop,List.length_take,YD] at *;omega)) ((List.map_append (f:=Qc true) (l₁:=Qh g s k) (l₂:= [(s.Cell+((k:Nat):Int))])).symm)) (aO (T.os 1 5 0 (((Qh g s k++ [(s.Cell+((k:Nat):Int))]).map (Qc true)).length)) rfl (VRunO.nil (vinB.n (tn (VRun.region ?_)))))))))))
   refine mO (tN k) rfl (fO (QA (tv (tN k) rfl) (VEv.int .i64 1) (by omega)) (aO (tN (k+1)) rfl (VRunO.nil (tn ?_))))
   have he5:(Qh g s k++ [(s.Cell+((k:Nat):Int))])=Qh g s (k+1):=by (rw [JB,Qeb,fhc3];simp;done)
   refine ⟨(k+1:Nat),?_,?_,Wk.mk (fun k=>if k=3 then 5 else k) ?_ ?_ ?_⟩
   ·omega
   ·omega
   ·exact (b2 (b2 (b2 (bc ⟨(congrArg (fun l_=>T.os 1 5 0 (List.map (Qc true) l_).length) he5),rfl⟩ (b2 (b2 (b2 bn)))))))
   ·exact (b3 (b3 (b3 (bc ⟨(congrArg (fun l_=>some (Obj.rows 1 (List.map (Qc true) l_))) he5),(lb rfl),rfl⟩ bn))))
   ·exact nd rfl
  refine VRun.exit (vthn.e (vthn.e (vinB.e (vinB.n (tn (VRun.region (mO (tN i) rfl (fO (QA (tv (tN i) rfl) (VEv.int .i64 1) (by omega)) (aO (tN (i+1)) rfl (VRunO.nil (tn ?_)))))))))))
  have he6:Qh g s k=Jt g s (i+1):=by exact Qkn hx1 fhc1 fhc2 hJ1
  refine ⟨(i+1:Nat),?_,?_,Wk.mk (fun k=>k) ?_ ?_ ?_⟩
  ·trivial
  ·omega
  ·exact (b2 (b2 (b2 (bc ⟨(congrArg (fun l_=>T.os 1 3 0 (List.map (Qc true) l_).length) he6),rfl⟩ (b2 (b2 bn))))))
  ·exact (b3 (b3 (b3 (bc ⟨(congrArg (fun l_=>some (Obj.rows 1 (List.map (Qc true) l_))) he6),(lb rfl),rfl⟩ bn))))
  ·exact nd rfl
 refine VRun.exit (vthn.e (vthn.e (vinB.e (tn (sr (mO (T.os 1 3 0 (((Jt g s i).map (Qc true)).length)) rfl (aO (T.os 1 3 0 (((Jt g s i).map (Qc true)).length)) rfl (nt (rt ?_)))))))))
 refine vfin.eq (r':=(T.sl true 1 ((Jt g s i).map (Qc true)))) ?_ (vfin.r (VRes.tmp (t:=(T.os 1 3 0 (((Jt g s i).map (Qc true)).length))) rfl VRes.nil) (Give.os rfl rfl (okInt.cleanMap _)))
 refine congrArg (fun l_=>T.sl true 1 (List.map (Qc true) l_)) ?_
 exact Qka g s (by omega)
end Go.Proofs.YthifchndolccgaaGreatDoor.AE
namespace Go.Proofs.YthifchndolccgaaGreatDoor.AE
open Go Go.RowKit
set_option linter.unusedVariables false
set_option linter.unusedSimpArgs false
set_option maxRecDepth 20000
set_option maxHeartbeats 2000000
noncomputable section
def inS (g:D.Grid) (c:Int) (s:D.Slot):Prop:=c∈Qh g s s.Length.toNat
instance (g:D.Grid) (c:Int) (s:D.Slot):Decidable (inS g c s):=Classical.propDecidable _
def atL (g:D.Grid) (c:Int):List D.Slot→Nat→List Int
 | [],_=> []
 | s::r,n=>(if inS g c s then [((n:Nat):Int)] else [])++atL g c r (n+1)
theorem QgE (g:D.Grid) (c:Int) (s:D.Slot):∀(l:List D.Slot) (n:Nat),atL g c (l++ [s]) n=atL g c l n++(if inS g c s then [((n+l.length:Nat):Int)] else [])
 | [],n=>by simp [atL]
 | x::r,n=>by
  rw [List.cons_append,atL,atL,QgE g c s r (n+1),List.append_assoc]
  simp only [List.length_cons,show n+1+r.length=n+(r.length+1) by omega]
def ZT (g:D.Grid) (c:Int) (i:Nat):List Int:=atL g c ((Qa g).take i) 0
theorem QbE {g:D.Grid} {c:Int} {i:Nat} {s:D.Slot} (h:(Qa g)[i]? =some s):ZT g c (i+1)=ZT g c i++(if inS g c s then [((i:Nat):Int)] else []):=by
 have hi:=(List.getElem?_eq_some_iff.1 h).1
 unfold ZT
 rw [List.take_add_one,h,Option.toList_some,QgE]
 simp [Nat.min_eq_left (Nat.le_of_lt hi)]
theorem QhI (g:D.Grid) (c:Int):∀(l:List D.Slot) (n:Nat),(atL g c l n).length≤l.length
 | [],n=>by simp [atL]
 | x::r,n=>by
  have:=QhI g c r (n+1)
  rw [atL,List.length_append,List.length_cons]
  split<;>simp only [List.length_cons,List.length_nil]<;>omega
theorem Qhy (g:D.Grid) (c:Int) (i:Nat):(ZT g c i).length≤(Qa g).length:=by
 have:=QhI g c ((Qa g).take i) 0
 rw [List.length_take] at this
 unfold ZT
 omega
theorem Qft {g:D.Grid} {i:Nat} {s:D.Slot} (h:(Qa g)[i]? =some s):(if s∈Qa g then Qh g s s.Length.toNat else [])=Qh g s s.Length.toNat:=if_pos (List.mem_of_getElem? h)
theorem QfQ (g:D.Grid) (s:D.Slot):(if s∈Qa g then Qh g s s.Length.toNat else []).length≤6:=by
 split
 ·rename_i h
  rw [Jl]
  have:=(J2 h).2.2.2
  omega
 ·simp
end
theorem Qay (n:Nat) (g:D.Grid) (c:Int) (hc:g.Cells.size≤maxLen):Pure (Qo Tryz.prog (n+5)) 101 [(T.agg (Qb false g)),(tI c)] (T.sl true 1 ((ZT g c (Qa g).length).map (Qc true))):=by
 refine Pure.intro (rs:= [ResultVar.tmp 4]) Tryz.func101 rfl rfl rfl (E0:= [(0,(T.agg (Qb false g))),(1,(tI c))]) rfl ?_
 obtain ⟨hlim,hmx,hmax⟩:=QF
 have hsl:=Q5 g
 refine sr (kO (B.box (ts:=(Qb false g)) (tv (T.agg (Qb false g)) rfl) nofun rfl) (fO (OF.assign VEv.nils) (nt (sr (kO (OM.slice0 ZL zo3 (by kernel_rfl) rfl (by rw [Zv];decide) Zv) (aO (T.os 1 1 0 0) rfl (nt (sr (lO (OL.loadOn (us:=(Qb false g)) (tv (T.op 0 0) rfl) rfl QP QN (lb rfl) rfl) (cO (OC.callF (r':=(T.os 4 2 0 (((Qa g).map (Qf true)).length))) (objs:= [(Obj.rows 4 ((Qa g).map (Qf true)))]) rfl (vc (tv (T.agg (Qb false g)) rfl) vn) (LendL.cons (lg Qq) ln) (Zi (n+1) g (by assumption)) rfl) (aO (T.os 4 2 0 (((Qa g).map (Qf true)).length)) rfl ?_)))))))))))
 refine nt (sq (sr (fO (OF.assign (VEv.int .i64 0)) (nt (VRun.block ?_)))))
 have he1: []=((ZT g c 0).map (Qc true)):=by rfl
 refine VRun.loop (A:=Nat) (fun s_=> [(1,(tI c)),(2,(T.op 0 0)),(4,T.nils),(5,(T.os 1 2 0 (((ZT g c s_).map (Qc true)).length))),(6,(T.os 4 1 0 (((Qa g).map (Qf true)).length))),(7,(tN s_))]) (fun s_=>Q0 [(0,(Obj.cells (Qb false g))),(1,(Obj.rows 4 ((Qa g).map (Qf true)))),(2,(Obj.rows 1 ((ZT g c s_).map (Qc true))))]) 3 (fun s_=>s_≤(Qa g).length) (fun s_=>(Qa g).length - s_) (0:Nat) ?_ (Wk.mk (fun k=>if k=1 then 2 else if k=2 then 1 else k) ?_ ?_ ?_) ?_
 ·(simp;done)
 ·exact (b2 (b2 (b2 (bc ⟨(congrArg (fun n_=>T.os 1 1 0 n_) (show 0=((ZT g c 0).map (Qc true)).length from (by rfl))),rfl⟩ (b2 (b2 bn))))))
 ·exact (b3 (b3 (bc ⟨(congrArg (fun l_=>some (Obj.rows 1 l_)) he1),(lb rfl),rfl⟩ bn)))
 ·exact nd rfl
 rintro i (hI':i≤(Qa g).length)
 show VRun _ _ _ [(1,(tI c)),(2,(T.op 0 0)),(4,T.nils),(5,(T.os 1 2 0 (((ZT g c i).map (Qc true)).length))),(6,(T.os 4 1 0 (((Qa g).map (Qf true)).length))),(7,(tN i))] (Q0 [(0,(Obj.cells (Qb false g))),(1,(Obj.rows 4 ((Qa g).map (Qf true)))),(2,(Obj.rows 1 ((ZT g c i).map (Qc true))))]) 3 _
 have hI1:=hI'
 have hal:=Qhy g c i
 refine sq (sr (mO (tN i) rfl (mO (T.os 4 1 0 (((Qa g).map (Qf true)).length)) rfl (lO (B.lenO (m:=(Qa g).length) (tv (T.os 4 1 0 (((Qa g).map (Qf true)).length)) rfl) J6 (List.length_map ..)) (fO (Ze (tv (tN i) rfl) (tv (tN ((Qa g).length)) rfl)) (nt ?_))))))
 refine cd (i<(Qa g).length) rfl (fun fhc0=> ?_) fun fhc0=> ?_
 ·refine sk ?_
  refine tn (sq (VRun.block (sq (VRun.draw (B:= [[],[],[],[2,1],[1,2,3],[3,2,1,4,0],[],[6,0,4,1,2,3,5]]) (by kernel_rfl) (by kernel_rfl) (lD (OL.loadOn (us:=(Qb false g)) (tv (T.op 0 0) rfl) rfl QP QN (lb rfl) rfl) rfl rfl (mD (T.os 4 1 0 (((Qa g).map (Qf true)).length)) rfl rfl (mD (tN i) rfl rfl ?_)))))))
  obtain ⟨x1,hx1⟩:∃x,(Qa g)[i]? =some x:=⟨_,List.getElem?_eq_getElem (by omega)⟩
  refine fD (B.indexAddrO (i:=i) (tv (T.os 4 1 0 (((Qa g).map (Qf true)).length)) rfl) (tv (tN i) rfl) rfl (by (simp only [List.length_map];omega)) J6 ZJ Qc5) rfl rfl (lD (OL.loadPn (us:=(Qf false x1)) (row:=(Qf true x1)) (tv (T.orp 4 1 i 0) rfl) rfl (Qw _ hx1) Qfs ZJ (lb rfl) rfl (bc rfl (bc rfl (bc rfl (bc rfl bn))))) rfl rfl (VRunD.quiet (bi:= [3,2,1,4,0]) rfl VWant.always rfl rfl rfl bn (OC.callF (r':=(T.os 1 3 0 (((if x1∈Qa g then Qh g x1 x1.Length.toNat else []).map (Qc true)).length))) (objs:= [(Obj.rows 1 ((if x1∈Qa g then Qh g x1 x1.Length.toNat else []).map (Qc true)))]) rfl (vc (tv (T.agg (Qb false g)) rfl) (vc (tv (T.agg (Qf false x1)) rfl) vn)) (LendL.cons (lg Qq) (LendL.cons (lg okeSlot) ln)) (Jh (n+0) g x1 (by assumption)) rfl) (mD (tI c) rfl rfl (VRunD.quiet (bi:= [6,0,4,1,2,3,5]) rfl VWant.always rfl rfl rfl bn (cS (us:= [(rd 1 Qc (if x1∈Qa g then Qh g x1 x1.Length.toNat else [])),(tI c)]) (vc (tv (T.os 1 3 0 (((if x1∈Qa g then Qh g x1 x1.Length.toNat else []).map (Qc true)).length)) rfl) (vc (tv (tI c) rfl) vn)) (LendL.cons (Lend.os rfl rfl (okInt.fzMap _ _)) (lp rfl ln)) (QfJ (n+3) (if x1∈Qa g then Qh g x1 x1.Length.toNat else []) c (by exact Nat.le_trans (QfQ g _) (by decide))) rfl rfl) (VRunD.nil (tn ?_))))))
  refine cd (c∈(if x1∈Qa g then Qh g x1 x1.Length.toNat else [])) rfl (fun fhc1=> ?_) fun fhc1=> ?_
  ·rw [Qft hx1] at fhc1
   have q1:inS g c x1:=fhc1
   refine VRun.region (mO (T.os 1 2 0 (((ZT g c i).map (Qc true)).length)) rfl (mO (tN i) rfl (kO (OM.buildSlice (l:= [(tN i)]) (VEvp.cons (tv (tN i) rfl) VEvp.nil) rfl (by decide) (bc (nofun) bn) (bc ((bc (rfl) bn)) bn) (bc (rfl) bn) ZL zo3 (by kernel_rfl) rfl (by rw [Zv];decide) Zv (Nat.le_of_ble_eq_true rfl)) (cO (B.append (rows:=((ZT g c i).map (Qc true))) (rows2:= [[(tN i)]]) (rows3:=((ZT g c i++ [((i:Nat):Int)]).map (Qc true))) (VDst.own (tv (T.os 1 2 0 (((ZT g c i).map (Qc true)).length)) rfl) rfl rfl) (VSrc.own (tv (T.os 1 4 0 1) rfl) rfl rfl ZL (bc (bc rfl bn) bn)) (by decide) ZL Zv (by decide) zo3 rfl (of_decide_eq_true (by kernel_rfl)) (by (simp only [List.length_map,List.length_append,List.length_cons,List.length_nil,List.length_replicate,List.length_set,List.length_drop,List.length_take,YD] at *;omega)) ((List.map_append (f:=Qc true) (l₁:=ZT g c i) (l₂:= [((i:Nat):Int)])).symm)) (aO (T.os 1 5 0 (((ZT g c i++ [((i:Nat):Int)]).map (Qc true)).length)) rfl (VRunO.nil (vinB.n (tn (VRun.region (mO (tN i) rfl (fO (QA (tv (tN i) rfl) (VEv.int .i64 1) (by omega)) ?_)))))))))))
   refine aO (tN (i+1)) rfl (VRunO.nil (tn ?_))
   have he2:(ZT g c i++ [((i:Nat):Int)])=ZT g c (i+1):=by rw [QbE hx1,if_pos q1]
   refine ⟨(i+1:Nat),?_,?_,Wk.mk (fun k=>if k=2 then 5 else k) ?_ ?_ ?_⟩
   ·trivial
   ·omega
   ·exact (b2 (b2 (b2 (bc ⟨(congrArg (fun l_=>T.os 1 5 0 (List.map (Qc true) l_).length) he2),rfl⟩ (b2 (b2 bn))))))
   ·exact (b3 (b3 (bc ⟨(congrArg (fun l_=>some (Obj.rows 1 (List.map (Qc true) l_))) he2),(lb rfl),rfl⟩ bn)))
   ·exact nd rfl
  rw [Qft hx1] at fhc1
  have q1:¬inS g c x1:=fhc1
  refine sk (vinB.n (tn (VRun.region (mO (tN i) rfl (fO (QA (tv (tN i) rfl) (VEv.int .i64 1) (by omega)) (aO (tN (i+1)) rfl (VRunO.nil (tn ?_))))))))
  have he3:ZT g c i=ZT g c (i+1):=by rw [QbE hx1,if_neg q1,List.append_nil]
  refine ⟨(i+1:Nat),?_,?_,Wk.mk (fun k=>k) ?_ ?_ ?_⟩
  ·trivial
  ·omega
  ·exact (b2 (b2 (b2 (bc ⟨(congrArg (fun l_=>T.os 1 2 0 (List.map (Qc true) l_).length) he3),rfl⟩ (b2 (b2 bn))))))
  ·exact (b3 (b3 (bc ⟨(congrArg (fun l_=>some (Obj.rows 1 (List.map (Qc true) l_))) he3),(lb rfl),rfl⟩ bn)))
  ·exact nd rfl
 refine VRun.exit (vthn.e (vthn.e (vinB.e (tn (sr (mO (T.os 1 2 0 (((ZT g c i).map (Qc true)).length)) rfl (aO (T.os 1 2 0 (((ZT g c i).map (Qc true)).length)) rfl (nt (rt ?_)))))))))
 refine vfin.eq (r':=(T.sl true 1 ((ZT g c i).map (Qc true)))) ?_ (vfin.r (VRes.tmp (t:=(T.os 1 2 0 (((ZT g c i).map (Qc true)).length))) rfl VRes.nil) (Give.os rfl rfl (okInt.cleanMap _)))
 refine congrArg (fun l_=>T.sl true 1 (List.map (Qc true) l_)) ?_
 rw [show i=(Qa g).length from by omega]
noncomputable section
theorem Qdr {g:D.Grid} {i:Nat} {x:List Int} (h:(QD g)[i]? =some x):∃s,(Qa g)[i]? =some s∧x=Qh g s s.Length.toNat:=by
 unfold QD at h
 rw [List.getElem?_map] at h
 obtain ⟨s,h1,h2⟩:=Option.map_eq_some_iff.1 h
 exact ⟨s,h1,h2.symm⟩
theorem QaP {g:D.Grid} {s:D.Slot} {i:Nat} (h:(Qa g)[i]? =some s):(Qh g s s.Length.toNat).length≤6:=by
 rw [Jl]
 have:=(J2 (List.mem_of_getElem? h)).2.2.2
 omega
end
theorem Qd2 (n:Nat) (g:D.Grid) (c:Int) (hc:g.Cells.size≤maxLen):Pure (Qo Tryz.prog (n+5)) 138 [(T.agg (Qb false g)),(tI c)] (T.sl true 1 ((ZT g c (Qa g).length).map (Qc true))):=by
 refine Pure.intro (rs:= [ResultVar.tmp 4]) Tryz.func138 rfl rfl rfl (E0:= [(0,(T.agg (Qb false g))),(1,(tI c))]) rfl ?_
 obtain ⟨hlim,hmx,hmax⟩:=QF
 have hsl:=Q5 g
 have hll:=JY g
 refine sr (kO (B.box (ts:=(Qb false g)) (tv (T.agg (Qb false g)) rfl) nofun rfl) (fO (OF.assign VEv.nils) (nt (sr (fO (OF.assign VEv.nils) (nt (sq (sr (lO (OL.loadOn (us:=(Qb false g)) (tv (T.op 0 0) rfl) rfl QP QN (lb rfl) rfl) (cO (OC.callF (r':=(T.os 1 1 0 (((QD g).map ((Yw 1 Qc) true)).length))) (objs:= [(Obj.rows 1 ((QD g).map ((Yw 1 Qc) true)))]) rfl (vc (tv (T.agg (Qb false g)) rfl) vn) (LendL.cons (lg Qq) ln) (YQ (n+0) g (by assumption)) rfl) (lO (B.lenO (m:=(QD g).length) (tv (T.os 1 1 0 (((QD g).map ((Yw 1 Qc) true)).length)) rfl) Qd1 (List.length_map ..)) ?_)))))))))))
 refine fO (OF.move (VEv.int .i64 0)) (nt (VRun.block (VRun.wk (Wk.freeze (sz:=1) (k:=1) (rows':=((QD g).map ((Yw 1 Qc) false))) [9] (bc rfl bn) rfl rfl ((QjH okInt).fzMap _ _)) (VRun.wk (Wk.phantom 5 1 rfl) ?_))))
 have he1: []=((ZT g c 0).map (Qc true)):=by rfl
 refine VRun.loop (A:=Nat) (fun s_=> [(1,(tI c)),(4,T.nils),(5,(T.os 1 0 0 (((ZT g c s_).map (Qc true)).length))),(9,(rd 1 (Yw 1 Qc) (QD g))),(10,(tN ((QD g).length))),(11,(tN s_))]) (fun s_=>Q0 [(0,(Obj.rows 1 ((ZT g c s_).map (Qc true))))]) 1 (fun s_=>s_≤(QD g).length) (fun s_=>(QD g).length - s_) (0:Nat) ?_ (Wk.mk (fun k=>if k=0 then 2 else k) ?_ ?_ ?_) ?_
 ·(simp;done)
 ·exact (b2 (b2 (bc ⟨(congrArg (fun n_=>T.os 1 2 0 n_) (show 0=((ZT g c 0).map (Qc true)).length from (by rfl))),rfl⟩ (b2 (b2 (b2 bn))))))
 ·exact (bc ⟨(congrArg (fun l_=>some (Obj.rows 1 l_)) he1),(lb rfl),rfl⟩ bn)
 ·exact nd rfl
 rintro i (hI':i≤(QD g).length)
 show VRun _ _ _ [(1,(tI c)),(4,T.nils),(5,(T.os 1 0 0 (((ZT g c i).map (Qc true)).length))),(9,(rd 1 (Yw 1 Qc) (QD g))),(10,(tN ((QD g).length))),(11,(tN i))] (Q0 [(0,(Obj.rows 1 ((ZT g c i).map (Qc true))))]) 1 _
 have hI1:=hI'
 have hal:=Qhy g c i
 refine sr (fO (Ze (tv (tN i) rfl) (tv (tN ((QD g).length)) rfl)) (nt (sq ?_)))
 refine cd (i<(QD g).length) rfl (fun fhc0=> ?_) fun fhc0=> ?_
 ·refine sk ?_
  refine tn (sq (VRun.block (sr (mO (tN i) rfl ?_))))
  obtain ⟨x1,hx1⟩:∃x,(QD g)[i]? =some x:=⟨_,List.getElem?_eq_getElem (by omega)⟩
  obtain ⟨y1,hy1,hq1⟩:=Qdr hx1
  refine fO (OF.indexAddrR (row:=((Yw 1 Qc) false x1)) (i:=i) (tv (rd 1 (Yw 1 Qc) (QD g)) rfl) (tv (tN i) rfl) rfl (Qw _ hx1) Qd1 Qeu Qhe) (lO (OL.loadR1 (t:=(rd 1 Qc x1)) (tv (T.rp [(rd 1 Qc x1)]) rfl) rfl QcI) (aO (tN i) rfl (aO (rd 1 Qc x1) rfl (nt (sr (mO (rd 1 Qc x1) rfl (mO (tI c) rfl (cO (cS (vc (tv (rd 1 Qc x1) rfl) (vc (tv (tI c) rfl) vn)) (ZQ rfl) (Jk (n+2) x1 c (by (rw [hq1];exact Nat.le_trans (QaP hy1) (by decide)))) rfl rfl) (nt ?_)))))))))
  refine cd (c∈x1) rfl (fun fhc1=> ?_) fun fhc1=> ?_
  ·have q1:inS g c y1:=by rw [inS,← hq1];exact fhc1
   refine VRun.region (mO (T.os 1 0 0 (((ZT g c i).map (Qc true)).length)) rfl (mO (tN i) rfl (kO (OM.buildSlice (l:= [(tN i)]) (VEvp.cons (tv (tN i) rfl) VEvp.nil) rfl (by decide) (bc (nofun) bn) (bc ((bc (rfl) bn)) bn) (bc (rfl) bn) ZL zo3 (by kernel_rfl) rfl (by rw [Zv];decide) Zv (Nat.le_of_ble_eq_true rfl)) (cO (B.append (rows:=((ZT g c i).map (Qc true))) (rows2:= [[(tN i)]]) (rows3:=((ZT g c i++ [((i:Nat):Int)]).map (Qc true))) (VDst.own (tv (T.os 1 0 0 (((ZT g c i).map (Qc true)).length)) rfl) rfl rfl) (VSrc.own (tv (T.os 1 1 0 1) rfl) rfl rfl ZL (bc (bc rfl bn) bn)) (by decide) ZL Zv (by decide) zo3 rfl (of_decide_eq_true (by kernel_rfl)) (by (simp only [List.length_map,List.length_append,List.length_cons,List.length_nil,List.length_replicate,List.length_set,List.length_drop,List.length_take,YD] at *;omega)) ((List.map_append (f:=Qc true) (l₁:=ZT g c i) (l₂:= [((i:Nat):Int)])).symm)) (aO (T.os 1 2 0 (((ZT g c i++ [((i:Nat):Int)]).map (Qc true)).length)) rfl (VRunO.nil (vinB.n (tn (VRun.region (fO (QA (tv (tN i) rfl) (VEv.int .i64 1) (by omega)) (mO (tN (i+1)) rfl ?_)))))))))))
   refine VRunO.nil (tn ?_)
   have he2:(ZT g c i++ [((i:Nat):Int)])=ZT g c (i+1):=by rw [QbE hy1,if_pos q1]
   refine ⟨(i+1:Nat),?_,?_,Wk.mk (fun k=>if k=0 then 2 else k) ?_ ?_ ?_⟩
   ·trivial
   ·omega
   ·exact (b2 (b2 (bc ⟨(congrArg (fun l_=>T.os 1 2 0 (List.map (Qc true) l_).length) he2),rfl⟩ (b2 (b2 (b2 bn))))))
   ·exact (bc ⟨(congrArg (fun l_=>some (Obj.rows 1 (List.map (Qc true) l_))) he2),(lb rfl),rfl⟩ bn)
   ·exact nd rfl
  have q1:¬inS g c y1:=by rw [inS,← hq1];exact fhc1
  refine sk (vinB.n (tn (VRun.region (fO (QA (tv (tN i) rfl) (VEv.int .i64 1) (by omega)) (mO (tN (i+1)) rfl (VRunO.nil (tn ?_)))))))
  have he3:ZT g c i=ZT g c (i+1):=by rw [QbE hy1,if_neg q1,List.append_nil]
  refine ⟨(i+1:Nat),?_,?_,Wk.mk (fun k=>k) ?_ ?_ ?_⟩
  ·trivial
  ·omega
  ·exact (b2 (b2 (bc ⟨(congrArg (fun l_=>T.os 1 0 0 (List.map (Qc true) l_).length) he3),rfl⟩ (b2 (b2 (b2 bn))))))
  ·exact (bc ⟨(congrArg (fun l_=>some (Obj.rows 1 (List.map (Qc true) l_))) he3),(lb rfl),rfl⟩ bn)
  ·exact nd rfl
 refine VRun.exit (vthn.e (vthn.e (vinB.e (tn (sr (mO (T.os 1 0 0 (((ZT g c i).map (Qc true)).length)) rfl (aO (T.os 1 0 0 (((ZT g c i).map (Qc true)).length)) rfl (nt (rt ?_)))))))))
 refine vfin.eq (r':=(T.sl true 1 ((ZT g c i).map (Qc true)))) ?_ (vfin.r (VRes.tmp (t:=(T.os 1 0 0 (((ZT g c i).map (Qc true)).length))) rfl VRes.nil) (Give.os rfl rfl (okInt.cleanMap _)))
 refine congrArg (fun l_=>T.sl true 1 (List.map (Qc true) l_)) ?_
 rw [show i=(Qa g).length from by omega]
noncomputable section
def chk (g:D.Grid) (c:Int):Prop:=(ZT g c (Qa g).length).length=2
instance (g:D.Grid) (c:Int):Decidable (chk g c):=Classical.propDecidable _
end
theorem QcH (n:Nat) (g:D.Grid) (c:Int) (hc:g.Cells.size≤maxLen):Pure (Qo Tryz.prog (n+6)) 133 [(T.agg (Qb false g)),(tI c)] (tB (decide (chk g c))):=by
 refine Pure.intro (rs:= [ResultVar.tmp 4]) Tryz.func133 rfl rfl rfl (E0:= [(0,(T.agg (Qb false g))),(1,(tI c))]) rfl ?_
 obtain ⟨hlim,hmx,hmax⟩:=QF
 refine sr (kO (B.box (ts:=(Qb false g)) (tv (T.agg (Qb false g)) rfl) nofun rfl) (fO (OF.assign (VEv.bool false)) (nt (sr (lO (OL.loadOn (us:=(Qb false g)) (tv (T.op 0 0) rfl) rfl QP QN (lb rfl) rfl) (mO (tI c) rfl (cO (OC.callF (r':=(T.os 1 1 0 (((ZT g c (Qa g).length).map (Qc true)).length))) (objs:= [(Obj.rows 1 ((ZT g c (Qa g).length).map (Qc true)))]) rfl (vc (tv (T.agg (Qb false g)) rfl) (vc (tv (tI c) rfl) vn)) (LendL.cons (lg Qq) (lp rfl ln)) (Qay (n+0) g c (by assumption)) rfl) (lO (B.lenO (m:=(ZT g c (Qa g).length).length) (tv (T.os 1 1 0 (((ZT g c (Qa g).length).map (Qc true)).length)) rfl) ZL (List.length_map ..)) (fO (B.eql (c:=(decide ((ZT g c (Qa g).length).length=2))) (tv (tN ((ZT g c (Qa g).length).length)) rfl) (VEv.int .i64 2) (Q4 (by omega))) (aO (tB (decide ((ZT g c (Qa g).length).length=2))) rfl (nt ?_)))))))))))
 refine rt (vb (b':=(decide ((ZT g c (Qa g).length).length=2))) rfl ?_)
 exact Q4 Iff.rfl
theorem Qci (n:Nat) (g:D.Grid) (c:Int) (hc:g.Cells.size≤maxLen):Pure (Qo Tryz.prog (n+6)) 107 [(T.agg (Qb false g)),(tI c)] (tB (decide (chk g c))):=by
 refine Pure.intro (rs:= [ResultVar.tmp 4]) Tryz.func107 rfl rfl rfl (E0:= [(0,(T.agg (Qb false g))),(1,(tI c))]) rfl ?_
 obtain ⟨hlim,hmx,hmax⟩:=QF
 refine sr (kO (B.box (ts:=(Qb false g)) (tv (T.agg (Qb false g)) rfl) nofun rfl) (fO (OF.assign (VEv.bool false)) (nt (sr (lO (OL.loadOn (us:=(Qb false g)) (tv (T.op 0 0) rfl) rfl QP QN (lb rfl) rfl) (mO (tI c) rfl (cO (OC.callF (r':=(T.os 1 1 0 (((ZT g c (Qa g).length).map (Qc true)).length))) (objs:= [(Obj.rows 1 ((ZT g c (Qa g).length).map (Qc true)))]) rfl (vc (tv (T.agg (Qb false g)) rfl) (vc (tv (tI c) rfl) vn)) (LendL.cons (lg Qq) (lp rfl ln)) (Qd2 (n+0) g c (by assumption)) rfl) (lO (B.lenO (m:=(ZT g c (Qa g).length).length) (tv (T.os 1 1 0 (((ZT g c (Qa g).length).map (Qc true)).length)) rfl) ZL (List.length_map ..)) (fO (B.eql (c:=(decide ((ZT g c (Qa g).length).length=2))) (tv (tN ((ZT g c (Qa g).length).length)) rfl) (VEv.int .i64 2) (Q4 (by omega))) (aO (tB (decide ((ZT g c (Qa g).length).length=2))) rfl (nt ?_)))))))))))
 refine rt (vb (b':=(decide ((ZT g c (Qa g).length).length=2))) rfl ?_)
 exact Q4 Iff.rfl
end Go.Proofs.YthifchndolccgaaGreatDoor.AE
namespace Go.Proofs.YthifchndolccgaaGreatDoor.AE
open Go Go.RowKit
set_option linter.unusedVariables false
set_option linter.unusedSimpArgs false
set_option maxRecDepth 20000
set_option maxHeartbeats 2000000
noncomputable section
def nUn (g:D.Grid) (l:List Int):Nat:=(l.filter fun c=> !decide (chk g c)).length
theorem Qhj (g:D.Grid) (l:List Int):nUn g l≤l.length:=List.length_filter_le _ _
theorem Qb3 {g:D.Grid} {l:List Int} {i:Nat} {x:Int} (h:l[i]? =some x):nUn g (l.take (i+1))=nUn g (l.take i)+(if chk g x then 0 else 1):=by
 unfold nUn
 rw [List.take_add_one,h,List.filter_append,List.length_append]
 by_cases hc:chk g x<;>simp [hc]
def unG (g:D.Grid) (slot:Int):Int:=if 0≤slot then (match (Qa g)[slot.toNat]? with | some s=>((nUn g (Qh g s s.Length.toNat):Nat):Int) | none=> -1) else -1
theorem Qjc {g:D.Grid} {slot:Int} (h:¬(0≤slot∧slot<(((Qa g).length:Nat):Int))):unG g slot= -1:=by
 unfold unG
 by_cases h1:0≤slot
 ·rw [if_pos h1,List.getElem?_eq_none (by omega)]
 ·rw [if_neg h1]
theorem QjL {g:D.Grid} {slot:Int} {s:D.Slot} (h1:0≤slot) (h:(Qa g)[slot.toNat]? =some s):unG g slot=((nUn g (Qh g s s.Length.toNat):Nat):Int):=by
 unfold unG
 rw [if_pos h1,h]
theorem Yt {α:Type} {l:List α} {i:Nat} (h1:i≤l.length) (h2:¬i<l.length):l.take i=l:=List.take_of_length_le (by omega)
theorem ZZ {α:Type} (l:List α) (i:Nat):(l.take i).length≤i:=by rw [List.length_take];omega
end
theorem Qbc (n:Nat) (g:D.Grid) (slot:Int) (hc:g.Cells.size≤maxLen):Pure (Qo Tryz.prog (n+7)) 99 [(T.agg (Qb false g)),(tI slot)] (tI (unG g slot)):=by
 refine Pure.intro (rs:= [ResultVar.tmp 4]) Tryz.func99 rfl rfl rfl (E0:= [(0,(T.agg (Qb false g))),(1,(tI slot))]) rfl ?_
 obtain ⟨hlim,hmx,hmax⟩:=QF
 have hsl:=Q5 g
 refine sr (kO (B.box (ts:=(Qb false g)) (tv (T.agg (Qb false g)) rfl) nofun rfl) (fO (OF.assign (VEv.int .i64 0)) (nt (sr (lO (OL.loadOn (us:=(Qb false g)) (tv (T.op 0 0) rfl) rfl QP QN (lb rfl) rfl) (cO (OC.callF (r':=(T.os 4 1 0 (((Qa g).map (Qf true)).length))) (objs:= [(Obj.rows 4 ((Qa g).map (Qf true)))]) rfl (vc (tv (T.agg (Qb false g)) rfl) vn) (LendL.cons (lg Qq) ln) (Zi (n+3) g (by assumption)) rfl) (aO (T.os 4 1 0 (((Qa g).map (Qf true)).length)) rfl (nt (sq (sr (mO (tI slot) rfl ?_)))))))))))
 refine mO (T.os 4 1 0 (((Qa g).map (Qf true)).length)) rfl (lO (B.lenO (m:=(Qa g).length) (tv (T.os 4 1 0 (((Qa g).map (Qf true)).length)) rfl) J6 (List.length_map ..)) (fO (B.sub (n:=((((Qa g).length:Nat):Int) - 1)) (tv (tN ((Qa g).length)) rfl) (VEv.int .i64 1) (by (rw [Qs (by omega)];done))) (cO (cS (vc (tv (tI slot) rfl) (vc (VEv.int .i64 0) (vc (tv (tI ((((Qa g).length:Nat):Int) - 1)) rfl) vn))) (ZQ rfl) (QQ (n+5) slot 0 ((((Qa g).length:Nat):Int) - 1)) rfl rfl) (fO (QY (tv (tB (decide (0≤slot∧slot≤((((Qa g).length:Nat):Int) - 1)))) rfl)) (nt ?_)))))
 refine cn (0≤slot∧slot≤((((Qa g).length:Nat):Int) - 1)) rfl (fun fhc0=> ?_) fun fhc0=> ?_
 ·refine sr ?_
  refine fO (OF.assign (VEv.int .i64 (-1))) (nt (rt (tr (vi (n':=(-1)) rfl ?_))))
  exact (Qjc (by omega)).symm
 have hs0:0≤slot:=by omega
 refine sk (tn (sq (VRun.draw (B:= [[],[],[],[2,1],[1,2,3],[3,2,1,4,0],[0,4,1,2,3,5]]) (by kernel_rfl) (by kernel_rfl) (lD (OL.loadOn (us:=(Qb false g)) (tv (T.op 0 0) rfl) rfl QP QN (lb rfl) rfl) rfl rfl (mD (T.os 4 1 0 (((Qa g).map (Qf true)).length)) rfl rfl (mD (tI slot) rfl rfl ?_))))))
 obtain ⟨x1,hx1⟩:∃x,(Qa g)[(Int.toNat slot)]? =some x:=⟨_,List.getElem?_eq_getElem (by omega)⟩
 refine fD (B.indexAddrO (i:=(Int.toNat slot)) (tv (T.os 4 1 0 (((Qa g).map (Qf true)).length)) rfl) (tv (tI slot) rfl) (by omega) (by (simp only [List.length_map];omega)) J6 ZJ Qc5) rfl rfl (lD (OL.loadPn (us:=(Qf false x1)) (row:=(Qf true x1)) (tv (T.orp 4 1 (Int.toNat slot) 0) rfl) rfl (Qw _ hx1) Qfs ZJ (lb rfl) rfl (bc rfl (bc rfl (bc rfl (bc rfl bn))))) rfl rfl (VRunD.quiet (bi:= [3,2,1,4,0]) rfl VWant.always rfl rfl rfl bn (OC.callF (r':=(T.os 1 2 0 (((if x1∈Qa g then Qh g x1 x1.Length.toNat else []).map (Qc true)).length))) (objs:= [(Obj.rows 1 ((if x1∈Qa g then Qh g x1 x1.Length.toNat else []).map (Qc true)))]) rfl (vc (tv (T.agg (Qb false g)) rfl) (vc (tv (T.agg (Qf false x1)) rfl) vn)) (LendL.cons (lg Qq) (LendL.cons (lg okeSlot) ln)) (Jh (n+2) g x1 (by assumption)) rfl) (fD (OF.assign (tv (T.os 1 2 0 (((if x1∈Qa g then Qh g x1 x1.Length.toNat else []).map (Qc true)).length)) rfl)) rfl rfl (VRunD.nil (tn (sr (fO (OF.assign (VEv.int .i64 0)) (nt (sq (sr (fO (OF.assign (VEv.int .i64 0)) ?_)))))))))))
 refine nt (VRun.block ?_)
 refine VRun.loop (A:=Nat×Nat) (fun s_=> [(2,(T.op 0 0)),(4,(tN 0)),(6,(T.os 1 1 0 (((if x1∈Qa g then Qh g x1 x1.Length.toNat else []).map (Qc true)).length))),(7,(tN s_.2)),(8,(tN s_.1))]) (fun s_=>Q0 [(0,(Obj.cells (Qb false g))),(1,(Obj.rows 1 ((if x1∈Qa g then Qh g x1 x1.Length.toNat else []).map (Qc true))))]) 2 (fun s_=>s_.1≤(if x1∈Qa g then Qh g x1 x1.Length.toNat else []).length∧s_.2=nUn g ((if x1∈Qa g then Qh g x1 x1.Length.toNat else []).take s_.1)) (fun s_=>(if x1∈Qa g then Qh g x1 x1.Length.toNat else []).length - s_.1) ((0,0):Nat×Nat) ?_ (Wk.mk (fun k=>if k=1 then 2 else k) ?_ ?_ ?_) ?_
 ·exact ⟨Nat.zero_le _,rfl⟩
 ·exact (b2 (b2 (b2 (b2 (b2 bn)))))
 ·exact (b3 (b3 bn))
 ·exact nd rfl
 rintro ⟨i,m⟩ (hI':i≤(if x1∈Qa g then Qh g x1 x1.Length.toNat else []).length∧m=nUn g ((if x1∈Qa g then Qh g x1 x1.Length.toNat else []).take i))
 show VRun _ _ _ [(2,(T.op 0 0)),(4,(tN 0)),(6,(T.os 1 1 0 (((if x1∈Qa g then Qh g x1 x1.Length.toNat else []).map (Qc true)).length))),(7,(tN m)),(8,(tN i))] (Q0 [(0,(Obj.cells (Qb false g))),(1,(Obj.rows 1 ((if x1∈Qa g then Qh g x1 x1.Length.toNat else []).map (Qc true))))]) 2 _
 have hI1:=hI'.1
 have hl6:=QfQ g x1
 have hn6:=Qhj g ((if x1∈Qa g then Qh g x1 x1.Length.toNat else []).take i)
 have ht6:=ZZ (if x1∈Qa g then Qh g x1 x1.Length.toNat else []) i
 have hI2:=hI'.2
 refine sq (sr (mO (tN i) rfl (mO (T.os 1 1 0 (((if x1∈Qa g then Qh g x1 x1.Length.toNat else []).map (Qc true)).length)) rfl (lO (B.lenO (m:=(if x1∈Qa g then Qh g x1 x1.Length.toNat else []).length) (tv (T.os 1 1 0 (((if x1∈Qa g then Qh g x1 x1.Length.toNat else []).map (Qc true)).length)) rfl) ZL (List.length_map ..)) (fO (Ze (tv (tN i) rfl) (tv (tN ((if x1∈Qa g then Qh g x1 x1.Length.toNat else []).length)) rfl)) (nt ?_))))))
 refine cd (i<(if x1∈Qa g then Qh g x1 x1.Length.toNat else []).length) rfl (fun fhc1=> ?_) fun fhc1=> ?_
 ·refine sk ?_
  refine tn (sq (VRun.block (sq (VRun.draw (B:= [[],[],[],[2,1],[1,2,3],[3,2,1,4,0],[0,4,1,2,3,5]]) (by kernel_rfl) (by kernel_rfl) (lD (OL.loadOn (us:=(Qb false g)) (tv (T.op 0 0) rfl) rfl QP QN (lb rfl) rfl) rfl rfl (mD (T.os 1 1 0 (((if x1∈Qa g then Qh g x1 x1.Length.toNat else []).map (Qc true)).length)) rfl rfl (mD (tN i) rfl rfl ?_)))))))
  obtain ⟨x2,hx2⟩:∃x,(if x1∈Qa g then Qh g x1 x1.Length.toNat else [])[i]? =some x:=⟨_,List.getElem?_eq_getElem (by omega)⟩
  refine fD (B.indexAddrO (i:=i) (tv (T.os 1 1 0 (((if x1∈Qa g then Qh g x1 x1.Length.toNat else []).map (Qc true)).length)) rfl) (tv (tN i) rfl) rfl (by (simp only [List.length_map];omega)) ZL Zv Y7) rfl rfl (lD (OL.loadP1 (t:=(tI x2)) (row:=(Qc true x2)) (tv (T.orp 1 1 i 0) rfl) rfl (Qw _ hx2) rfl rfl QV) rfl rfl (VRunD.quiet (bi:= [3,2,1,4,0]) rfl VWant.always rfl rfl rfl bn (cS (vc (tv (T.agg (Qb false g)) rfl) (vc (tv (tI x2) rfl) vn)) (LendL.cons (lg Qq) (lp rfl ln)) (QcH (n+0) g x2 (by assumption)) rfl rfl) (fD (QY (tv (tB (decide (chk g x2))) rfl)) rfl rfl (VRunD.nil (tn ?_)))))
  refine cn (chk g x2) rfl (fun fhc2=> ?_) fun fhc2=> ?_
  ·refine VRun.region ?_
   refine mO (tN m) rfl (fO (QA (tv (tN m) rfl) (VEv.int .i64 1) (by omega)) (aO (tN (m+1)) rfl (VRunO.nil (vinB.n (tn (VRun.region (mO (tN i) rfl (fO (QA (tv (tN i) rfl) (VEv.int .i64 1) (by omega)) (aO (tN (i+1)) rfl (VRunO.nil (tn ?_)))))))))))
   refine ⟨((i+1,m+(if chk g x2 then 0 else 1)):Nat×Nat),?_,?_,Wk.mk (fun k=>k) ?_ ?_ ?_⟩
   ·exact ⟨by omega,by rw [Qb3 hx2,← hI2]⟩
   ·omega
   ·exact (b2 (b2 (b2 (bc ⟨(congrArg (T.int .i64) (show (((m+1):Nat):Int)=(((m+(if chk g x2 then 0 else 1)):Nat):Int) from (by (rw [if_neg fhc2];done)))),rfl⟩ (b2 bn)))))
   ·exact (b3 (b3 bn))
   ·exact nd rfl
  refine sk (vinB.n (tn (VRun.region (mO (tN i) rfl (fO (QA (tv (tN i) rfl) (VEv.int .i64 1) (by omega)) (aO (tN (i+1)) rfl (VRunO.nil (tn ?_))))))))
  refine ⟨((i+1,m+(if chk g x2 then 0 else 1)):Nat×Nat),?_,?_,Wk.mk (fun k=>k) ?_ ?_ ?_⟩
  ·exact ⟨by omega,by rw [Qb3 hx2,← hI2]⟩
  ·omega
  ·exact (b2 (b2 (b2 (bc ⟨(congrArg (T.int .i64) (show ((m:Nat):Int)=(((m+(if chk g x2 then 0 else 1)):Nat):Int) from (by (rw [if_pos fhc2];omega)))),rfl⟩ (b2 bn)))))
  ·exact (b3 (b3 bn))
  ·exact nd rfl
 refine VRun.exit (vthn.e (vthn.e (vinB.e (tn (sr (mO (tN m) rfl (aO (tN m) rfl (nt (rt (vi (n':=((m:Nat):Int)) rfl ?_))))))))))
 rw [QjL hs0 hx1,hI2,Yt hI1 fhc1,Qft hx1]
theorem Qbl (n:Nat) (g:D.Grid) (slot:Int) (hc:g.Cells.size≤maxLen):Pure (Qo Tryz.prog (n+7)) 80 [(T.agg (Qb false g)),(tI slot)] (tI (unG g slot)):=by
 refine Pure.intro (rs:= [ResultVar.tmp 4]) Tryz.func80 rfl rfl rfl (E0:= [(0,(T.agg (Qb false g))),(1,(tI slot))]) rfl ?_
 obtain ⟨hlim,hmx,hmax⟩:=QF
 have hsl:=Q5 g
 have hll:=JY g
 refine sr (kO (B.box (ts:=(Qb false g)) (tv (T.agg (Qb false g)) rfl) nofun rfl) (fO (OF.assign (VEv.int .i64 0)) (nt (sr (lO (OL.loadOn (us:=(Qb false g)) (tv (T.op 0 0) rfl) rfl QP QN (lb rfl) rfl) (cO (OC.callF (r':=(T.os 1 1 0 (((QD g).map ((Yw 1 Qc) true)).length))) (objs:= [(Obj.rows 1 ((QD g).map ((Yw 1 Qc) true)))]) rfl (vc (tv (T.agg (Qb false g)) rfl) vn) (LendL.cons (lg Qq) ln) (YQ (n+2) g (by assumption)) rfl) (aO (T.os 1 1 0 (((QD g).map ((Yw 1 Qc) true)).length)) rfl (nt (sq (sr (mO (tI slot) rfl ?_)))))))))))
 refine mO (T.os 1 1 0 (((QD g).map ((Yw 1 Qc) true)).length)) rfl (lO (B.lenO (m:=(QD g).length) (tv (T.os 1 1 0 (((QD g).map ((Yw 1 Qc) true)).length)) rfl) Qd1 (List.length_map ..)) (cO (cS (vc (tv (tI slot) rfl) (vc (tv (tN ((QD g).length)) rfl) vn)) (ZQ rfl) (YI (n+5) slot (((QD g).length:Nat):Int)) rfl rfl) (fO (QY (tv (tB (decide (0≤slot∧slot<(((QD g).length:Nat):Int)))) rfl)) (nt ?_))))
 refine cn (0≤slot∧slot<(((QD g).length:Nat):Int)) rfl (fun fhc0=> ?_) fun fhc0=> ?_
 ·refine sr ?_
  refine fO (OF.assign (VEv.int .i64 (-1))) (nt (rt (tr (vi (n':=(-1)) rfl ?_))))
  exact (Qjc (by omega)).symm
 refine sk (tn (sr (fO (OF.assign (VEv.int .i64 0)) (nt (sq (VRun.wk (Wk.freeze (sz:=1) (k:=1) (rows':=((QD g).map ((Yw 1 Qc) false))) [5,10,12] (bc rfl (bc rfl (bc rfl bn))) rfl rfl ((QjH okInt).fzMap _ _)) ?_))))))
 have hs0:0≤slot:=by omega
 refine sr (mO (rd 1 (Yw 1 Qc) (QD g)) rfl (mO (tI slot) rfl ?_))
 obtain ⟨x1,hx1⟩:∃x,(QD g)[(Int.toNat slot)]? =some x:=⟨_,List.getElem?_eq_getElem (by omega)⟩
 obtain ⟨y1,hy1,hq1⟩:=Qdr hx1
 refine fO (OF.indexAddrR (row:=((Yw 1 Qc) false x1)) (i:=(Int.toNat slot)) (tv (rd 1 (Yw 1 Qc) (QD g)) rfl) (tv (tI slot) rfl) (by omega) (Qw _ hx1) Qd1 Qeu Qhe) (lO (OL.loadR1 (t:=(rd 1 Qc x1)) (tv (T.rp [(rd 1 Qc x1)]) rfl) rfl QcI) (lO (B.lenR (m:=x1.length) (tv (rd 1 Qc x1) rfl) ZL (List.length_map ..)) (fO (OF.move (VEv.int .i64 0)) (nt (VRun.block ?_)))))
 refine VRun.loop (A:=Nat×Nat) (fun s_=> [(2,(T.op 0 0)),(4,(tN 0)),(6,(tN s_.2)),(19,(rd 1 Qc x1)),(20,(tN x1.length)),(21,(tN s_.1))]) (fun s_=>Q0 [(0,(Obj.cells (Qb false g)))]) 1 (fun s_=>s_.1≤x1.length∧s_.2=nUn g (x1.take s_.1)) (fun s_=>x1.length - s_.1) ((0,0):Nat×Nat) ?_ (Wk.mk (fun k=>k) ?_ ?_ ?_) ?_
 ·exact ⟨Nat.zero_le _,rfl⟩
 ·exact (b2 (b2 (b2 (b2 (b2 (b2 bn))))))
 ·exact (b3 bn)
 ·exact nd rfl
 rintro ⟨i,m⟩ (hI':i≤x1.length∧m=nUn g (x1.take i))
 show VRun _ _ _ [(2,(T.op 0 0)),(4,(tN 0)),(6,(tN m)),(19,(rd 1 Qc x1)),(20,(tN x1.length)),(21,(tN i))] (Q0 [(0,(Obj.cells (Qb false g)))]) 1 _
 have hI1:=hI'.1
 have hl6:=QaP hy1
 rw [← hq1] at hl6
 have hn6:=Qhj g (x1.take i)
 have ht6:=ZZ x1 i
 have hI2:=hI'.2
 refine sr (fO (Ze (tv (tN i) rfl) (tv (tN x1.length) rfl)) (nt (sq ?_)))
 refine cd (i<x1.length) rfl (fun fhc1=> ?_) fun fhc1=> ?_
 ·refine sk ?_
  refine tn (sq (VRun.block (sr ?_)))
  obtain ⟨x2,hx2⟩:∃x,x1[i]? =some x:=⟨_,List.getElem?_eq_getElem (by omega)⟩
  skip
  refine fO (OF.indexAddrR (row:=(Qc false x2)) (i:=i) (tv (rd 1 Qc x1) rfl) (tv (tN i) rfl) rfl (Qw _ hx2) ZL Zv Y7) (lO (OL.loadR1 (t:=(tI x2)) (tv (T.rp [(tI x2)]) rfl) rfl QV) (aO (tI x2) rfl (nt (sr (lO (OL.loadOn (us:=(Qb false g)) (tv (T.op 0 0) rfl) rfl QP QN (lb rfl) rfl) (mO (tI x2) rfl (cO (cS (vc (tv (T.agg (Qb false g)) rfl) (vc (tv (tI x2) rfl) vn)) (LendL.cons (lg Qq) (lp rfl ln)) (Qci (n+0) g x2 (by assumption)) rfl rfl) (fO (QY (tv (tB (decide (chk g x2))) rfl)) (nt ?_)))))))))
  refine cn (chk g x2) rfl (fun fhc2=> ?_) fun fhc2=> ?_
  ·refine VRun.region ?_
   refine mO (tN m) rfl (fO (QA (tv (tN m) rfl) (VEv.int .i64 1) (by omega)) (aO (tN (m+1)) rfl (VRunO.nil (vinB.n (tn (VRun.region (fO (QA (tv (tN i) rfl) (VEv.int .i64 1) (by omega)) (mO (tN (i+1)) rfl (VRunO.nil (tn ?_))))))))))
   refine ⟨((i+1,m+(if chk g x2 then 0 else 1)):Nat×Nat),?_,?_,Wk.mk (fun k=>k) ?_ ?_ ?_⟩
   ·exact ⟨by omega,by rw [Qb3 hx2,← hI2]⟩
   ·omega
   ·exact (b2 (b2 (bc ⟨(congrArg (T.int .i64) (show (((m+1):Nat):Int)=(((m+(if chk g x2 then 0 else 1)):Nat):Int) from (by (rw [if_neg fhc2];done)))),rfl⟩ (b2 (b2 (b2 bn))))))
   ·exact (b3 bn)
   ·exact nd rfl
  refine sk (vinB.n (tn (VRun.region (fO (QA (tv (tN i) rfl) (VEv.int .i64 1) (by omega)) (mO (tN (i+1)) rfl (VRunO.nil (tn ?_)))))))
  refine ⟨((i+1,m+(if chk g x2 then 0 else 1)):Nat×Nat),?_,?_,Wk.mk (fun k=>k) ?_ ?_ ?_⟩
  ·exact ⟨by omega,by rw [Qb3 hx2,← hI2]⟩
  ·omega
  ·exact (b2 (b2 (bc ⟨(congrArg (T.int .i64) (show ((m:Nat):Int)=(((m+(if chk g x2 then 0 else 1)):Nat):Int) from (by (rw [if_pos fhc2];omega)))),rfl⟩ (b2 (b2 (b2 bn))))))
  ·exact (b3 bn)
  ·exact nd rfl
 refine VRun.exit (vthn.e (vthn.e (vinB.e (tn (sr (mO (tN m) rfl (aO (tN m) rfl (nt (rt (vi (n':=((m:Nat):Int)) rfl ?_))))))))))
 rw [QjL hs0 hy1,hI2,Yt hI1 fhc1,hq1]
end Go.Proofs.YthifchndolccgaaGreatDoor.AE
namespace Go.Proofs.YthifchndolccgaaGreatDoor.AE
open Go Go.RowKit
set_option linter.unusedVariables false
set_option linter.unusedSimpArgs false
set_option maxRecDepth 20000
set_option maxHeartbeats 2000000
noncomputable section
def Qc1 (g:D.Grid) (i:Nat) (s:D.Slot):Prop:=s.Length<2*unG g ((i:Nat):Int)
def QhU (g:D.Grid) (c:Int):Prop:=∃s∈Qa g,inS g c s
def J1 (g:D.Grid) (c:Nat):Prop:=Qr g.Cells c=46∧¬QhU g ((c:Nat):Int)
def Qat (g:D.Grid):Prop:=(∃i s,(Qa g)[i]? =some s∧Qc1 g i s)∨∃c,c<g.Cells.size∧gridOk g∧J1 g c
instance (g:D.Grid):Decidable (Qat g):=Classical.propDecidable _
theorem QhN (g:D.Grid) (c:Int):∀(l:List D.Slot) (n:Nat),(atL g c l n).length=0↔¬∃s∈l,inS g c s
 | [],n=>by simp [atL]
 | x::r,n=>by
  have:=QhN g c r (n+1)
  rw [atL,List.length_append]
  by_cases h:inS g c x
  ·rw [if_pos h];simp [h]
  ·rw [if_neg h,List.length_nil,Nat.zero_add,this];simp [h]
theorem atG_none {g:D.Grid} {c:Int}:(ZT g c (Qa g).length).length=0↔¬QhU g c:=by
 unfold ZT
 rw [List.take_length]
 exact QhN g c _ _
theorem QiO (g:D.Grid) (i:Int): -1≤unG g i∧unG g i≤6:=by
 unfold unG
 split
 ·split
  ·rename_i s hs
   have h1:=Qhj g (Qh g s s.Length.toNat)
   have h2:=QaP hs
   omega
  ·omega
 ·omega
def NoBad (g:D.Grid) (i:Nat):Prop:=i≤(Qa g).length∧∀j s,j<i→(Qa g)[j]? =some s→¬Qc1 g j s
theorem NoBad.start (g:D.Grid):NoBad g 0:=⟨Nat.zero_le _,fun j s hj=>by omega⟩
theorem NoBad.next {g:D.Grid} {i:Nat} {s:D.Slot} (h:NoBad g i) (hx:(Qa g)[i]? =some s) (hn:¬Qc1 g i s):NoBad g (i+1):=by
 have:=(List.getElem?_eq_some_iff.1 hx).1
 refine ⟨by omega,fun j y hj hy=> ?_⟩
 rcases Nat.lt_or_ge j i with h1 | h1
 ·exact h.2 j y h1 hy
 ·obtain rfl:j=i:=by omega
  rw [hx] at hy
  exact Option.some.inj hy▸hn
theorem QiQ {g:D.Grid} {i:Nat} (h:NoBad g i) (hi:¬i<(Qa g).length) (h2:∀c,c<g.Cells.size→¬(gridOk g∧J1 g c)):¬Qat g:=by
 rintro (⟨j,s,h3,h4⟩ | ⟨c,h3,h4⟩)
 ·have:=(List.getElem?_eq_some_iff.1 h3).1
  exact h.2 j s (by omega) h3 h4
 ·exact h2 c h3 h4
def mapOf (m:List (Int×Int)) (p:Int→Prop):Prop:=∀c,(p c→Qaq m c=1)∧(¬p c→Qaq m c=0)
def Qex (g:D.Grid) (i:Nat) (c:Int):Prop:=∃x∈(QD g).take i,c∈x
theorem QiB (g:D.Grid) (c:Int):¬Qex g 0 c:=by rintro ⟨x,hx,_⟩;simp at hx
theorem Qix {g:D.Grid} {i:Nat} {x:List Int} (h:(QD g)[i]? =some x) (c:Int):Qex g (i+1) c↔Qex g i c∨c∈x:=by
 unfold Qex
 rw [List.take_add_one,h]
 constructor
 ·rintro ⟨y,hy,hc⟩
  rcases List.mem_append.1 hy with hy | hy
  ·exact .inl ⟨y,hy,hc⟩
  ·obtain rfl:=List.mem_singleton.1 hy
   exact .inr hc
 ·rintro (⟨y,hy,hc⟩ | hc)
  ·exact ⟨y,List.mem_append_left _ hy,hc⟩
  ·exact ⟨x,List.mem_append_right _ (by simp),hc⟩
theorem QbJ {g:D.Grid} {i:Nat} (h:¬i<(QD g).length) (c:Int):Qex g i c↔QhU g c:=by
 unfold Qex QhU
 rw [List.take_of_length_le (by omega)]
 unfold QD inS
 constructor
 ·rintro ⟨x,hx,hc⟩
  obtain ⟨s,hs,rfl⟩:=List.mem_map.1 hx
  exact ⟨s,hs,hc⟩
 ·rintro ⟨s,hs,hc⟩
  exact ⟨_,List.mem_map.2 ⟨s,hs,rfl⟩,hc⟩
theorem mapOf.congr {m:List (Int×Int)} {p q:Int→Prop} (h:mapOf m p) (e:∀c,p c↔q c):mapOf m q:=fun c=>by rw [← e c];exact h c
theorem mapOf.put {m:List (Int×Int)} {p:Int→Prop} {n:Int} (h:mapOf m p):mapOf (QaV m n 1) (fun c=>p c∨c=n):=fun c=>by
 rw [QgM]
 by_cases e:c=n
 ·rw [if_pos e];exact ⟨fun _=>rfl,fun h2=>absurd (.inr e) h2⟩
 ·rw [if_neg e]
  exact ⟨fun h2=>(h c).1 (h2.resolve_right e),fun h2=>(h c).2 fun h3=>h2 (.inl h3)⟩
theorem QeE {l:List Int} {i:Nat} {x:Int} (h:l[i]? =some x) (c:Int):c∈l.take (i+1)↔c∈l.take i∨c=x:=by
 rw [List.take_add_one,h]
 simp
def QaE (f:ByteArray) (c:Nat):Prop:=¬(97≤Qr f c∧Qr f c≤122)
def Qfo (g:D.Grid) (f:ByteArray):Prop:=∃c,c<g.Cells.size∧J1 g c∧QaE f c
instance (g:D.Grid) (f:ByteArray):Decidable (Qfo g f):=Classical.propDecidable _
end
theorem Qda (n:Nat) (g:D.Grid) (hc:g.Cells.size≤maxLen):Pure (Qo Tryz.prog (n+8)) 76 [(T.agg (Qb false g))] (tB (decide (Qat g))):=by
 refine Pure.intro (rs:= [ResultVar.tmp 2]) Tryz.func76 rfl rfl rfl (E0:= [(0,(T.agg (Qb false g)))]) rfl ?_
 obtain ⟨hlim,hmx,hmax⟩:=QF
 have hsl:=Q5 g
 refine sr (kO (B.box (ts:=(Qb false g)) (tv (T.agg (Qb false g)) rfl) nofun rfl) (fO (OF.assign (VEv.bool false)) (nt (sr (lO (OL.loadOn (us:=(Qb false g)) (tv (T.op 0 0) rfl) rfl QP QN (lb rfl) rfl) (cO (OC.callF (r':=(T.os 4 1 0 (((Qa g).map (Qf true)).length))) (objs:= [(Obj.rows 4 ((Qa g).map (Qf true)))]) rfl (vc (tv (T.agg (Qb false g)) rfl) vn) (LendL.cons (lg Qq) ln) (Zi (n+4) g (by assumption)) rfl) (aO (T.os 4 1 0 (((Qa g).map (Qf true)).length)) rfl (nt (sq (sr (fO (OF.assign (VEv.int .i64 0)) ?_)))))))))))
 refine nt (VRun.block ?_)
 refine VRun.loop (A:=Nat) (fun s_=> [(1,(T.op 0 0)),(3,(T.os 4 1 0 (((Qa g).map (Qf true)).length))),(4,(tN s_))]) (fun s_=>Q0 [(0,(Obj.cells (Qb false g))),(1,(Obj.rows 4 ((Qa g).map (Qf true))))]) 2 (fun s_=>NoBad g s_) (fun s_=>(Qa g).length - s_) (0:Nat) ?_ (Wk.mk (fun k=>k) ?_ ?_ ?_) ?_
 ·exact NoBad.start _
 ·exact (b2 (b2 (b2 bn)))
 ·exact (b3 (b3 bn))
 ·exact nd rfl
 rintro i (hI':NoBad g i)
 show VRun _ _ _ [(1,(T.op 0 0)),(3,(T.os 4 1 0 (((Qa g).map (Qf true)).length))),(4,(tN i))] (Q0 [(0,(Obj.cells (Qb false g))),(1,(Obj.rows 4 ((Qa g).map (Qf true))))]) 2 _
 have hI1:=hI'.1
 have hNB:=hI'
 have hub:=QiO g ((i:Nat):Int)
 refine sq (sr (mO (tN i) rfl (mO (T.os 4 1 0 (((Qa g).map (Qf true)).length)) rfl (lO (B.lenO (m:=(Qa g).length) (tv (T.os 4 1 0 (((Qa g).map (Qf true)).length)) rfl) J6 (List.length_map ..)) (fO (Ze (tv (tN i) rfl) (tv (tN ((Qa g).length)) rfl)) (nt ?_))))))
 refine cd (i<(Qa g).length) rfl (fun fhc0=> ?_) fun fhc0=> ?_
 ·refine sk ?_
  refine tn (sq (VRun.block (sq (VRun.draw (B:= [[],[],[1,0],[0,1,2],[],[],[5,4],[4,5,6],[6,5,4,7],[7,4,5,6,8,2,1,0,3]]) (by kernel_rfl) (by kernel_rfl) (lD (OL.loadOn (us:=(Qb false g)) (tv (T.op 0 0) rfl) rfl QP QN (lb rfl) rfl) rfl rfl (mD (tN i) rfl rfl (VRunD.quiet (bi:= [1,0]) rfl VWant.always rfl rfl rfl bn (cS (vc (tv (T.agg (Qb false g)) rfl) (vc (tv (tN i) rfl) vn)) (LendL.cons (lg Qq) (lp rfl ln)) (Qbc (n+0) g ((i:Nat):Int) (by assumption)) rfl rfl) (fD (B.mul (n:=(2*unG g ((i:Nat):Int))) (VEv.int .i64 2) (tv (tI (unG g ((i:Nat):Int))) rfl) (by (rw [Qs (by omega)];done))) rfl rfl (mD (T.os 4 1 0 (((Qa g).map (Qf true)).length)) rfl rfl (mD (tN i) rfl rfl ?_))))))))))
  obtain ⟨x1,hx1⟩:∃x,(Qa g)[i]? =some x:=⟨_,List.getElem?_eq_getElem (by omega)⟩
  refine fD (B.indexAddrO (i:=i) (tv (T.os 4 1 0 (((Qa g).map (Qf true)).length)) rfl) (tv (tN i) rfl) rfl (by (simp only [List.length_map];omega)) J6 ZJ Qc5) rfl rfl (fD (OF.fieldAddrP (tv (T.orp 4 1 i 0) rfl) Qbg) rfl rfl (lD (OL.loadP1 (t:=(tI x1.Length)) (row:=(Qf true x1)) (tv (T.orp 4 1 i 3) rfl) rfl (Qw _ hx1) rfl rfl QV) rfl rfl (fD (xgt (tv (tI (2*unG g ((i:Nat):Int))) rfl) (tv (tI x1.Length) rfl)) rfl rfl (VRunD.nil (tn ?_)))))
  refine cd (x1.Length<(2*unG g ((i:Nat):Int))) rfl (fun fhc1=> ?_) fun fhc1=> ?_
  ·have q1:Qc1 g i x1:=by unfold Qc1;omega
   refine sr (fO (OF.assign (VEv.bool true)) (nt (rt (vinB.r (tr (tr (vinB.r (tr (vb (b':=true) rfl ?_)))))))))
   symm;rw [decide_eq_true_eq];exact .inl ⟨i,x1,hx1,q1⟩
  have q1:¬Qc1 g i x1:=by unfold Qc1;omega
  refine sk (vinB.n (tn (VRun.region (mO (tN i) rfl (fO (QA (tv (tN i) rfl) (VEv.int .i64 1) (by omega)) (aO (tN (i+1)) rfl (VRunO.nil (tn ?_))))))))
  refine ⟨(i+1:Nat),?_,?_,Wk.mk (fun k=>k) ?_ ?_ ?_⟩
  ·exact hI'.next hx1 q1
  ·omega
  ·exact (b2 (b2 (b2 bn)))
  ·exact (b3 (b3 bn))
  ·exact nd rfl
 refine VRun.exit (vthn.e (vthn.e (vinB.e (tn (sq (sr (fO (OF.assign (VEv.int .i64 0)) (nt (VRun.block ?_)))))))))
 refine VRun.loop (A:=Nat) (fun s_=> [(1,(T.op 0 0)),(5,(tN s_))]) (fun s_=>Q0 [(0,(Obj.cells (Qb false g)))]) 1 (fun s_=>s_≤g.Cells.size∧∀c,c<s_→¬(gridOk g∧J1 g c)) (fun s_=>g.Cells.size - s_) (0:Nat) ?_ (Wk.mk (fun k=>k) ?_ ?_ ?_) ?_
 ·exact ⟨Nat.zero_le _,fun c hc=>by omega⟩
 ·exact (b2 (b2 bn))
 ·exact (b3 bn)
 ·exact nd rfl
 rintro k (hI':k≤g.Cells.size∧∀c,c<k→¬(gridOk g∧J1 g c))
 show VRun _ _ _ [(1,(T.op 0 0)),(5,(tN k))] (Q0 [(0,(Obj.cells (Qb false g)))]) 1 _
 have hJ1:=hI'.1
 refine sq (sr (mO (tN k) rfl (lf (tS g.Cells) rfl Qy rfl rfl ZN (lO (B.lenS (tv (tS g.Cells) rfl) U9) (fO (Ze (tv (tN k) rfl) (tv (tN g.Cells.size) rfl)) (nt ?_))))))
 refine cd (k<g.Cells.size) rfl (fun fhc2=> ?_) fun fhc2=> ?_
 ·refine sk ?_
  refine tn (sq (VRun.block (sr (lO (OL.loadOn (us:=(Qb false g)) (tv (T.op 0 0) rfl) rfl QP QN (lb rfl) rfl) (mO (tN k) rfl (cO (cS (vc (tv (T.agg (Qb false g)) rfl) (vc (tv (tN k) rfl) vn)) (LendL.cons (lg Qq) (lp rfl ln)) (QdS (n+4) g ((k:Nat):Int) (by assumption)) rfl rfl) (mO (tB (decide (gridOk g∧(0≤((k:Nat):Int)∧((k:Nat):Int)≤((g.Cells.size:Nat):Int) - 1)∧Qr g.Cells (Int.toNat ((k:Nat):Int))=46))) rfl ?_)))))))
  refine gw (gridOk g∧(0≤((k:Nat):Int)∧((k:Nat):Int)≤((g.Cells.size:Nat):Int) - 1)∧Qr g.Cells (Int.toNat ((k:Nat):Int))=46) (fun fhg34_1=> ?_) fun fhg34_1=> ?_
  ·refine gL (dy fhg34_1) rfl rfl (OL.loadOn (us:=(Qb false g)) (tv (T.op 0 0) rfl) rfl QP QN (lb rfl) rfl) ?_
   refine gF (dy fhg34_1) rfl rfl (OF.move (tv (tN k) rfl)) (VRunO.chain (VWant.on rfl rfl (dy fhg34_1)) (OC.callF (r':=(T.os 1 1 0 (((ZT g ((k:Nat):Int) (Qa g).length).map (Qc true)).length))) (objs:= [(Obj.rows 1 ((ZT g ((k:Nat):Int) (Qa g).length).map (Qc true)))]) rfl (vc (tv (T.agg (Qb false g)) rfl) (vc (tv (tN k) rfl) vn)) (LendL.cons (lg Qq) (lp rfl ln)) (Qay (n+2) g ((k:Nat):Int) (by assumption)) rfl) (gL (dy fhg34_1) rfl rfl (B.lenO (m:=(ZT g ((k:Nat):Int) (Qa g).length).length) (tv (T.os 1 1 0 (((ZT g ((k:Nat):Int) (Qa g).length).map (Qc true)).length)) rfl) ZL (List.length_map ..)) (gF (dy fhg34_1) rfl rfl (B.eql (c:=(decide ((ZT g ((k:Nat):Int) (Qa g).length).length=0))) (tv (tN ((ZT g ((k:Nat):Int) (Qa g).length).length)) rfl) (VEv.int .i64 0) (Q4 (by omega))) (fO (OF.pickT (VEv.tmpB rfl (dy fhg34_1)) (tv (tB (decide ((ZT g ((k:Nat):Int) (Qa g).length).length=0))) rfl)) (nt ?_)))))
   refine cd ((ZT g ((k:Nat):Int) (Qa g).length).length=0) rfl (fun fhc3=> ?_) fun fhc3=> ?_
   ·refine sr ?_
    refine fO (OF.assign (VEv.bool true)) (nt (rt (vinB.r (tr (tr (vinB.r (tr (vb (b':=true) rfl ?_))))))))
    symm;rw [decide_eq_true_eq];exact .inr ⟨k,fhc2,fhg34_1.1,fhg34_1.2.2,atG_none.1 fhc3⟩
   refine sk (vinB.n (tn (VRun.region (mO (tN k) rfl (fO (QA (tv (tN k) rfl) (VEv.int .i64 1) (by omega)) (aO (tN (k+1)) rfl (VRunO.nil (tn ?_))))))))
   refine ⟨(k+1:Nat),?_,?_,Wk.mk (fun k=>k) ?_ ?_ ?_⟩
   ·exact QT (ok:=fun c=>¬(gridOk g∧J1 g c)) hI' fhc2 (fun h=>fhc3 (atG_none.2 h.2.2))
   ·omega
   ·exact (b2 (b2 bn))
   ·exact (b3 bn)
   ·exact nd rfl
  refine Qx 5 3 true 34 (dz fhg34_1) rfl rfl rfl (fO (OF.pickF (VEv.tmpB rfl (dz fhg34_1)) (VEv.bool false)) (nt (cf rfl (sk (vinB.n (tn (VRun.region (mO (tN k) rfl (fO (QA (tv (tN k) rfl) (VEv.int .i64 1) (by omega)) (aO (tN (k+1)) rfl (VRunO.nil ?_)))))))))))
  refine tn ?_
  refine ⟨(k+1:Nat),?_,?_,Wk.mk (fun k=>k) ?_ ?_ ?_⟩
  ·exact QT (ok:=fun c=>¬(gridOk g∧J1 g c)) hI' fhc2 (fun h=>fhg34_1 ⟨h.1,⟨by omega,by omega⟩,h.2.1⟩)
  ·omega
  ·exact (b2 (b2 bn))
  ·exact (b3 bn)
  ·exact nd rfl
 refine VRun.exit (vthn.e (vthn.e (vinB.e (tn (sr (fO (OF.assign (VEv.bool false)) (nt (rt (vb (b':=false) rfl ?_)))))))))
 symm;rw [decide_eq_false_iff_not];exact QiQ hNB fhc0 (JU (ok:=fun c=>¬(gridOk g∧J1 g c)) hI' fhc2)
theorem Qfz (n:Nat) (g:D.Grid) (f:ByteArray) (hc:g.Cells.size≤maxLen) (hf:g.Cells.size≤f.size):Pure (Qo Tryz.prog (n+5)) 81 [(T.agg (Qb false g)),(tS f)] (tB (decide (Qfo g f))):=by
 refine Pure.intro (rs:= [ResultVar.tmp 4]) Tryz.func81 rfl rfl rfl (E0:= [(0,(T.agg (Qb false g))),(1,(tS f))]) rfl ?_
 obtain ⟨hlim,hmx,hmax⟩:=QF
 have hsl:=Q5 g
 have hll:=JY g
 refine sr (kO (B.box (ts:=(Qb false g)) (tv (T.agg (Qb false g)) rfl) nofun rfl) (fO (OF.assign (VEv.bool false)) (nt (sr (kO B.makeMap (aO (T.om 1) rfl (nt (sq (sr (lO (OL.loadOn (us:=(Qb false g)) (tv (T.op 0 0) rfl) rfl QP QN (lb rfl) rfl) (cO (OC.callF (r':=(T.os 1 2 0 (((QD g).map ((Yw 1 Qc) true)).length))) (objs:= [(Obj.rows 1 ((QD g).map ((Yw 1 Qc) true)))]) rfl (vc (tv (T.agg (Qb false g)) rfl) vn) (LendL.cons (lg Qq) ln) (YQ (n+0) g (by assumption)) rfl) ?_)))))))))))
 refine lO (B.lenO (m:=(QD g).length) (tv (T.os 1 2 0 (((QD g).map ((Yw 1 Qc) true)).length)) rfl) Qd1 (List.length_map ..)) (fO (OF.move (VEv.int .i64 0)) (nt (VRun.block (VRun.wk (Wk.freeze (sz:=1) (k:=2) (rows':=((QD g).map ((Yw 1 Qc) false))) [13] (bc rfl bn) rfl rfl ((QjH okInt).fzMap _ _)) ?_))))
 have he1:([]:List (Int×Int))= []:=by rfl
 refine VRun.loop (A:=Nat×(List (Int×Int))) (fun s_=> [(1,(tS f)),(2,(T.op 0 0)),(4,(tB false)),(5,(T.om 1)),(13,(rd 1 (Yw 1 Qc) (QD g))),(14,(tN ((QD g).length))),(15,(tN s_.1))]) (fun s_=>Q0 [(0,(Obj.cells (Qb false g))),(1,(Obj.map (eM s_.2)))]) 2 (fun s_=>s_.1≤(QD g).length∧mapOf s_.2 (Qex g s_.1)) (fun s_=>(QD g).length - s_.1) ((0,[]):Nat×(List (Int×Int))) ?_ (Wk.mk (fun k=>k) ?_ ?_ ?_) ?_
 ·exact ⟨Nat.zero_le _,fun c=>⟨fun h=>absurd h (QiB g c),fun _=>rfl⟩⟩
 ·exact (b2 (b2 (b2 (b2 (b2 (b2 (b2 bn)))))))
 ·exact (b3 (bc ⟨(congrArg (fun l_=>some (Obj.map (eM l_))) he1),(lb rfl),rfl⟩ bn))
 ·exact nd rfl
 rintro ⟨i,m⟩ (hI':i≤(QD g).length∧mapOf m (Qex g i))
 show VRun _ _ _ [(1,(tS f)),(2,(T.op 0 0)),(4,(tB false)),(5,(T.om 1)),(13,(rd 1 (Yw 1 Qc) (QD g))),(14,(tN ((QD g).length))),(15,(tN i))] (Q0 [(0,(Obj.cells (Qb false g))),(1,(Obj.map (eM m)))]) 2 _
 have hI1:=hI'.1
 have hM:=hI'.2
 refine sr (fO (Ze (tv (tN i) rfl) (tv (tN ((QD g).length)) rfl)) (nt (sq ?_)))
 refine cd (i<(QD g).length) rfl (fun fhc0=> ?_) fun fhc0=> ?_
 ·refine sk ?_
  refine tn (sq (VRun.block (sr ?_)))
  obtain ⟨x1,hx1⟩:∃x,(QD g)[i]? =some x:=⟨_,List.getElem?_eq_getElem (by omega)⟩
  obtain ⟨y1,hy1,hq1⟩:=Qdr hx1
  refine fO (OF.indexAddrR (row:=((Yw 1 Qc) false x1)) (i:=i) (tv (rd 1 (Yw 1 Qc) (QD g)) rfl) (tv (tN i) rfl) rfl (Qw _ hx1) Qd1 Qeu Qhe) (lO (OL.loadR1 (t:=(rd 1 Qc x1)) (tv (T.rp [(rd 1 Qc x1)]) rfl) rfl QcI) (aO (rd 1 Qc x1) rfl (nt (sr (mO (rd 1 Qc x1) rfl (lO (B.lenR (m:=x1.length) (tv (rd 1 Qc x1) rfl) ZL (List.length_map ..)) (fO (OF.move (VEv.int .i64 0)) (nt (VRun.block ?_)))))))))
  refine VRun.loop (A:=Nat×(List (Int×Int))) (fun s_=> [(1,(tS f)),(2,(T.op 0 0)),(4,(tB false)),(5,(T.om 1)),(13,(rd 1 (Yw 1 Qc) (QD g))),(14,(tN ((QD g).length))),(15,(tN i)),(19,(rd 1 Qc x1)),(20,(tN x1.length)),(21,(tN s_.1))]) (fun s_=>Q0 [(0,(Obj.cells (Qb false g))),(1,(Obj.map (eM s_.2)))]) 2 (fun s_=>s_.1≤x1.length∧mapOf s_.2 (fun c=>Qex g i c∨c∈x1.take s_.1)) (fun s_=>x1.length - s_.1) ((0,m):Nat×(List (Int×Int))) ?_ (Wk.mk (fun k=>k) ?_ ?_ ?_) ?_
  ·exact ⟨Nat.zero_le _,hM.congr fun c=>by simp⟩
  ·exact (b2 (b2 (b2 (b2 (b2 (b2 (b2 (b2 (b2 (b2 bn))))))))))
  ·exact (b3 (b3 bn))
  ·exact nd rfl
  rintro ⟨k,w⟩ (hI':k≤x1.length∧mapOf w (fun c=>Qex g i c∨c∈x1.take k))
  show VRun _ _ _ [(1,(tS f)),(2,(T.op 0 0)),(4,(tB false)),(5,(T.om 1)),(13,(rd 1 (Yw 1 Qc) (QD g))),(14,(tN ((QD g).length))),(15,(tN i)),(19,(rd 1 Qc x1)),(20,(tN x1.length)),(21,(tN k))] (Q0 [(0,(Obj.cells (Qb false g))),(1,(Obj.map (eM w)))]) 2 _
  have hJ1:=hI'.1
  have hl6:=QaP hy1
  rw [← hq1] at hl6
  refine sr (fO (Ze (tv (tN k) rfl) (tv (tN x1.length) rfl)) (nt (sq ?_)))
  refine cd (k<x1.length) rfl (fun fhc1=> ?_) fun fhc1=> ?_
  ·refine sk ?_
   refine tn (sq (VRun.block (sr ?_)))
   obtain ⟨x2,hx2⟩:∃x,x1[k]? =some x:=⟨_,List.getElem?_eq_getElem (by omega)⟩
   skip
   refine fO (OF.indexAddrR (row:=(Qc false x2)) (i:=k) (tv (rd 1 Qc x1) rfl) (tv (tN k) rfl) rfl (Qw _ hx2) ZL Zv Y7) (lO (OL.loadR1 (t:=(tI x2)) (tv (T.rp [(tI x2)]) rfl) rfl QV) (aO (tI x2) rfl (nt (VRun.region (mO (T.om 1) rfl (mO (tI x2) rfl (cO (B.mapSet (l:=w) (l':=(QaV w x2 1)) (tv (T.om 1) rfl) (tv (tI x2) rfl) (VEv.int .i64 1) rfl QlK U3 rfl) (VRunO.nil (vinB.n (tn (VRun.region ?_)))))))))))
   refine fO (QA (tv (tN k) rfl) (VEv.int .i64 1) (by omega)) (mO (tN (k+1)) rfl (VRunO.nil (tn ?_)))
   refine ⟨((k+1,QaV w x2 1):Nat×(List (Int×Int))),?_,?_,Wk.mk (fun k=>k) ?_ ?_ ?_⟩
   ·exact ⟨by omega,hI'.2.put.congr fun c=>by rw [QeE hx2,or_assoc]⟩
   ·omega
   ·exact (b2 (b2 (b2 (b2 (b2 (b2 (b2 (b2 (b2 (b2 bn))))))))))
   ·exact (b3 (b3 bn))
   ·exact nd rfl
  refine VRun.exit (vthn.e (vthn.e (vinB.e (vinB.n (tn (VRun.region (fO (QA (tv (tN i) rfl) (VEv.int .i64 1) (by omega)) (mO (tN (i+1)) rfl (VRunO.nil (tn ?_))))))))))
  refine ⟨((i+1,w):Nat×(List (Int×Int))),?_,?_,Wk.mk (fun k=>k) ?_ ?_ ?_⟩
  ·exact ⟨by omega,hI'.2.congr fun c=>by rw [Qix hx1,List.take_of_length_le (by omega)]⟩
  ·omega
  ·exact (b2 (b2 (b2 (b2 (b2 (b2 (b2 bn)))))))
  ·exact (b3 (b3 bn))
  ·exact nd rfl
 refine VRun.exit (vthn.e (vthn.e (vinB.e (tn (sq (sr (lf (tS g.Cells) rfl Qy rfl rfl ZN (lO (B.lenS (tv (tS g.Cells) rfl) U9) (fO (OF.move (VEv.int .i64 0)) (nt (VRun.block ?_)))))))))))
 refine VRun.loop (A:=Nat) (fun s_=> [(1,(tS f)),(2,(T.op 0 0)),(5,(T.om 1)),(31,(tN g.Cells.size)),(32,(tN s_))]) (fun s_=>Q0 [(0,(Obj.cells (Qb false g))),(1,(Obj.map (eM m)))]) 2 (fun s_=>s_≤g.Cells.size∧∀j,j<s_→¬(J1 g j∧QaE f j)) (fun s_=>g.Cells.size - s_) (0:Nat) ?_ (Wk.mk (fun k=>k) ?_ ?_ ?_) ?_
 ·exact ⟨Nat.zero_le _,fun c hc=>by omega⟩
 ·exact (b2 (b2 (b2 (b2 (b2 bn)))))
 ·exact (b3 (b3 bn))
 ·exact nd rfl
 rintro c (hI':c≤g.Cells.size∧∀j,j<c→¬(J1 g j∧QaE f j))
 show VRun _ _ _ [(1,(tS f)),(2,(T.op 0 0)),(5,(T.om 1)),(31,(tN g.Cells.size)),(32,(tN c))] (Q0 [(0,(Obj.cells (Qb false g))),(1,(Obj.map (eM m)))]) 2 _
 have hJ1:=hI'.1
 refine sr (fO (Ze (tv (tN c) rfl) (tv (tN g.Cells.size) rfl)) (nt (sq ?_)))
 refine cd (c<g.Cells.size) rfl (fun fhc2=> ?_) fun fhc2=> ?_
 ·refine sk ?_
  refine tn (sq (VRun.block (sr (mO (tN c) rfl (aO (tN c) rfl (nt (sr (lf (tS g.Cells) rfl Qy rfl rfl ZN (mO (tN c) rfl ?_)))))))))
  have hb2:c<g.Cells.size:=(by omega)
  refine fO (Js (tv (tS g.Cells) rfl) (tv (tN c) rfl) hb2 U9) (fO (YF (tv (T.int .u8 (Qr g.Cells c)) rfl) (VEv.int .u8 46)) (mO (tB (decide (Qr g.Cells c=46))) rfl ?_))
  refine gw (Qr g.Cells c=46) (fun fhg40_3=> ?_) fun fhg40_3=> ?_
  ·refine gF (dy fhg40_3) rfl rfl (OF.move (tv (T.om 1) rfl)) ?_
   refine gF (dy fhg40_3) rfl rfl (OF.move (tv (tN c) rfl)) (gL (dy fhg40_3) rfl rfl (B.mapGet (l:=m) (n:=((c:Nat):Int)) (tv (T.om 1) rfl) (tv (tN c) rfl) rfl QlK U3 zo3) (gF (dy fhg40_3) rfl rfl (YF (tv (tI (Qaq m ((c:Nat):Int))) rfl) (VEv.int .i64 0)) (fO (OF.pickT (VEv.tmpB rfl (dy fhg40_3)) (tv (tB (decide (Qaq m ((c:Nat):Int)=0))) rfl)) (mO (tB (decide (Qaq m ((c:Nat):Int)=0))) rfl ?_))))
   refine gw (Qaq m ((c:Nat):Int)=0) (fun fhg46_4=> ?_) fun fhg46_4=> ?_
   ·refine gF (dy fhg46_4) rfl rfl (OF.move (tv (tS f) rfl)) ?_
    refine gF (dy fhg46_4) rfl rfl (OF.move (tv (tN c) rfl)) ?_
    have hb5:c<f.size:=(by omega)
    refine gF (dy fhg46_4) rfl rfl (Js (tv (tS f) rfl) (tv (tN c) rfl) hb5 U9) (VRunO.chain (VWant.on rfl rfl (dy fhg46_4)) (cS (vc (tv (T.int .u8 (Qr f c)) rfl) vn) (ZQ rfl) (YZ (n+3) (Qr f c)) rfl rfl) (gF (dy fhg46_4) rfl rfl (QY (tv (tB (decide (97≤(Qr f c)∧(Qr f c)≤122))) rfl)) (fO (OF.pickT (VEv.tmpB rfl (dy fhg46_4)) (tv (tB (!(decide (97≤(Qr f c)∧(Qr f c)≤122)))) rfl)) (nt ?_))))
    refine cn (97≤(Qr f c)∧(Qr f c)≤122) rfl (fun fhc3=> ?_) fun fhc3=> ?_
    ·refine sr ?_
     refine fO (OF.assign (VEv.bool true)) (nt (rt (vinB.r (tr (tr (vinB.r (tr (vb (b':=true) rfl ?_))))))))
     symm;rw [decide_eq_true_eq];refine ⟨c,fhc2,⟨?_,fun h=> ?_⟩,?_⟩
     ·omega
     ·have hq:=(hM ((c:Nat):Int)).1 ((QbJ fhc0 _).2 h);omega
     ·unfold QaE;omega
    refine sk (vinB.n (tn (VRun.region (fO (QA (tv (tN c) rfl) (VEv.int .i64 1) (by omega)) (mO (tN (c+1)) rfl (VRunO.nil (tn ?_)))))))
    refine ⟨(c+1:Nat),?_,?_,Wk.mk (fun k=>k) ?_ ?_ ?_⟩
    ·refine QT (ok:=fun j=>¬(J1 g j∧QaE f j)) hI' fhc2 ?_
     rintro ⟨⟨a1,a2⟩,a3⟩
     have hq:=(hM ((c:Nat):Int)).2 (fun h=>a2 ((QbJ fhc0 _).1 h))
     unfold QaE at a3;omega
    ·omega
    ·exact (b2 (b2 (b2 (b2 (b2 bn)))))
    ·exact (b3 (b3 bn))
    ·exact nd rfl
   refine Qx 5 11 true 46 (dz fhg46_4) rfl rfl rfl (fO (OF.pickF (VEv.tmpB rfl (dz fhg46_4)) (VEv.bool false)) (nt (cf rfl (sk (vinB.n (tn (VRun.region (fO (QA (tv (tN c) rfl) (VEv.int .i64 1) (by omega)) (mO (tN (c+1)) rfl (VRunO.nil (tn ?_)))))))))))
   refine ⟨(c+1:Nat),?_,?_,Wk.mk (fun k=>k) ?_ ?_ ?_⟩
   ·refine QT (ok:=fun j=>¬(J1 g j∧QaE f j)) hI' fhc2 ?_
    rintro ⟨⟨a1,a2⟩,a3⟩
    have hq:=(hM ((c:Nat):Int)).2 (fun h=>a2 ((QbJ fhc0 _).1 h))
    unfold QaE at a3;omega
   ·omega
   ·exact (b2 (b2 (b2 (b2 (b2 bn)))))
   ·exact (b3 (b3 bn))
   ·exact nd rfl
  refine Qx 4 5 true 40 (dz fhg40_3) rfl rfl rfl (fO (OF.pickF (VEv.tmpB rfl (dz fhg40_3)) (VEv.bool false)) (mO (tB false) rfl (Qx 5 11 true 46 (b:=false) rfl rfl rfl rfl (fO (OF.pickF (tv (tB false) rfl) (VEv.bool false)) (nt (cf rfl (sk (vinB.n (tn (VRun.region (fO (QA (tv (tN c) rfl) (VEv.int .i64 1) (by omega)) ?_)))))))))))
  refine mO (tN (c+1)) rfl (VRunO.nil (tn ?_))
  refine ⟨(c+1:Nat),?_,?_,Wk.mk (fun k=>k) ?_ ?_ ?_⟩
  ·refine QT (ok:=fun j=>¬(J1 g j∧QaE f j)) hI' fhc2 ?_
   rintro ⟨⟨a1,a2⟩,a3⟩
   have hq:=(hM ((c:Nat):Int)).2 (fun h=>a2 ((QbJ fhc0 _).1 h))
   unfold QaE at a3;omega
  ·omega
  ·exact (b2 (b2 (b2 (b2 (b2 bn)))))
  ·exact (b3 (b3 bn))
  ·exact nd rfl
 refine VRun.exit (vthn.e (vthn.e (vinB.e (tn (sr (fO (OF.assign (VEv.bool false)) (nt (rt (vb (b':=false) rfl ?_)))))))))
 symm;rw [decide_eq_false_iff_not];rintro ⟨c,h1,h2,h3⟩;exact hI'.2 c (by omega) ⟨h2,h3⟩
end Go.Proofs.YthifchndolccgaaGreatDoor.AE
namespace Go.Proofs.YthifchndolccgaaGreatDoor.AE
open Go Go.RowKit
set_option linter.unusedVariables false
set_option linter.unusedSimpArgs false
set_option maxRecDepth 20000
set_option maxHeartbeats 2000000
noncomputable section
def on (s:List Bool) (j:Nat):Bool:=s[j]?.getD false
theorem QjE {s:List Bool} {j:Nat} (h:on s j=true):j<s.length:=by
 rcases Nat.lt_or_ge j s.length with h1 | h1
 ·exact h1
 ·rw [on,List.getElem?_eq_none h1] at h;cases h
theorem Qb9 {s:List Bool} {i j:Nat} (hi:i<s.length):on (s.set i true) j=(if j=i then true else on s j):=by
 unfold on
 rw [List.getElem?_set]
 by_cases h:i=j
 ·subst h;simp [hi]
 ·rw [if_neg h,if_neg (fun e=>h e.symm)]
theorem QjP {s t:List Bool} (hl:s.length=t.length) (h:∀j,on s j=true↔on t j=true):s=t:=by
 refine List.ext_getElem? fun j=> ?_
 rcases Nat.lt_or_ge j s.length with h1 | h1
 ·have h2:j<t.length:=by omega
  have h3:=h j
  unfold on at h3
  rw [List.getElem?_eq_getElem h1,List.getElem?_eq_getElem h2] at h3 ⊢
  simp only [Option.getD_some] at h3
  rw [Bool.eq_iff_iff.2 h3]
 ·rw [List.getElem?_eq_none h1,List.getElem?_eq_none (by omega)]
theorem on_no {s:List Bool} {j:Nat}:on s j=false↔¬on s j=true:=by cases on s j<;>simp
def wG (g:D.Grid):Nat:=g.Cols.toNat
def adj (g:D.Grid) (i j:Nat):Prop:=(j=i+1∧i % wG g+1<wG g)∨(i=j+1∧j % wG g+1<wG g)∨j=i+wG g∨i=j+wG g
inductive Rch (g:D.Grid) (s:List Bool):Nat→Prop
 | base {j:Nat} (h:on s j=true):Rch g s j
 | step {i j:Nat} (h:Rch g s i) (ha:adj g i j) (hj:j<s.length) (hw:Qr g.Cells j=46):Rch g s j
instance (g:D.Grid) (s:List Bool) (j:Nat):Decidable (Rch g s j):=Classical.propDecidable _
def Q8 (g:D.Grid) (s:List Bool):List Bool:=(List.range s.length).map fun j=>decide (Rch g s j)
theorem Rch.lt {g:D.Grid} {s:List Bool} {j:Nat} (h:Rch g s j):j<s.length:=by
 cases h with
 | base h=>exact QjE h
 | step _ _ hj _=>exact hj
theorem Qbf (g:D.Grid) (s:List Bool):(Q8 g s).length=s.length:=by simp [Q8]
theorem on_reachL {g:D.Grid} {s:List Bool} {j:Nat}:on (Q8 g s) j=true↔Rch g s j:=by
 unfold on Q8
 rw [List.getElem?_map]
 rcases Nat.lt_or_ge j s.length with h1 | h1
 ·rw [List.getElem?_eq_getElem (by simpa using h1),List.getElem_range]
  simp
 ·rw [List.getElem?_eq_none (by simpa using h1)]
  simp only [Option.map_none,Option.getD_none,Bool.false_eq_true,false_iff]
  intro h
  have:=h.lt
  omega
def Qi5 (g:D.Grid) (s:List Bool) (i:Nat):Prop:=∃j,adj g j i∧on s j=true
theorem Qjv {i w:Nat} (h:0<i % w) (hw:i % w<w):(i - 1) % w+1=i % w∧1≤i:=by
 have h1:i % w≤i:=Nat.mod_le _ _
 have h2:=Nat.div_add_mod i w
 refine ⟨?_,by omega⟩
 have e:i - 1=(i % w - 1)+w*(i / w):=by omega
 rw [e,Nat.add_mul_mod_self_left,Nat.mod_eq_of_lt (by omega)]
 omega
theorem QjS {i w:Nat} (h:i % w+1<w):(i+1) % w=i % w+1:=by
 have h2:=Nat.div_add_mod i w
 have e:i+1=(i % w+1)+w*(i / w):=by omega
 rw [e,Nat.add_mul_mod_self_left,Nat.mod_eq_of_lt h]
theorem Qgv {g:D.Grid} {s:List Bool} {i:Nat} (hw:2≤g.Cols) (hl:i<s.length) :
  ((((0<i % g.Cols.toNat∧on s (i - 1)=true)∨(((i % g.Cols.toNat+1:Nat):Int)<g.Cols∧on s (i+1)=true))∨(g.Cols≤((i:Nat):Int)∧on s (i - g.Cols.toNat)=true))∨(i+g.Cols.toNat<s.length∧on s (i+g.Cols.toNat)=true))↔Qi5 g s i:=by
 have hm:i % g.Cols.toNat<g.Cols.toNat:=Nat.mod_lt _ (by omega)
 constructor
 ·rintro (((⟨h1,h2⟩ | ⟨h1,h2⟩) | ⟨h1,h2⟩) | ⟨h1,h2⟩)
  ·obtain ⟨h3,h4⟩:=Qjv h1 hm
   exact ⟨i - 1, .inl ⟨by omega,by unfold wG;omega⟩,h2⟩
  ·exact ⟨i+1, .inr (.inl ⟨rfl,by unfold wG;omega⟩),h2⟩
  ·exact ⟨i - g.Cols.toNat, .inr (.inr (.inl (by unfold wG;omega))),h2⟩
  ·exact ⟨i+g.Cols.toNat, .inr (.inr (.inr (by unfold wG;omega))),h2⟩
 ·rintro ⟨j,(⟨h1,h2⟩ | ⟨h1,h2⟩ | h1 | h1),h3⟩
  ·refine .inl (.inl (.inl ⟨?_,by rw [show i - 1=j by omega];exact h3⟩))
   unfold wG at h2
   rw [h1,QjS h2];omega
  ·refine .inl (.inl (.inr ⟨by unfold wG at h2;omega,by rw [← h1];exact h3⟩))
  ·unfold wG at h1
   refine .inl (.inr ⟨by omega,by rw [show i - g.Cols.toNat=j by omega];exact h3⟩)
  ·unfold wG at h1
   have:=QjE h3
   exact .inr ⟨by omega,by rw [← h1];exact h3⟩
def RS (g:D.Grid) (s0 s:List Bool):Prop:=s.length=s0.length∧(∀j,on s0 j=true→on s j=true)∧∀j,on s j=true→Rch g s0 j
theorem RS.start (g:D.Grid) (s:List Bool):RS g s s:=⟨rfl,fun _ h=>h,fun _ h=> .base h⟩
theorem RS.put {g:D.Grid} {s0 s:List Bool} {i:Nat} (h:RS g s0 s) (hi:i<s.length) (hw:Qr g.Cells i=46) (hn:Qi5 g s i):RS g s0 (s.set i true):=by
 obtain ⟨h1,h2,h3⟩:=h
 refine ⟨by simpa using h1,fun j hj=> ?_,fun j hj=> ?_⟩
 ·rw [Qb9 hi];split
  ·rfl
  ·exact h2 j hj
 ·rw [Qb9 hi] at hj
  split at hj
  ·rename_i e
   subst e
   obtain ⟨k,hk,hk2⟩:=hn
   exact .step (h3 k hk2) hk (by omega) hw
  ·exact h3 j hj
def QgK (g:D.Grid) (s:List Bool) (i:Nat):Prop:=Qr g.Cells i=46∧on s i=false∧Qi5 g s i
instance (g:D.Grid) (s:List Bool) (i:Nat):Decidable (QgK g s i):=Classical.propDecidable _
def Yj (g:D.Grid) (s:List Bool) (i:Nat):List Bool:=if QgK g s i then s.set i true else s
def Qa5 (g:D.Grid) (ag:Bool) (s:List Bool) (i:Nat):Bool:=if QgK g s i then true else ag
theorem QiV {g:D.Grid} {s:List Bool} {ag:Bool} {i:Nat} (h:QgK g s i):s.set i true=Yj g s i∧true=Qa5 g ag s i:=⟨(if_pos h).symm,(if_pos h).symm⟩
theorem QhJ {g:D.Grid} {s:List Bool} {ag:Bool} {i:Nat} (h:¬QgK g s i):s=Yj g s i∧ag=Qa5 g ag s i:=⟨(if_neg h).symm,(if_neg h).symm⟩
def Inv1 (g:D.Grid) (s0 s:List Bool) (i:Nat) (s1:List Bool) (ag:Bool):Prop:=i≤s0.length∧RS g s0 s1∧(ag=false→s1=s∧∀j,j<i→¬QgK g s j)∧(ag=true→s1.count false<s.count false)∧s1.count false≤s.count false
theorem Inv1.start {g:D.Grid} {s0 s:List Bool} (h:RS g s0 s):Inv1 g s0 s 0 s false:=⟨Nat.zero_le _,h,fun _=>⟨rfl,fun j hj=>by omega⟩,(fun h=>by cases h),Nat.le_refl _⟩
theorem QcD {s:List Bool} {i:Nat} (hi:i<s.length) (h:on s i=false):(s.set i true).count false+1=s.count false:=by
 have h2:s[i]=false:=by
  unfold on at h
  rw [List.getElem?_eq_getElem hi] at h
  exact h
 have h3:0<s.count false:=List.count_pos_iff.2 (h2▸List.getElem_mem hi)
 rw [List.count_set hi]
 simp [h2]
 omega
theorem Inv1.next {g:D.Grid} {s0 s s1:List Bool} {i:Nat} {ag:Bool} (h:Inv1 g s0 s i s1 ag) (hi:i<s1.length):Inv1 g s0 s (i+1) (Yj g s1 i) (Qa5 g ag s1 i):=by
 obtain ⟨h1,h2,h3,h4,h5⟩:=h
 have hl:=h2.1
 unfold Yj Qa5
 by_cases hw:QgK g s1 i
 ·rw [if_pos hw,if_pos hw]
  have hc:=QcD hi hw.2.1
  exact ⟨by omega,h2.put hi hw.1 hw.2.2,(fun e=>by cases e),(fun _=>by omega),by omega⟩
 ·rw [if_neg hw,if_neg hw]
  refine ⟨by omega,h2,fun e=> ?_,h4,h5⟩
  obtain ⟨h6,h7⟩:=h3 e
  subst h6
  refine ⟨rfl,fun j hj=> ?_⟩
  rcases Nat.lt_or_ge j i with g1 | g1
  ·exact h7 j g1
  ·obtain rfl:j=i:=by omega
   exact hw
def Inv0 (g:D.Grid) (s0 s:List Bool) (ag:Bool):Prop:=RS g s0 s∧(ag=false→∀j,j<s0.length→¬QgK g s j)
theorem Inv1.done {g:D.Grid} {s0 s s1:List Bool} {i:Nat} {ag:Bool} (h:Inv1 g s0 s i s1 ag) (hi:¬i<s1.length):Inv0 g s0 s1 ag:=by
 obtain ⟨h1,h2,h3,h4,h5⟩:=h
 have hl:=h2.1
 refine ⟨h2,fun e j hj=> ?_⟩
 obtain ⟨h6,h7⟩:=h3 e
 rw [h6]
 exact h7 j (by omega)
theorem Inv1.dec {g:D.Grid} {s0 s s1:List Bool} {i:Nat} {ag ag0:Bool} (h:Inv1 g s0 s i s1 ag) (h0:ag0=true):s1.count false+(if ag=true then 1 else 0)<s.count false+(if ag0=true then 1 else 0):=by
 obtain ⟨h1,h2,h3,h4,h5⟩:=h
 rw [if_pos h0]
 split
 ·rename_i e
  have:=h4 e
  omega
 ·omega
theorem Inv0.done {g:D.Grid} {s0 s:List Bool} {ag:Bool} (h:Inv0 g s0 s ag) (ha:¬ag=true):s=Q8 g s0:=by
 obtain ⟨⟨h1,h2,h3⟩,h4⟩:=h
 refine QjP (by rw [Qbf,h1]) fun j=> ?_
 rw [on_reachL]
 refine ⟨h3 j,fun hj=> ?_⟩
 have h5:=h4 (by cases ag<;>simp_all)
 induction hj with
 | base h=>exact h2 _ h
 | step h ha hj hw ih =>
  rename_i i k
  cases hk:on s k with
  | true=>rfl
  | false=>exact absurd ⟨hw,hk,i,ha,ih⟩ (h5 k hj)
end
theorem Qc9 (n:Nat) (g:D.Grid) (seen:List Bool) (cell:Nat) (hg:gridOk g) (hc:cell<seen.length) (hs:seen.length=g.Cells.size):Loan (Qo Tryz.prog (n+1)) 131 1 (List.map (Qk true) seen) [(T.agg (Qb false g)),(T.os 1 0 0 ((seen.map (Qk true)).length)),(tN cell)] (T.os 1 0 0 (List.map (Qk true) (Q8 g (seen.set cell true))).length) (List.map (Qk true) (Q8 g (seen.set cell true))):=by
 refine Loan.intro (rs:= [ResultVar.tmp 6]) (j:=1) (pin:=(T.os 1 0 0 ((seen.map (Qk true)).length))) Tryz.func131 rfl rfl rfl (by kernel_rfl) rfl (.os _ _) (.os _ _) (Yl (fun _=>rfl) _) (Yl (fun _=>rfl) _) (E0:= [(0,(T.agg (Qb false g))),(1,(T.os 1 0 0 ((seen.map (Qk true)).length))),(2,(tN cell))]) rfl ?_
 obtain ⟨hlim,hmx,hmax⟩:=QF
 have hsz:=hg.size
 have hA:=hg.1
 have hB:=hg.2.1
 refine sr (kO (B.box (ts:=(Qb false g)) (tv (T.agg (Qb false g)) rfl) nofun rfl) (fO (OF.assign VEv.nils) (nt (sr (mO (T.os 1 0 0 ((seen.map (Qk true)).length)) rfl (mO (tN cell) rfl ?_))))))
 obtain ⟨x1,hx1⟩:∃x,seen[cell]? =some x:=⟨_,List.getElem?_eq_getElem (by omega)⟩
 skip
 refine fO (B.indexAddrO (i:=cell) (tv (T.os 1 0 0 ((seen.map (Qk true)).length)) rfl) (tv (tN cell) rfl) rfl (by (simp only [List.length_map];omega)) YH sz4 if4) (cO (B.storeP (us:= [(tB true)]) (rows':=((seen.set cell true).map (Qk true))) (row:=(Qk true x1)) (tv (T.orp 1 0 cell 0) rfl) (VEv.bool true) nofun rfl (Qw _ hx1) rfl (lb rfl) if4 sz4 (bc rfl bn) (by intro r hr t ht;obtain ⟨x,_,rfl⟩:=List.mem_map.1 hr;rw [Qfg] at ht;exact Yg (okBool.pl _ t ht)) (Yu rfl)) (nt (sq (sr (fO (OF.assign (VEv.bool true)) (nt (VRun.block ?_)))))))
 refine VRun.loop (A:=Bool×(List Bool)) (fun s_=> [(1,(T.os 1 1 0 ((s_.2.map (Qk true)).length))),(3,(T.op 0 0)),(6,T.nils),(7,(tB s_.1))]) (fun s_=>Q0 [(0,(Obj.cells (Qb false g))),(1,(Obj.rows 1 (s_.2.map (Qk true))))]) 2 (fun s_=>Inv0 g (seen.set cell true) s_.2 s_.1) (fun s_=>s_.2.count false+(if s_.1=true then 1 else 0)) ((true,seen.set cell true):Bool×(List Bool)) ?_ (Wk.mk (fun k=>if k=0 then 1 else if k=1 then 0 else k) ?_ ?_ ?_) ?_
 ·exact ⟨RS.start _ _,fun h=>by cases h⟩
 ·exact (bc ⟨(congrArg (fun n_=>T.os 1 0 0 n_) (show (seen.map (Qk true)).length=((seen.set cell true).map (Qk true)).length from (by (simp;done)))),rfl⟩ (b2 (b2 (b2 bn))))
 ·exact (b3 (b3 bn))
 ·exact nd rfl
 rintro ⟨ag,s⟩ (hI':Inv0 g (seen.set cell true) s ag)
 show VRun _ _ _ [(1,(T.os 1 1 0 ((s.map (Qk true)).length))),(3,(T.op 0 0)),(6,T.nils),(7,(tB ag))] (Q0 [(0,(Obj.cells (Qb false g))),(1,(Obj.rows 1 (s.map (Qk true))))]) 2 _
 have hI1:=hI'
 have hl0:s.length=g.Cells.size:=by have:=hI'.1.1;rw [List.length_set] at this;omega
 refine sq (sr (mO (tB ag) rfl (nt ?_)))
 refine VRun.cond (tv (tB ag) rfl) (fun hc0=> ?_) (fun hc0=> ?_)
 ·have fhc0:ag=true:=hc0
  refine sk (tn (VRun.block (sr (fO (OF.assign (VEv.bool false)) (nt (sr (fO (OF.assign (VEv.int .i64 0)) (nt (VRun.block ?_)))))))))
  refine VRun.loop (A:=Nat×(List Bool)×Bool) (fun s_=> [(1,(T.os 1 1 0 ((s_.2.1.map (Qk true)).length))),(3,(T.op 0 0)),(6,T.nils),(7,(tB s_.2.2)),(8,(tN s_.1))]) (fun s_=>Q0 [(0,(Obj.cells (Qb false g))),(1,(Obj.rows 1 (s_.2.1.map (Qk true))))]) 2 (fun s_=>Inv1 g (seen.set cell true) s s_.1 s_.2.1 s_.2.2) (fun s_=>s_.2.1.length - s_.1) ((0,s,false):Nat×(List Bool)×Bool) ?_ (Wk.mk (fun k=>k) ?_ ?_ ?_) ?_
  ·exact Inv1.start hI1.1
  ·exact (b2 (b2 (b2 (b2 (b2 bn)))))
  ·exact (b3 (b3 bn))
  ·exact nd rfl
  rintro ⟨i,s1,ag1⟩ (hI':Inv1 g (seen.set cell true) s i s1 ag1)
  show VRun _ _ _ [(1,(T.os 1 1 0 ((s1.map (Qk true)).length))),(3,(T.op 0 0)),(6,T.nils),(7,(tB ag1)),(8,(tN i))] (Q0 [(0,(Obj.cells (Qb false g))),(1,(Obj.rows 1 (s1.map (Qk true))))]) 2 _
  have hJ1:=hI'.1
  have hl1:s1.length=g.Cells.size:=by have:=hI'.2.1.1;rw [List.length_set] at this;omega
  refine sq (sr (mO (tN i) rfl (mO (T.os 1 1 0 ((s1.map (Qk true)).length)) rfl (lO (B.lenO (m:=s1.length) (tv (T.os 1 1 0 ((s1.map (Qk true)).length)) rfl) YH (List.length_map ..)) (fO (Ze (tv (tN i) rfl) (tv (tN s1.length) rfl)) (nt ?_))))))
  refine cd (i<s1.length) rfl (fun fhc1=> ?_) fun fhc1=> ?_
  ·refine sk ?_
   refine tn (sq (VRun.block (sq (sr (mO (T.os 1 1 0 ((s1.map (Qk true)).length)) rfl (mO (tN i) rfl ?_))))))
   obtain ⟨x2,hx2⟩:∃x,s1[i]? =some x:=⟨_,List.getElem?_eq_getElem (by omega)⟩
   (have e2:on s1 i=x2:=by rw [on,hx2];rfl)
   refine fO (B.indexAddrO (i:=i) (tv (T.os 1 1 0 ((s1.map (Qk true)).length)) rfl) (tv (tN i) rfl) rfl (by (simp only [List.length_map];omega)) YH sz4 if4) (lO (OL.loadP1 (t:=(tB x2)) (row:=(Qk true x2)) (tv (T.orp 1 1 i 0) rfl) rfl (Qw _ hx2) rfl rfl st4) (mO (tB x2) rfl ?_))
   refine VRunO.joinB 6 [26,27,28,29,30] 31 (tB (decide ((x2=true)∨(¬(Qr g.Cells i=46))))) ?_ ?_
   ·refine Qb1 x2 (fun hg25_1=> ?_) (fun hg25_1=> ?_)
    ·have fhg25_1:x2=true:=hg25_1
     refine Qx 5 4 false 25 hg25_1 rfl rfl rfl (fO (OF.pickT (VEv.tmpB rfl hg25_1) (VEv.bool true)) (VRunO.nil ?_))
     exact jq (congrArg T.bool (jOT (dT _) hg25_1)) (js rfl (js rfl (js rfl (js rfl (js rfl (jn))))))
    ·have fhg25_1:x2=false:=hg25_1
     refine ZV (tS g.Cells) hg25_1 rfl rfl rfl rfl Qy rfl rfl ZN (gF hg25_1 rfl rfl (OF.move (tv (tN i) rfl)) ?_)
     have hb2:i<g.Cells.size:=(by omega)
     refine gF hg25_1 rfl rfl (Js (tv (tS g.Cells) rfl) (tv (tN i) rfl) hb2 U9) (gF hg25_1 rfl rfl (xne (tv (T.int .u8 (Qr g.Cells i)) rfl) (VEv.int .u8 46)) (fO (OF.pickF (VEv.tmpB rfl hg25_1) (tv (tB (!(decide (Qr g.Cells i=46)))) rfl)) (VRunO.nil ?_)))
     exact jq (congrArg T.bool (jOF (dT _) hg25_1 dN)) (js rfl (js rfl (js rfl (js rfl (js rfl (jn))))))
   refine nt ?_
   refine cd ((x2=true)∨(¬(Qr g.Cells i=46))) rfl (fun fhc2=> ?_) fun fhc2=> ?_
   ·have q1:=QhJ (g:=g) (s:=s1) (ag:=ag1) (i:=i) (by rintro ⟨h1,h2,h3⟩;rw [e2] at h2;rcases fhc2 with h4 | h4;rw [h2] at h4;cases h4;exact h4 h1)
    refine VRun.exit (vthn.e (vinB.e (tn (VRun.region (mO (tN i) rfl (fO (QA (tv (tN i) rfl) (VEv.int .i64 1) (by omega)) (aO (tN (i+1)) rfl (VRunO.nil (tn ?_)))))))))
    have he3:s1=(Yj g s1 i):=by exact q1.1
    refine ⟨((i+1,Yj g s1 i,Qa5 g ag1 s1 i):Nat×(List Bool)×Bool),?_,?_,Wk.mk (fun k=>k) ?_ ?_ ?_⟩
    ·exact hI'.next fhc1
    ·show (Yj g s1 i).length - (i+1)<s1.length - i
     have e1:(Yj g s1 i).length=s1.length:=by unfold Yj;split<;>simp
     rw [e1];omega
    ·exact (bc ⟨(congrArg (fun l_=>T.os 1 1 0 (List.map (Qk true) l_).length) he3),rfl⟩ (b2 (b2 (bc ⟨(congrArg T.bool (show ag1=(Qa5 g ag1 s1 i) from (by exact q1.2))),rfl⟩ (b2 bn)))))
    ·exact (b3 (bc ⟨(congrArg (fun l_=>some (Obj.rows 1 (List.map (Qk true) l_))) he3),(lb rfl),rfl⟩ bn))
    ·exact nd rfl
   refine sk (tn ?_)
   have hci:=QaR hg (show i<g.Cells.size by omega)
   obtain ⟨m,hm⟩:∃m,m=i % g.Cols.toNat:=⟨_,rfl⟩
   have hq1:0<m→1≤i:=by rw [hm];exact hci.2.1
   have hm6:m<g.Cols.toNat:=by rw [hm];exact hci.1.1
   have hq4:((m+1:Nat):Int)<g.Cols→i+1<g.Cells.size:=by rw [hm];exact hci.2.2.2.1 1
   clear hci
   refine sr (mO (tN i) rfl (lf (tI g.Cols) rfl Za rfl rfl QV (fO (B.rem (n:=((m:Nat):Int)) (tv (tN i) rfl) (tv (tI g.Cols) rfl) (by omega) (by (rw [hm];refine Qj7 ?_;omega))) (aO (tN m) rfl (nt (sr (mO (tN m) rfl (fO (B.gtr (c:=(decide (0<m))) (tv (tN m) rfl) (VEv.int .i64 0) (by exact Q4 (by omega))) (mO (tB (decide (0<m))) rfl ?_)))))))))
   refine VRunO.joinB 6 [39,40,41,42,43] 44 (tB (decide ((0<m)∧((s1[i - 1]?.getD false)=true)))) ?_ ?_
   ·refine gw (0<m) (fun fhg38_4=> ?_) fun fhg38_4=> ?_
    ·refine gF (dy fhg38_4) rfl rfl (OF.move (tv (T.os 1 1 0 ((s1.map (Qk true)).length)) rfl)) ?_
     refine gF (dy fhg38_4) rfl rfl (OF.move (tv (tN i) rfl)) (gF (dy fhg38_4) rfl rfl (B.sub (n:=((i - 1:Nat):Int)) (tv (tN i) rfl) (VEv.int .i64 1) (by (rw [Qs (by omega)];omega))) ?_)
     have hy5:s1[i - 1]? =some (s1[i - 1]?.getD false):=Jx false (by omega)
     refine gF (dy fhg38_4) rfl rfl (B.indexAddrO (i:=i - 1) (tv (T.os 1 1 0 ((s1.map (Qk true)).length)) rfl) (tv (tN (i - 1)) rfl) rfl (by (simp only [List.length_map];omega)) YH sz4 if4) (gL (dy fhg38_4) rfl rfl (OL.loadP1 (t:=(tB (s1[i - 1]?.getD false))) (row:=(Qk true (s1[i - 1]?.getD false))) (tv (T.orp 1 1 (i - 1) 0) rfl) rfl (Qw _ hy5) rfl rfl st4) (fO (OF.pickT (VEv.tmpB rfl (dy fhg38_4)) (tv (tB (s1[i - 1]?.getD false)) rfl)) (VRunO.nil ?_)))
     exact jq (congrArg T.bool (kAT fhg38_4 (dT _))) (js rfl (js rfl (js rfl (js rfl (js rfl (jn))))))
    ·refine Qx 5 2 true 38 (dz fhg38_4) rfl rfl rfl ?_
     refine fO (OF.pickF (VEv.tmpB rfl (dz fhg38_4)) (VEv.bool false)) (VRunO.nil ?_)
     exact jq (congrArg T.bool (kAF fhg38_4)) (js rfl (js rfl (js rfl (js rfl (js rfl (jn))))))
   refine mO (tB (decide ((0<m)∧((s1[i - 1]?.getD false)=true)))) rfl ?_
   refine VRunO.joinB 13 [46,47,48,49,50,51,52,53,54,55,56,57] 58 (tB (decide (((0<m)∧((s1[i - 1]?.getD false)=true))∨(((((m+1):Nat):Int)<g.Cols)∧((s1[(i+1)]?.getD false)=true))))) ?_ ?_
   ·refine gw ((0<m)∧((s1[i - 1]?.getD false)=true)) (fun fhg45_6=> ?_) fun fhg45_6=> ?_
    ·refine Qx 6 9 false 45 (dy fhg45_6) rfl rfl rfl ?_
     refine JK 5 15 true 51 rfl rfl rfl (oO rfl rfl (dy fhg45_6) (fO (OF.pickT (VEv.tmpB rfl (dy fhg45_6)) (VEv.bool true)) (VRunO.nil ?_)))
     exact jq (congrArg T.bool (kOT fhg45_6)) (js rfl (js rfl (js rfl (js rfl (js rfl (js rfl (js rfl (js rfl (js rfl (js rfl (js rfl (js rfl (jn)))))))))))))
    ·refine gF (dz fhg45_6) rfl rfl (OF.move (tv (tN m) rfl)) ?_
     refine gF (dz fhg45_6) rfl rfl (QA (tv (tN m) rfl) (VEv.int .i64 1) (by omega)) (ZV (tI g.Cols) (dz fhg45_6) rfl rfl rfl rfl Za rfl rfl QV (gF (dz fhg45_6) rfl rfl (xls (tv (tN (m+1)) rfl) (tv (tI g.Cols) rfl)) (gF (dz fhg45_6) rfl rfl (OF.move (tv (tB (decide ((((m+1):Nat):Int)<g.Cols))) rfl)) ?_)))
     refine VRunO.joinB 6 [52,53,54,55,56] 57 (tB (decide (((((m+1):Nat):Int)<g.Cols)∧((s1[(i+1)]?.getD false)=true)))) ?_ ?_
     ·refine gw ((((m+1):Nat):Int)<g.Cols) (fun fhg51_7=> ?_) fun fhg51_7=> ?_
      ·refine gF (dy fhg51_7) rfl rfl (OF.move (tv (T.os 1 1 0 ((s1.map (Qk true)).length)) rfl)) ?_
       refine gF (dy fhg51_7) rfl rfl (OF.move (tv (tN i) rfl)) (gF (dy fhg51_7) rfl rfl (QA (tv (tN i) rfl) (VEv.int .i64 1) (by omega)) ?_)
       have hy8:s1[(i+1)]? =some (s1[(i+1)]?.getD false):=Jx false (by omega)
       refine gF (dy fhg51_7) rfl rfl (B.indexAddrO (i:=(i+1)) (tv (T.os 1 1 0 ((s1.map (Qk true)).length)) rfl) (tv (tN (i+1)) rfl) rfl (by (simp only [List.length_map];omega)) YH sz4 if4) (gL (dy fhg51_7) rfl rfl (OL.loadP1 (t:=(tB (s1[(i+1)]?.getD false))) (row:=(Qk true (s1[(i+1)]?.getD false))) (tv (T.orp 1 1 (i+1) 0) rfl) rfl (Qw _ hy8) rfl rfl st4) (gF (dz fhg45_6) rfl rfl (OF.pickT (VEv.tmpB rfl (dy fhg51_7)) (tv (tB (s1[(i+1)]?.getD false)) rfl)) (VRunO.nil ?_)))
       exact jq (congrArg T.bool (kAT fhg51_7 (dT _))) (js rfl (js rfl (js rfl (js rfl (js rfl (jn))))))
      ·refine Qx 5 15 true 51 (dz fhg51_7) rfl rfl rfl ?_
       refine gF (dz fhg45_6) rfl rfl (OF.pickF (VEv.tmpB rfl (dz fhg51_7)) (VEv.bool false)) (VRunO.nil ?_)
       exact jq (congrArg T.bool (kAF fhg51_7)) (js rfl (js rfl (js rfl (js rfl (js rfl (jn))))))
     refine fO (OF.pickF (VEv.tmpB rfl (dz fhg45_6)) (tv (tB (decide (((((m+1):Nat):Int)<g.Cols)∧((s1[(i+1)]?.getD false)=true)))) rfl)) (VRunO.nil ?_)
     exact jq (congrArg T.bool (kOF fhg45_6 rfl)) (js rfl (js rfl (js rfl (js rfl (js rfl (js rfl (js rfl (js rfl (js rfl (js rfl (js rfl (js rfl (jn)))))))))))))
   refine mO (tB (decide (((0<m)∧((s1[i - 1]?.getD false)=true))∨(((((m+1):Nat):Int)<g.Cols)∧((s1[(i+1)]?.getD false)=true))))) rfl ?_
   refine VRunO.joinB 14 [60,61,62,63,64,65,66,67,68,69,70,71,72] 73 (tB (decide ((((0<m)∧((s1[i - 1]?.getD false)=true))∨(((((m+1):Nat):Int)<g.Cols)∧((s1[(i+1)]?.getD false)=true)))∨((g.Cols≤((i:Nat):Int))∧((s1[i - g.Cols.toNat]?.getD false)=true))))) ?_ ?_
   ·refine gw (((0<m)∧((s1[i - 1]?.getD false)=true))∨(((((m+1):Nat):Int)<g.Cols)∧((s1[(i+1)]?.getD false)=true))) (fun fhg59_9=> ?_) fun fhg59_9=> ?_
    ·refine Qx 5 23 false 59 (dy fhg59_9) rfl rfl rfl ?_
     refine JK 7 28 true 64 rfl rfl rfl (oO rfl rfl (dy fhg59_9) (fO (OF.pickT (VEv.tmpB rfl (dy fhg59_9)) (VEv.bool true)) (VRunO.nil ?_)))
     exact jq (congrArg T.bool (kOT fhg59_9)) (js rfl (js rfl (js rfl (js rfl (js rfl (js rfl (js rfl (js rfl (js rfl (js rfl (js rfl (js rfl (js rfl (jn))))))))))))))
    ·refine gF (dz fhg59_9) rfl rfl (OF.move (tv (tN i) rfl)) ?_
     refine ZV (tI g.Cols) (dz fhg59_9) rfl rfl rfl rfl Za rfl rfl QV (gF (dz fhg59_9) rfl rfl (xge (tv (tN i) rfl) (tv (tI g.Cols) rfl)) (gF (dz fhg59_9) rfl rfl (OF.move (tv (tB (decide (g.Cols≤((i:Nat):Int)))) rfl)) ?_))
     refine VRunO.joinB 8 [65,66,67,68,69,70,71] 72 (tB (decide ((g.Cols≤((i:Nat):Int))∧((s1[i - g.Cols.toNat]?.getD false)=true)))) ?_ ?_
     ·refine gw (g.Cols≤((i:Nat):Int)) (fun fhg64_10=> ?_) fun fhg64_10=> ?_
      ·refine gF (dy fhg64_10) rfl rfl (OF.move (tv (T.os 1 1 0 ((s1.map (Qk true)).length)) rfl)) ?_
       refine gF (dy fhg64_10) rfl rfl (OF.move (tv (tN i) rfl)) (ZV (tI g.Cols) (dy fhg64_10) rfl rfl rfl rfl Za rfl rfl QV (gF (dy fhg64_10) rfl rfl (B.sub (n:=((i - g.Cols.toNat:Nat):Int)) (tv (tN i) rfl) (tv (tI g.Cols) rfl) (by (rw [Qs (by omega)];omega))) ?_))
       have hy11:s1[i - g.Cols.toNat]? =some (s1[i - g.Cols.toNat]?.getD false):=Jx false (by omega)
       refine gF (dy fhg64_10) rfl rfl (B.indexAddrO (i:=i - g.Cols.toNat) (tv (T.os 1 1 0 ((s1.map (Qk true)).length)) rfl) (tv (tN (i - g.Cols.toNat)) rfl) rfl (by (simp only [List.length_map];omega)) YH sz4 if4) (gL (dy fhg64_10) rfl rfl (OL.loadP1 (t:=(tB (s1[i - g.Cols.toNat]?.getD false))) (row:=(Qk true (s1[i - g.Cols.toNat]?.getD false))) (tv (T.orp 1 1 (i - g.Cols.toNat) 0) rfl) rfl (Qw _ hy11) rfl rfl st4) (gF (dz fhg59_9) rfl rfl (OF.pickT (VEv.tmpB rfl (dy fhg64_10)) (tv (tB (s1[i - g.Cols.toNat]?.getD false)) rfl)) (VRunO.nil ?_)))
       exact jq (congrArg T.bool (kAT fhg64_10 (dT _))) (js rfl (js rfl (js rfl (js rfl (js rfl (js rfl (js rfl (jn))))))))
      ·refine Qx 7 28 true 64 (dz fhg64_10) rfl rfl rfl ?_
       refine gF (dz fhg59_9) rfl rfl (OF.pickF (VEv.tmpB rfl (dz fhg64_10)) (VEv.bool false)) (VRunO.nil ?_)
       exact jq (congrArg T.bool (kAF fhg64_10)) (js rfl (js rfl (js rfl (js rfl (js rfl (js rfl (js rfl (jn))))))))
     refine fO (OF.pickF (VEv.tmpB rfl (dz fhg59_9)) (tv (tB (decide ((g.Cols≤((i:Nat):Int))∧((s1[i - g.Cols.toNat]?.getD false)=true)))) rfl)) (VRunO.nil ?_)
     exact jq (congrArg T.bool (kOF fhg59_9 rfl)) (js rfl (js rfl (js rfl (js rfl (js rfl (js rfl (js rfl (js rfl (js rfl (js rfl (js rfl (js rfl (js rfl (jn))))))))))))))
   refine mO (tB (decide ((((0<m)∧((s1[i - 1]?.getD false)=true))∨(((((m+1):Nat):Int)<g.Cols)∧((s1[(i+1)]?.getD false)=true)))∨((g.Cols≤((i:Nat):Int))∧((s1[i - g.Cols.toNat]?.getD false)=true))))) rfl ?_
   refine VRunO.joinB 17 [75,76,77,78,79,80,81,82,83,84,85,86,87,88,89,90] 91 (tB (decide (((((0<m)∧((s1[i - 1]?.getD false)=true))∨(((((m+1):Nat):Int)<g.Cols)∧((s1[(i+1)]?.getD false)=true)))∨((g.Cols≤((i:Nat):Int))∧((s1[i - g.Cols.toNat]?.getD false)=true)))∨((i+g.Cols.toNat<s1.length)∧((s1[i+g.Cols.toNat]?.getD false)=true))))) ?_ ?_
   ·refine gw ((((0<m)∧((s1[i - 1]?.getD false)=true))∨(((((m+1):Nat):Int)<g.Cols)∧((s1[(i+1)]?.getD false)=true)))∨((g.Cols≤((i:Nat):Int))∧((s1[i - g.Cols.toNat]?.getD false)=true))) (fun fhg74_12=> ?_) fun fhg74_12=> ?_
    ·refine Qx 8 38 false 74 (dy fhg74_12) rfl rfl rfl ?_
     refine JK 7 46 true 82 rfl rfl rfl (oO rfl rfl (dy fhg74_12) (fO (OF.pickT (VEv.tmpB rfl (dy fhg74_12)) (VEv.bool true)) (VRunO.nil ?_)))
     exact jq (congrArg T.bool (kOT fhg74_12)) (js rfl (js rfl (js rfl (js rfl (js rfl (js rfl (js rfl (js rfl (js rfl (js rfl (js rfl (js rfl (js rfl (js rfl (js rfl (js rfl (jn)))))))))))))))))
    ·refine gF (dz fhg74_12) rfl rfl (OF.move (tv (tN i) rfl)) ?_
     refine ZV (tI g.Cols) (dz fhg74_12) rfl rfl rfl rfl Za rfl rfl QV (gF (dz fhg74_12) rfl rfl (B.add (n:=((i+g.Cols.toNat:Nat):Int)) (tv (tN i) rfl) (tv (tI g.Cols) rfl) (by (rw [Qs (by omega)];omega))) (gF (dz fhg74_12) rfl rfl (OF.move (tv (T.os 1 1 0 ((s1.map (Qk true)).length)) rfl)) (gL (dz fhg74_12) rfl rfl (B.lenO (m:=s1.length) (tv (T.os 1 1 0 ((s1.map (Qk true)).length)) rfl) YH (List.length_map ..)) (gF (dz fhg74_12) rfl rfl (Ze (tv (tN (i+g.Cols.toNat)) rfl) (tv (tN s1.length) rfl)) (gF (dz fhg74_12) rfl rfl (OF.move (tv (tB (decide (i+g.Cols.toNat<s1.length))) rfl)) ?_)))))
     refine VRunO.joinB 8 [83,84,85,86,87,88,89] 90 (tB (decide ((i+g.Cols.toNat<s1.length)∧((s1[i+g.Cols.toNat]?.getD false)=true)))) ?_ ?_
     ·refine gw (i+g.Cols.toNat<s1.length) (fun fhg82_13=> ?_) fun fhg82_13=> ?_
      ·refine gF (dy fhg82_13) rfl rfl (OF.move (tv (T.os 1 1 0 ((s1.map (Qk true)).length)) rfl)) ?_
       refine gF (dy fhg82_13) rfl rfl (OF.move (tv (tN i) rfl)) (ZV (tI g.Cols) (dy fhg82_13) rfl rfl rfl rfl Za rfl rfl QV (gF (dy fhg82_13) rfl rfl (B.add (n:=((i+g.Cols.toNat:Nat):Int)) (tv (tN i) rfl) (tv (tI g.Cols) rfl) (by (rw [Qs (by omega)];omega))) ?_))
       have hy14:s1[i+g.Cols.toNat]? =some (s1[i+g.Cols.toNat]?.getD false):=Jx false (by omega)
       refine gF (dy fhg82_13) rfl rfl (B.indexAddrO (i:=i+g.Cols.toNat) (tv (T.os 1 1 0 ((s1.map (Qk true)).length)) rfl) (tv (tN (i+g.Cols.toNat)) rfl) rfl (by (simp only [List.length_map];omega)) YH sz4 if4) (gL (dy fhg82_13) rfl rfl (OL.loadP1 (t:=(tB (s1[i+g.Cols.toNat]?.getD false))) (row:=(Qk true (s1[i+g.Cols.toNat]?.getD false))) (tv (T.orp 1 1 (i+g.Cols.toNat) 0) rfl) rfl (Qw _ hy14) rfl rfl st4) (gF (dz fhg74_12) rfl rfl (OF.pickT (VEv.tmpB rfl (dy fhg82_13)) (tv (tB (s1[i+g.Cols.toNat]?.getD false)) rfl)) (VRunO.nil ?_)))
       exact jq (congrArg T.bool (kAT fhg82_13 (dT _))) (js rfl (js rfl (js rfl (js rfl (js rfl (js rfl (js rfl (jn))))))))
      ·refine Qx 7 46 true 82 (dz fhg82_13) rfl rfl rfl ?_
       refine gF (dz fhg74_12) rfl rfl (OF.pickF (VEv.tmpB rfl (dz fhg82_13)) (VEv.bool false)) (VRunO.nil ?_)
       exact jq (congrArg T.bool (kAF fhg82_13)) (js rfl (js rfl (js rfl (js rfl (js rfl (js rfl (js rfl (jn))))))))
     refine fO (OF.pickF (VEv.tmpB rfl (dz fhg74_12)) (tv (tB (decide ((i+g.Cols.toNat<s1.length)∧((s1[i+g.Cols.toNat]?.getD false)=true)))) rfl)) (VRunO.nil ?_)
     exact jq (congrArg T.bool (kOF fhg74_12 rfl)) (js rfl (js rfl (js rfl (js rfl (js rfl (js rfl (js rfl (js rfl (js rfl (js rfl (js rfl (js rfl (js rfl (js rfl (js rfl (js rfl (jn)))))))))))))))))
   refine aO (tB (decide (((((0<m)∧((s1[i - 1]?.getD false)=true))∨(((((m+1):Nat):Int)<g.Cols)∧((s1[(i+1)]?.getD false)=true)))∨((g.Cols≤((i:Nat):Int))∧((s1[i - g.Cols.toNat]?.getD false)=true)))∨((i+g.Cols.toNat<s1.length)∧((s1[i+g.Cols.toNat]?.getD false)=true))))) rfl (nt (sr (mO (tB (decide (((((0<m)∧((s1[i - 1]?.getD false)=true))∨(((((m+1):Nat):Int)<g.Cols)∧((s1[(i+1)]?.getD false)=true)))∨((g.Cols≤((i:Nat):Int))∧((s1[i - g.Cols.toNat]?.getD false)=true)))∨((i+g.Cols.toNat<s1.length)∧((s1[i+g.Cols.toNat]?.getD false)=true))))) rfl (nt ?_))))
   refine cd (((((0<m)∧((s1[i - 1]?.getD false)=true))∨(((((m+1):Nat):Int)<g.Cols)∧((s1[(i+1)]?.getD false)=true)))∨((g.Cols≤((i:Nat):Int))∧((s1[i - g.Cols.toNat]?.getD false)=true)))∨((i+g.Cols.toNat<s1.length)∧((s1[i+g.Cols.toNat]?.getD false)=true))) rfl (fun fhc3=> ?_) fun fhc3=> ?_
   ·rw [hm] at fhc3
    have q1:=QiV (g:=g) (s:=s1) (ag:=ag1) (i:=i) ⟨by omega,on_no.2 (fun h=>fhc2 (.inl (e2.symm.trans h))),(Qgv hB.1 fhc1).1 fhc3⟩
    refine sr (mO (T.os 1 1 0 ((s1.map (Qk true)).length)) rfl (mO (tN i) rfl (fO (B.indexAddrO (i:=i) (tv (T.os 1 1 0 ((s1.map (Qk true)).length)) rfl) (tv (tN i) rfl) rfl (by (simp only [List.length_map];omega)) YH sz4 if4) (cO (B.storeP (us:= [(tB true)]) (rows':=((s1.set i true).map (Qk true))) (row:=(Qk true x2)) (tv (T.orp 1 1 i 0) rfl) (VEv.bool true) nofun rfl (Qw _ hx2) rfl (lb rfl) if4 sz4 (bc rfl bn) (by intro r hr t ht;obtain ⟨x,_,rfl⟩:=List.mem_map.1 hr;rw [Qfg] at ht;exact Yg (okBool.pl _ t ht)) (Yu rfl)) (nt (VRun.region (fO (OF.assign (VEv.bool true)) (VRunO.nil (vinB.n (tn (VRun.region ?_)))))))))))
    refine mO (tN i) rfl (fO (QA (tv (tN i) rfl) (VEv.int .i64 1) (by omega)) (aO (tN (i+1)) rfl (VRunO.nil (tn ?_))))
    have he15:(s1.set i true)=(Yj g s1 i):=by exact q1.1
    refine ⟨((i+1,Yj g s1 i,Qa5 g ag1 s1 i):Nat×(List Bool)×Bool),?_,?_,Wk.mk (fun k=>k) ?_ ?_ ?_⟩
    ·exact hI'.next fhc1
    ·show (Yj g s1 i).length - (i+1)<s1.length - i
     have e1:(Yj g s1 i).length=s1.length:=by unfold Yj;split<;>simp
     rw [e1];omega
    ·exact (bc ⟨(congrArg (fun n_=>T.os 1 1 0 n_) (show (s1.map (Qk true)).length=((Yj g s1 i).map (Qk true)).length from (by (rw [← q1.1];simp;done)))),rfl⟩ (b2 (b2 (bc ⟨(congrArg T.bool (show true=(Qa5 g ag1 s1 i) from (by exact q1.2))),rfl⟩ (b2 bn)))))
    ·exact (b3 (bc ⟨(congrArg (fun l_=>some (Obj.rows 1 (List.map (Qk true) l_))) he15),(lb rfl),rfl⟩ bn))
    ·exact nd rfl
   rw [hm] at fhc3
   have q1:=QhJ (g:=g) (s:=s1) (ag:=ag1) (i:=i) (by rintro ⟨h1,h2,h3⟩;exact fhc3 ((Qgv hB.1 fhc1).2 h3))
   refine sk (vinB.n (tn (VRun.region (mO (tN i) rfl (fO (QA (tv (tN i) rfl) (VEv.int .i64 1) (by omega)) (aO (tN (i+1)) rfl (VRunO.nil (tn ?_))))))))
   have he16:s1=(Yj g s1 i):=by exact q1.1
   refine ⟨((i+1,Yj g s1 i,Qa5 g ag1 s1 i):Nat×(List Bool)×Bool),?_,?_,Wk.mk (fun k=>k) ?_ ?_ ?_⟩
   ·exact hI'.next fhc1
   ·show (Yj g s1 i).length - (i+1)<s1.length - i
    have e1:(Yj g s1 i).length=s1.length:=by unfold Yj;split<;>simp
    rw [e1];omega
   ·exact (bc ⟨(congrArg (fun l_=>T.os 1 1 0 (List.map (Qk true) l_).length) he16),rfl⟩ (b2 (b2 (bc ⟨(congrArg T.bool (show ag1=(Qa5 g ag1 s1 i) from (by exact q1.2))),rfl⟩ (b2 bn)))))
   ·exact (b3 (bc ⟨(congrArg (fun l_=>some (Obj.rows 1 (List.map (Qk true) l_))) he16),(lb rfl),rfl⟩ bn))
   ·exact nd rfl
  refine VRun.exit (vthn.e (vthn.e (vinB.e (vinB.n (tn ?_)))))
  refine ⟨((ag1,s1):Bool×(List Bool)),?_,?_,Wk.mk (fun k=>k) ?_ ?_ ?_⟩
  ·exact hI'.done fhc1
  ·exact hI'.dec fhc0
  ·exact (b2 (b2 (b2 (b2 bn))))
  ·exact (b3 (b3 bn))
  ·exact nd rfl
 have fhc0:ag=false:=hc0
 refine VRun.exit (vthn.e (vthn.e (vinB.e (tn (sr (mO (T.os 1 1 0 ((s.map (Qk true)).length)) rfl (aO (T.os 1 1 0 ((s.map (Qk true)).length)) rfl (nt (rt ?_)))))))))
 have hnew:s=Q8 g (seen.set cell true):=by
  exact hI'.done (by simp [fhc0])
 exact vloan.r 1 (VRes.tmp (t:=(T.os 1 1 0 ((s.map (Qk true)).length))) rfl VRes.nil) (congrArg (fun l_=>T.os 1 1 0 (List.map (Qk true) l_).length) hnew) (congrArg (fun n_=>T.os 1 1 0 n_) (show (s.map (Qk true)).length=(seen.map (Qk true)).length from (by (simp only [List.length_map,Qbf,List.length_set];omega)))) rfl (congrArg (List.map (Qk true)) hnew)
end Go.Proofs.YthifchndolccgaaGreatDoor.AE
