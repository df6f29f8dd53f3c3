/- A part of what the row of FnMerged uses. Conditions: as each theorem states. -/
import Derived.Test.YtcglnehpapgfpaaDoorZFnMergedc
namespace Go.Proofs.YtcglnehpapgfpaaDoor.AE
open Go Go.RowKit
set_option linter.unusedVariables false
set_option linter.unusedSimpArgs false
set_option maxRecDepth 20000
set_option maxHeartbeats 2000000
theorem Qk (n:Nat) (a:List D.Note) (ha:a.length≤2*mx):Pure (QA Tryd.prog (n+1)) 49 [(rd 4 Qa a)] (T.sl true 4 (a.map (Qa true))):=by
 refine Pure.intro (rs:= [ResultVar.tmp 2]) Tryd.func49 Y Y Y (E0:= [(0,(rd 4 Qa a))]) Y ?_
 obtain ⟨hlim,hmx,hmax⟩:=Zk
 refine sr (fO (OF.assign VEv.nils) (nt (sq (sr (mO (rd 4 Qa a) Y ?_)))))
 refine VRunO.nilEq VWant.always (tv (rd 4 Qa a) Y) VEv.nils QJ (fun bn1 hbn1=> ?_)
 refine nt ?_
 refine VRun.cond (tv (tB bn1) Y) (fun hc0=> ?_) (fun hc0=> ?_)
 ·have fhc0:bn1=true:=hc0
  have ebn1:=hbn1 hc0
  refine sr (fO (OF.assign VEv.nils) (nt (rt (tr ?_))))
  refine vfin.eq (r':=(T.sl true 4 [])) ?_ (vfin.r (VRes.tmp (t:=T.nils) Y VRes.nil) (Give.nils 4))
  refine congrArg (fun l_=>T.sl true 4 (List.map (Qa true) l_)) (a₁:= []) ?_
  exact (List.map_eq_nil_iff.1 ebn1).symm
 have fhc0:bn1=false:=hc0
 refine sk (tn (sr (kO (OM.slice0 QJ QL (by kernel_rfl) Y (by rw [Qh];decide) Qh) (mO (rd 4 Qa a) Y (cO (B.append (rows:= []) (rows2:=(a.map (Qa false))) (rows3:=(a.map (Qa true))) (VDst.own (tv (T.os 4 0 0 0) Y) Y Y) (VSrc.read (tv (rd 4 Qa a) Y) QJ (okeNote.okMap _ _)) nofun QJ Qh (by decide) QL Y (of_decide_eq_true (by kernel_rfl)) (by first | omega | (simp only [List.length_map];omega) | (simp only [List.length_map,List.length_append,List.length_cons,List.length_nil,List.length_replicate,List.length_set,List.length_drop,List.length_take,Zh] at *;omega)) (List.nil_append _)) (aO (T.os 4 1 0 ((a.map (Qa true)).length)) Y (nt (rt ?_))))))))
 refine vfin.eq (r':=(T.sl true 4 (a.map (Qa true)))) ?_ (vfin.r (VRes.tmp (t:=(T.os 4 1 0 ((a.map (Qa true)).length))) Y VRes.nil) (Give.os Y Y (okeNote.cleanMap _)))
 rfl
noncomputable section
def JO (l:List D.Note) (x:D.Note):Nat:=(l.takeWhile (fun y=>decide (y.Cell<x.Cell))).length
def YS (l:List D.Note) (x:D.Note):List D.Note:=match l[JO l x]? with
 | some y=>if y.Cell=x.Cell then (if Qf x y=true then l.take (JO l x)++x::l.drop (JO l x+1) else l) else l.take (JO l x)++x::l.drop (JO l x)
 | none=>l.take (JO l x)++x::l.drop (JO l x)
def QP (l:List D.Note) (x:D.Note):List D.Note:=if Qb l∧Qb (YS l x) then YS l x else l
theorem QaF : ∀ {l:List D.Note} {x:D.Note} {k:Nat},k≤l.length→(∀j,j<k→∃y,l[j]? =some y∧y.Cell<x.Cell)→(∀y,l[k]? =some y→¬y.Cell<x.Cell)→JO l x=k
 | [],x,k,hk,h,hs=>by
  have:k=0:=by simpa using hk
  subst this
  rfl
 | z::r,x,0,hk,h,hs=>by
  have:=hs z Y
  unfold JO
  rw [List.takeWhile_cons,if_neg (by simpa using this)]
  rfl
 | z::r,x,k+1,hk,h,hs=>by
  obtain ⟨y,hy,h1⟩:=h 0 (by omega)
  obtain rfl:z=y:=by simpa using hy
  have ih:=QaF (l:=r) (x:=x) (k:=k) (by simpa using hk) (fun j hj=>by
   obtain ⟨y,hy,h2⟩:=h (j+1) (by omega)
   exact ⟨y,by simpa using hy,h2⟩) (fun y hy=>hs y (by simpa using hy))
  unfold JO at ih ⊢
  rw [List.takeWhile_cons,if_pos (by simpa using h1),List.length_cons,ih]
def isLed (l:List D.Note) (x:D.Note) (k:Nat):Prop:=k≤l.length∧∀j,j<k→∃y,l[j]? =some y∧y.Cell<x.Cell
theorem isLed.next {l:List D.Note} {x y:D.Note} {k:Nat} (h:isLed l x k) (hy:l[k]? =some y) (hc:y.Cell<x.Cell):isLed l x (k+1):=by
 have:=(List.getElem?_eq_some_iff.1 hy).1
 refine ⟨this,fun j hj=> ?_⟩
 by_cases e:j=k
 ·subst e;exact ⟨y,hy,hc⟩
 ·exact h.2 j (by omega)
theorem Qy {l:List D.Note} {x:D.Note} {k:Nat} (h:isLed l x k) (hk:¬k<l.length):YS l x=l.take k++x::l.drop k:=by
 have hn:l[k]? =none:=List.getElem?_eq_none (by omega)
 have e:=QaF h.1 h.2 (fun y hy=>by rw [hn] at hy;cases hy)
 simp only [YS,e,hn]
theorem Qz {l:List D.Note} {x y:D.Note} {k:Nat} (h:isLed l x k) (hy:l[k]? =some y) (hc:¬y.Cell<x.Cell) (he:¬y.Cell=x.Cell):YS l x=l.take k++x::l.drop k:=by
 have e:=QaF h.1 h.2 (fun z hz=>by rw [hy] at hz;cases hz;exact hc)
 simp only [YS,e,hy,if_neg he]
theorem Qw {l:List D.Note} {x y:D.Note} {k:Nat} (h:isLed l x k) (hy:l[k]? =some y) (he:y.Cell=x.Cell) (hl:¬Qf x y=true):YS l x=l:=by
 have e:=QaF h.1 h.2 (fun z hz=>by rw [hy] at hz;cases hz;omega)
 simp only [YS,e,hy,if_pos he,if_neg hl]
theorem QY {l:List D.Note} {x y:D.Note} {k:Nat} (h:isLed l x k) (hy:l[k]? =some y) (he:y.Cell=x.Cell) (hl:Qf x y=true):YS l x=l.take k++x::l.drop (k+1):=by
 have e:=QaF h.1 h.2 (fun z hz=>by rw [hy] at hz;cases hz;omega)
 simp only [YS,e,hy,if_pos he,if_pos hl]
theorem Q5 {l:List D.Note} {x y:D.Note} {k:Nat} (h:isLed l x k) (hy:l[k]? =some y) (he:y.Cell=x.Cell) (hl:Qf x y=true):YS l x=l.set k x:=by
 have hk:=(List.getElem?_eq_some_iff.1 hy).1
 rw [QY h hy he hl,List.set_eq_take_append_cons_drop,if_pos hk]
theorem QcU (l:List D.Note) (x:D.Note) (k:Nat):zL Qo (l.take k++x::l.drop k)=zL Qo l+Qo x+1:=by
 have e:zL Qo l=zL Qo (l.take k++l.drop k):=by rw [List.take_append_drop]
 rw [e,JZ,JZ]
 simp only [zL,YT,List.length_cons];omega
theorem QdE (l:List D.Note) (x:D.Note) (k:Nat):zL Qo (l.take k++x::l.drop (k+1))≤zL Qo l+Qo x+1:=by
 have e:zL Qo l=zL Qo (l.take k++l.drop k):=by rw [List.take_append_drop]
 have e2:zL Qo (l.drop (k+1))≤zL Qo (l.drop k):=by
  rw [show l.drop (k+1)=(l.drop k).drop 1 from (List.drop_drop ..).symm]
  cases l.drop k with
  | nil=>exact Nat.le_refl _
  | cons y r=>simp only [List.drop_succ_cons,List.drop_zero,zL,YT,List.length_cons];omega
 rw [e,JZ,JZ]
 simp only [zL,YT,List.length_cons] at e2 ⊢;omega
theorem QgO (l:List D.Note) (x:D.Note):zL Qo (YS l x)≤zL Qo l+Qo x+1:=by
 unfold YS
 split
 ·split
  ·split
   ·exact QdE _ _ _
   ·omega
  ·exact Nat.le_of_eq (QcU _ _ _)
 ·exact Nat.le_of_eq (QcU _ _ _)
theorem Q1 {α:Type} (a:List α) (x:α) (b:List α):a++ [x]++b=a++x::b:=by simp
theorem Qga {l:List D.Note} {x:D.Note} (hz:zL Qo l+Qo x+1≤2*mx) (k:Nat):zL Qo (l.take k++ [x]++l.drop k)≤2*mx:=by
 rw [Q1,QcU];exact hz
theorem QfQ {l:List D.Note} {x:D.Note} (hz:zL Qo l+Qo x+1≤2*mx) (k:Nat):zL Qo (l.take k++ [x]++(l.drop k).drop 1)≤2*mx:=by
 have:=QdE l x k
 rw [Q1,List.drop_drop]
 exact Nat.le_trans this hz
theorem Qfb {l:List D.Note} {x:D.Note} (hz:zL Qo l+Qo x+1≤2*mx) (k:Nat):zL Qo (l.take k++x::l.drop k)≤2*mx:=by
 rw [QcU];exact hz
theorem Qfv {l:List D.Note} {x:D.Note} (hz:zL Qo l+Qo x+1≤2*mx) (k:Nat):zL Qo (l.set k x)≤2*mx:=by
 have:=QdE l x k
 rw [List.set_eq_take_append_cons_drop]
 split
 ·exact Nat.le_trans this hz
 ·omega
theorem Qx {l:List D.Note} {x:D.Note} (h:¬Qb l):QP l x=l:=if_neg (fun e=>h e.1)
theorem Qe {l q:List D.Note} {x:D.Note} (e:YS l x=q) (h:¬Qb q):QP l x=l:=if_neg (fun e2=>h (e▸e2.2))
theorem Qd {l q:List D.Note} {x:D.Note} (h0:Qb l) (e:YS l x=q) (h:Qb q):QP l x=q:=by
 subst e
 exact if_pos ⟨h0,h⟩
theorem Qp {l:List D.Note} {x:D.Note} (e:YS l x=l):QP l x=l:=by
 unfold QP
 rw [e]
 split<;>rfl
def Qc (a b:List D.Note):List D.Note:=if Qb a∧Qb b then b.foldl QP a else []
theorem Jm {a b:List D.Note} (h:Qb a) (h2:Qb b):Qc a b=b.foldl QP a:=if_pos ⟨h,h2⟩
theorem Zy {a b:List D.Note} (h:¬Qb a∨¬Qb b):Qc a b= []:=if_neg (fun e=>h.elim (fun h=>h e.1) (fun h=>h e.2))
theorem QbX {a b:List D.Note} {x:D.Note} {i:Nat} (h:b[i]? =some x):QP ((b.take i).foldl QP a) x=(b.take (i+1)).foldl QP a:=by
 rw [List.take_add_one,h]
 simp
theorem QE {α:Type} {l:List α} {k:Nat} {x:α} (h:(l.drop k)[0]? =some x):l[k]? =some x:=by simpa using h
theorem QfY (l:List D.Note) (x:D.Note):zL Qo (QP l x)≤zL Qo l+Qo x+1:=by
 unfold QP
 split
 ·exact QgO l x
 ·omega
theorem Qbo : ∀(a b:List D.Note),zL Qo (b.foldl QP a)≤zL Qo a+zL Qo b
 | a,[]=>Nat.le_add_right _ _
 | a,x::r=>by
  have h1:=Qbo (QP a x) r
  have h2:=QfY a x
  simp only [List.foldl_cons,zL,YT,List.length_cons] at h1 h2 ⊢
  omega
theorem Y9 {a b:List D.Note} {x:D.Note} {i:Nat} (hz:zL Qo a+zL Qo b≤2*mx) (h:b[i]? =some x):zL Qo ((b.take i).foldl QP a)+Qo x+1≤2*mx:=by
 have h1:=Qbo a (b.take i)
 have h2:=Qe0 (z:=Qo) h
 have h3:=Qbz (z:=Qo) b (i+1)
 have h4:=(List.getElem?_eq_some_iff.1 h).1
 simp only [zL,List.length_take] at h1 h3 hz ⊢
 omega
theorem Qao (a b:List D.Note):zL Qo (Qc a b)≤zL Qo a+zL Qo b:=by
 unfold Qc
 split
 ·exact Qbo a b
 ·exact Nat.zero_le _
end
theorem Qbd (n:Nat) (l:List D.Note) (x:D.Note) (hz:zL Qo l+Qo x+1≤2*mx):Pure (QA Tryd.prog (n+4)) 87 [(rd 4 Qa l),(T.agg (Qa false x))] (T.sl true 4 ((QP l x).map (Qa true))):=by
 refine Pure.intro (rs:= [ResultVar.tmp 4]) Tryd.func87 Y Y Y (E0:= [(0,(rd 4 Qa l)),(1,(T.agg (Qa false x)))]) Y ?_
 obtain ⟨hlim,hmx,hmax⟩:=Zk
 have hl:=ZV (z:=Qo) l
 have hq1:=Qga hz
 have hq2:=QfQ hz
 refine sr (kO (B.box (ts:=(Qa false x)) (tv (T.agg (Qa false x)) Y) nofun Y) (fO (OF.assign VEv.nils) (nt (sr (fO (OF.assign (VEv.int .i64 0)) (nt (sq (VRun.block ?_))))))))
 refine VRun.loop (A:=Nat) (fun s_=> [(0,(rd 4 Qa l)),(3,(T.op 0 0)),(4,T.nils),(5,(tN s_))]) (fun s_=>Jw [(0,(Obj.cells (Qa false x)))]) 1 (fun s_=>isLed l x s_) (fun s_=>l.length - s_) (0:Nat) ?_ (Wk.mk (fun k=>k) ?_ ?_ ?_) ?_
 ·exact ⟨Nat.zero_le _,fun j hj=>by omega⟩
 ·exact (b2 (b2 (b2 (b2 bn))))
 ·exact (b3 bn)
 ·exact nd Y
 rintro k (hI':isLed l x k)
 show VRun _ _ _ [(0,(rd 4 Qa l)),(3,(T.op 0 0)),(4,T.nils),(5,(tN k))] (Jw [(0,(Obj.cells (Qa false x)))]) 1 _
 have hI1:=hI'.1
 refine sq (sq (VRun.draw (B:= [[],[],[1],[1,2,0],[0,2,1,3],[3,1,2,0,4],[3,1,2,0,4],[6,4,0,2,1,3,5],[5,3,1,2,0,4,6,7],[7,6,4,0,2,1,3,5,8],[3,1,2,0,4],[4,0,2,1,3,10],[10,11,8,5,3,1,2,0,4,6,7,9],[9,7,6,5,8,11,10,12,3,1,2,0,4]]) (by kernel_rfl) (by kernel_rfl) Y (mD (tN k) Y Y (mD (rd 4 Qa l) Y Y (lD (B.lenR (m:=l.length) (tv (rd 4 Qa l) Y) QJ (List.length_map ..)) Y Y (fD (Jx (tv (tN k) Y) (tv (tN l.length) Y)) Y Y (mD (tB (decide (k<l.length))) Y Y ?_)))))))
 refine gw (k<l.length) (fun fhg12_1=> ?_) fun fhg12_1=> ?_
 ·refine VRunD.free Y (VWant.on Y Y (dy fhg12_1)) Y (OF.move (tv (rd 4 Qa l) Y)) ?_
  refine VRunD.free Y (VWant.on Y Y (dy fhg12_1)) Y (OF.move (tv (tN k) Y)) ?_
  obtain ⟨x1,hx1⟩:∃x,l[k]? =some x:=⟨_,List.getElem?_eq_getElem (by first | exact hq1 _ | exact hq2 _ | omega)⟩
  refine VRunD.free Y (VWant.on Y Y (dy fhg12_1)) Y (OF.indexAddrR (row:=(Qa false x1)) (i:=k) (tv (rd 4 Qa l) Y) (tv (tN k) Y) Y (QR _ hx1) QJ Qh Q7) (VRunD.free Y (VWant.on Y Y (dy fhg12_1)) Y (B.fieldAddrR (us:=(Qa false x1)) (tv (T.rp (Qa false x1)) Y) (lb Y) Ze Y) (VRunD.look Y (VWant.on Y Y (dy fhg12_1)) Y (OL.loadR1 (t:=(tI x1.Cell)) (tv (T.rp (Qa false x1)) Y) Y Zo) (VRunD.free Y (VWant.on Y Y (dy fhg12_1)) Y (OF.fieldAddrO (tv (T.op 0 0) Y) Ze) (VRunD.look Y (VWant.on Y Y (dy fhg12_1)) Y (OL.loadO1 (t:=(tI x.Cell)) (tv (T.op 0 0) Y) Y Y Zo) (VRunD.free Y (VWant.on Y Y (dy fhg12_1)) Y (xls (tv (tI x1.Cell) Y) (tv (tI x.Cell) Y)) (fD (OF.pickT (VEv.tmpB Y (dy fhg12_1)) (tv (tB (decide (x1.Cell<x.Cell))) Y)) Y Y (VRunD.nil (tn ?_))))))))
  refine cd (x1.Cell<x.Cell) Y (fun fhc0=> ?_) fun fhc0=> ?_
  ·refine sk ?_
   refine tn (VRun.block (VRun.region (mO (tN k) Y (fO (ZB (tv (tN k) Y) (VEv.int .i64 1) (by first | exact hq1 _ | exact hq2 _ | omega)) (aO (tN (k+1)) Y (VRunO.nil (vinB.n (tn ?_))))))))
   refine ⟨(k+1:Nat),?_,?_,Wk.mk (fun k=>k) ?_ ?_ ?_⟩
   ·exact hI'.next hx1 (by assumption)
   ·first | omega | (simp only [];omega) | (show _<_;omega) | (simp;omega)
   ·exact (b2 (b2 (b2 (b2 bn))))
   ·exact (b3 bn)
   ·exact nd Y
  refine VRun.exit (vthn.e (vthn.e (vinB.e (tn (sr (mO (rd 4 Qa l) Y (mO (tN k) Y ?_)))))))
  refine lO (show OL _ _ _ _ _ (T.sl false 4 ((l.drop k).map (Qa false))) by rw [show (l.drop k).map (Qa false)=(l.map (Qa false)).drop k from List.map_drop ..];exact (OL.sliceRLo (i:=k) (tv (rd 4 Qa l) Y) (tv (tN k) Y) Y (by first | exact hq1 _ | exact hq2 _ | omega | (simp only [List.length_map];omega) | (simp only [List.length_map,List.length_append,List.length_cons,List.length_nil,List.length_replicate,List.length_set,List.length_drop,List.length_take,Zh] at *;omega)) QJ Qh Q7)) (aO (rd 4 Qa (l.drop k)) Y (nt (sq (sq (VRun.draw (B:= [[],[0],[0,1],[1,0,2],[2,0,1,3],[3,1,0,2,4],[4,2,0,1,3,5],[5,3,1,0,2,4,6],[2,0,1,3],[3,1,0,2,8],[8,9,6,4,2,0,1,3,5,7],[7,5,4,6,9,8,10,2,0,1,3]]) (by kernel_rfl) (by kernel_rfl) Y (mD (rd 4 Qa (l.drop k)) Y Y (lD (B.lenR (m:=(l.drop k).length) (tv (rd 4 Qa (l.drop k)) Y) QJ (List.length_map ..)) Y Y (fD (B.gtr (c:=(decide (0<(l.drop k).length))) (tv (tN ((l.drop k).length)) Y) (VEv.int .i64 0) (by first | exact hq1 _ | exact hq2 _ | (exact Z4 (by omega)))) Y Y (mD (tB (decide (0<(l.drop k).length))) Y Y ?_)))))))))
  refine gw (0<(l.drop k).length) (fun fhg30_2=> ?_) fun fhg30_2=> ?_
  ·refine VRunD.free Y (VWant.on Y Y (dy fhg30_2)) Y (OF.move (tv (rd 4 Qa (l.drop k)) Y)) ?_
   obtain ⟨x2,hx2⟩:∃x,(l.drop k)[0]? =some x:=⟨_,List.getElem?_eq_getElem (by first | exact hq1 _ | exact hq2 _ | omega | (simp only [List.length_map];omega) | (simp only [List.length_map,List.length_append,List.length_cons,List.length_nil,List.length_replicate,List.length_set,List.length_drop,List.length_take,Zh] at *;omega))⟩
   refine VRunD.free Y (VWant.on Y Y (dy fhg30_2)) Y (OF.indexAddrR (row:=(Qa false x2)) (i:=0) (tv (rd 4 Qa (l.drop k)) Y) (VEv.int .i64 0) Y (QR _ hx2) QJ Qh Q7) (VRunD.free Y (VWant.on Y Y (dy fhg30_2)) Y (B.fieldAddrR (us:=(Qa false x2)) (tv (T.rp (Qa false x2)) Y) (lb Y) Ze Y) (VRunD.look Y (VWant.on Y Y (dy fhg30_2)) Y (OL.loadR1 (t:=(tI x2.Cell)) (tv (T.rp (Qa false x2)) Y) Y Zo) (VRunD.free Y (VWant.on Y Y (dy fhg30_2)) Y (OF.fieldAddrO (tv (T.op 0 0) Y) Ze) (VRunD.look Y (VWant.on Y Y (dy fhg30_2)) Y (OL.loadO1 (t:=(tI x.Cell)) (tv (T.op 0 0) Y) Y Y Zo) (VRunD.free Y (VWant.on Y Y (dy fhg30_2)) Y (xeq (tv (tI x2.Cell) Y) (tv (tI x.Cell) Y)) (fD (OF.pickT (VEv.tmpB Y (dy fhg30_2)) (tv (tB (decide (x2.Cell=x.Cell))) Y)) Y Y (VRunD.nil (tn ?_))))))))
   refine cd (x2.Cell=x.Cell) Y (fun fhc1=> ?_) fun fhc1=> ?_
   ·refine sq ?_
    refine sq (VRun.draw (B:= [[],[],[1],[1,2],[2,1,3,0],[0,3,1,2,4]]) (by kernel_rfl) (by kernel_rfl) Y (lD (OL.loadOn (us:=(Qa false x)) (tv (T.op 0 0) Y) Y Q6 Qh (lb Y) Y) Y Y (mD (rd 4 Qa (l.drop k)) Y Y (fD (OF.indexAddrR (row:=(Qa false x2)) (i:=0) (tv (rd 4 Qa (l.drop k)) Y) (VEv.int .i64 0) Y (QR _ hx2) QJ Qh Q7) Y Y (lD (OL.loadRn (us:=(Qa false x2)) (tv (T.rp (Qa false x2)) Y) Q6 Qh (lb Y) Y) Y Y (VRunD.quiet (bi:= [2,1,3,0]) Y VWant.always Y Y Y bn (cS (vc (tv (T.agg (Qa false x)) Y) (vc (tv (T.agg (Qa false x2)) Y) vn)) (LendL.cons (lg okeNote) (LendL.cons (lg okeNote) ln)) (JI (n+2) x x2) Y Y) (fD (QZ (tv (tB (Qf x x2)) Y)) Y Y (VRunD.nil (tn ?_)))))))))
    refine VRun.cond (tv (tB (!(Qf x x2))) Y) (fun hc2=> ?_) (fun hc2=> ?_)
    ·have fhc2:(Qf x x2)=false:=Qgd hc2
     refine sr (kO (OM.slice0 QJ QL (by kernel_rfl) Y (by rw [Qh];decide) Qh) (mO (rd 4 Qa l) Y (cO (B.append (rows:= []) (rows2:=(l.map (Qa false))) (rows3:=(l.map (Qa true))) (VDst.own (tv (T.os 4 1 0 0) Y) Y Y) (VSrc.read (tv (rd 4 Qa l) Y) QJ (okeNote.okMap _ _)) nofun QJ Qh (by decide) QL Y (of_decide_eq_true (by kernel_rfl)) (by first | exact hq1 _ | exact hq2 _ | omega | (simp only [List.length_map];omega) | (simp only [List.length_map,List.length_append,List.length_cons,List.length_nil,List.length_replicate,List.length_set,List.length_drop,List.length_take,Zh] at *;omega)) (List.nil_append _)) (aO (T.os 4 2 0 ((l.map (Qa true)).length)) Y (nt (rt (tr (tr ?_))))))))
     refine vfin.eq (r':=(T.sl true 4 (l.map (Qa true)))) ?_ (vfin.r (VRes.tmp (t:=(T.os 4 2 0 ((l.map (Qa true)).length))) Y VRes.nil) (Give.os Y Y (okeNote.cleanMap _)))
     refine congrArg (fun l_=>T.sl true 4 (List.map (Qa true) l_)) ?_
     first
     | (exfalso;simp only [List.length_drop] at *;omega)
     | (cases QE hx2▸hx1;exact (Qp (Qw hI' hx1 fhc1 (by rw [fhc2];decide))).symm)
     | (symm;exact Qx ‹¬Qb l›)
     | (cases QE hx2▸hx1;symm;have e:=QY hI' hx1 fhc1 fhc2;rw [Q1,List.drop_drop] at *;first | exact Qe e fhc3 | exact Qd ‹Qb l› e fhc3)
     | (have e:=Qy hI' (by omega);rw [Q1] at *;symm;first | exact Qe e fhc3 | exact Qd ‹Qb l› e fhc3)
     | (cases QE hx2▸hx1;have e:=Qz hI' hx1 fhc0 fhc1;rw [Q1] at *;symm;first | exact Qe e fhc3 | exact Qd ‹Qb l› e fhc3)
    have fhc2:(Qf x x2)=true:=Qgb hc2
    refine sk (tn (VRun.region (mO (rd 4 Qa (l.drop k)) Y ?_)))
    refine lO (show OL _ _ _ _ _ (T.sl false 4 (((l.drop k).drop 1).map (Qa false))) by rw [show ((l.drop k).drop 1).map (Qa false)=((l.drop k).map (Qa false)).drop 1 from List.map_drop ..];exact (OL.sliceRLo (i:=1) (tv (rd 4 Qa (l.drop k)) Y) (VEv.int .i64 1) Y (by first | exact hq1 _ | exact hq2 _ | omega | (simp only [List.length_map];omega) | (simp only [List.length_map,List.length_append,List.length_cons,List.length_nil,List.length_replicate,List.length_set,List.length_drop,List.length_take,Zh] at *;omega)) QJ Qh Q7)) (aO (rd 4 Qa ((l.drop k).drop 1)) Y (VRunO.nil (tn (sq (VRun.draw (B:= [[],[],[],[2,1],[1,2,3,0],[],[5],[5,6,0,3,2,1,4],[],[8,4,1,2,3,0,6,5,7],[7,5,6,0,3,2,1,4,8,9]]) (by kernel_rfl) (by kernel_rfl) Y (VRunD.make Y VWant.always Y (OM.slice0 QJ QL (by kernel_rfl) Y (by rw [Qh];decide) Qh) (mD (rd 4 Qa l) Y Y (mD (tN k) Y Y ?_))))))))
    refine lD (show OL _ _ _ _ _ (T.sl false 4 ((l.take k).map (Qa false))) by rw [show (l.take k).map (Qa false)=(l.map (Qa false)).take k from List.map_take ..];exact (OL.sliceRHi (j:=k) (tv (rd 4 Qa l) Y) (tv (tN k) Y) Y (by first | exact hq1 _ | exact hq2 _ | omega | (simp only [List.length_map];omega) | (simp only [List.length_map,List.length_append,List.length_cons,List.length_nil,List.length_replicate,List.length_set,List.length_drop,List.length_take,Zh] at *;omega)) QJ Qh Q7)) Y Y (VRunD.quiet (bi:= [1,2,3,0]) Y VWant.always Y Y Y (bc (lb Y) bn) (B.append (rows:= []) (rows2:=((l.take k).map (Qa false))) (rows3:=((l.take k).map (Qa true))) (VDst.own (tv (T.os 4 1 0 0) Y) Y Y) (VSrc.read (tv (rd 4 Qa (l.take k)) Y) QJ (okeNote.okMap _ _)) nofun QJ Qh (by decide) QL Y (of_decide_eq_true (by kernel_rfl)) (by first | exact hq1 _ | exact hq2 _ | omega | (simp only [List.length_map];omega) | (simp only [List.length_map,List.length_append,List.length_cons,List.length_nil,List.length_replicate,List.length_set,List.length_drop,List.length_take,Zh] at *;omega)) (List.nil_append _)) (lD (OL.loadOn (us:=(Qa false x)) (tv (T.op 0 0) Y) Y Q6 Qh (lb Y) Y) Y Y (VRunD.make Y VWant.always Y (OM.buildSlice (l:= [(T.agg (Qa false x))]) (VEvp.cons (tv (T.agg (Qa false x)) Y) VEvp.nil) Y (by decide) (bc (nofun) bn) (bc ((bc (Y) (bc (Y) (bc (Y) (bc (Y) bn))))) bn) (bc (Y) bn) QJ QL (by kernel_rfl) Y (by rw [Qh];decide) Qh (Nat.le_of_ble_eq_true Y)) (VRunD.quiet (bi:= [5,6,0,3,2,1,4]) Y VWant.always Y Y Y (bc (lb Y) (bc (lb Y) bn)) (B.append (rows:=((l.take k).map (Qa true))) (rows2:= [[(tI x.Cell),(tS x.Letter),(tI x.Tick),(tI x.Who)]]) (rows3:=(((l.take k)++ [x]).map (Qa true))) (VDst.own (tv (T.os 4 2 0 (((l.take k).map (Qa true)).length)) Y) Y Y) (VSrc.own (tv (T.os 4 3 0 1) Y) Y Y QJ (bc (bc Y (bc Y (bc Y (bc Y bn)))) bn)) (by decide) QJ Qh (by decide) QL Y (of_decide_eq_true (by kernel_rfl)) (by first | exact hq1 _ | exact hq2 _ | omega | (simp only [List.length_map];omega) | (simp only [List.length_map,List.length_append,List.length_cons,List.length_nil,List.length_replicate,List.length_set,List.length_drop,List.length_take,Zh] at *;omega)) ((List.map_append (f:=Qa true) (l₁:=(l.take k)) (l₂:= [x])).symm)) (mD (rd 4 Qa ((l.drop k).drop 1)) Y Y (VRunD.quiet (bi:= [8,4,1,2,3,0,6,5,7]) Y VWant.always Y Y Y (bc (lb Y) bn) (B.append (rows:=(((l.take k)++ [x]).map (Qa true))) (rows2:=(((l.drop k).drop 1).map (Qa false))) (rows3:=((((l.take k)++ [x])++((l.drop k).drop 1)).map (Qa true))) (VDst.own (tv (T.os 4 4 0 ((((l.take k)++ [x]).map (Qa true)).length)) Y) Y Y) (VSrc.read (tv (rd 4 Qa ((l.drop k).drop 1)) Y) QJ (okeNote.okMap _ _)) nofun QJ Qh (by decide) QL Y (of_decide_eq_true (by kernel_rfl)) (by first | exact hq1 _ | exact hq2 _ | omega | (simp only [List.length_map];omega) | (simp only [List.length_map,List.length_append,List.length_cons,List.length_nil,List.length_replicate,List.length_set,List.length_drop,List.length_take,Zh] at *;omega)) ((List.map_append (f:=Qa true) (l₁:=((l.take k)++ [x])) (l₂:=((l.drop k).drop 1))).symm)) ?_))))))
    refine fD (OF.assign (tv (T.os 4 5 0 (((((l.take k)++ [x])++((l.drop k).drop 1)).map (Qa true)).length)) Y)) Y Y (VRunD.nil (tn (sq (sr (mO (rd 4 Qa l) Y (cO (cS (vc (tv (rd 4 Qa l) Y) vn) (ZO Y) (QI (n+0) l (by first | exact hq1 _ | exact hq2 _ | assumption | omega)) Y Y) (fO (QZ (tv (tB (decide (Qb l))) Y)) (mO (tB (!(decide (Qb l)))) Y ?_))))))))
    refine gn (Qb l) (fun fhg63_3=> ?_) fun fhg63_3=> ?_
    ·refine Q2 3 3 false 63 (ny fhg63_3) Y Y Y ?_
     refine fO (OF.pickT (VEv.tmpB Y (ny fhg63_3)) (VEv.bool true)) (nt (ct Y (sr (kO (OM.slice0 QJ QL (by kernel_rfl) Y (by rw [Qh];decide) Qh) (mO (rd 4 Qa l) Y (cO (B.append (rows:= []) (rows2:=(l.map (Qa false))) (rows3:=(l.map (Qa true))) (VDst.own (tv (T.os 4 6 0 0) Y) Y Y) (VSrc.read (tv (rd 4 Qa l) Y) QJ (okeNote.okMap _ _)) nofun QJ Qh (by decide) QL Y (of_decide_eq_true (by kernel_rfl)) (by first | exact hq1 _ | exact hq2 _ | omega | (simp only [List.length_map];omega) | (simp only [List.length_map,List.length_append,List.length_cons,List.length_nil,List.length_replicate,List.length_set,List.length_drop,List.length_take,Zh] at *;omega)) (List.nil_append _)) (aO (T.os 4 7 0 ((l.map (Qa true)).length)) Y (nt (rt (tr ?_))))))))))
     refine vfin.eq (r':=(T.sl true 4 (l.map (Qa true)))) ?_ (vfin.r (VRes.tmp (t:=(T.os 4 7 0 ((l.map (Qa true)).length))) Y VRes.nil) (Give.os Y Y (okeNote.cleanMap _)))
     refine congrArg (fun l_=>T.sl true 4 (List.map (Qa true) l_)) ?_
     first
     | (exfalso;simp only [List.length_drop] at *;omega)
     | (cases QE hx2▸hx1;exact (Qp (Qw hI' hx1 fhc1 (by rw [fhc2];decide))).symm)
     | (symm;exact Qx ‹¬Qb l›)
     | (cases QE hx2▸hx1;symm;have e:=QY hI' hx1 fhc1 fhc2;rw [Q1,List.drop_drop] at *;first | exact Qe e fhc3 | exact Qd ‹Qb l› e fhc3)
     | (have e:=Qy hI' (by omega);rw [Q1] at *;symm;first | exact Qe e fhc3 | exact Qd ‹Qb l› e fhc3)
     | (cases QE hx2▸hx1;have e:=Qz hI' hx1 fhc0 fhc1;rw [Q1] at *;symm;first | exact Qe e fhc3 | exact Qd ‹Qb l› e fhc3)
    refine gF (nz fhg63_3) Y Y (OF.move (tv (T.os 4 5 0 (((((l.take k)++ [x])++((l.drop k).drop 1)).map (Qa true)).length)) Y)) (VRunO.chain (VWant.on Y Y (nz fhg63_3)) (cS (us:= [(rd 4 Qa (((l.take k)++ [x])++((l.drop k).drop 1)))]) (vc (tv (T.os 4 5 0 (((((l.take k)++ [x])++((l.drop k).drop 1)).map (Qa true)).length)) Y) vn) (LendL.cons (Lend.os Y Y (okeNote.fzMap _ _)) ln) (QI (n+0) (((l.take k)++ [x])++((l.drop k).drop 1)) (by first | exact hq1 _ | exact hq2 _ | assumption | omega)) Y Y) (gF (nz fhg63_3) Y Y (QZ (tv (tB (decide (Qb (((l.take k)++ [x])++((l.drop k).drop 1))))) Y)) (fO (OF.pickF (VEv.tmpB Y (nz fhg63_3)) (tv (tB (!(decide (Qb (((l.take k)++ [x])++((l.drop k).drop 1)))))) Y)) (nt ?_))))
    refine cn (Qb (((l.take k)++ [x])++((l.drop k).drop 1))) Y (fun fhc3=> ?_) fun fhc3=> ?_
    ·refine sr ?_
     refine kO (OM.slice0 QJ QL (by kernel_rfl) Y (by rw [Qh];decide) Qh) (mO (rd 4 Qa l) Y (cO (B.append (rows:= []) (rows2:=(l.map (Qa false))) (rows3:=(l.map (Qa true))) (VDst.own (tv (T.os 4 6 0 0) Y) Y Y) (VSrc.read (tv (rd 4 Qa l) Y) QJ (okeNote.okMap _ _)) nofun QJ Qh (by decide) QL Y (of_decide_eq_true (by kernel_rfl)) (by first | exact hq1 _ | exact hq2 _ | omega | (simp only [List.length_map];omega) | (simp only [List.length_map,List.length_append,List.length_cons,List.length_nil,List.length_replicate,List.length_set,List.length_drop,List.length_take,Zh] at *;omega)) (List.nil_append _)) (aO (T.os 4 7 0 ((l.map (Qa true)).length)) Y (nt (rt (tr ?_))))))
     refine vfin.eq (r':=(T.sl true 4 (l.map (Qa true)))) ?_ (vfin.r (VRes.tmp (t:=(T.os 4 7 0 ((l.map (Qa true)).length))) Y VRes.nil) (Give.os Y Y (okeNote.cleanMap _)))
     refine congrArg (fun l_=>T.sl true 4 (List.map (Qa true) l_)) ?_
     first
     | (exfalso;simp only [List.length_drop] at *;omega)
     | (cases QE hx2▸hx1;exact (Qp (Qw hI' hx1 fhc1 (by rw [fhc2];decide))).symm)
     | (symm;exact Qx ‹¬Qb l›)
     | (cases QE hx2▸hx1;symm;have e:=QY hI' hx1 fhc1 fhc2;rw [Q1,List.drop_drop] at *;first | exact Qe e fhc3 | exact Qd ‹Qb l› e fhc3)
     | (have e:=Qy hI' (by omega);rw [Q1] at *;symm;first | exact Qe e fhc3 | exact Qd ‹Qb l› e fhc3)
     | (cases QE hx2▸hx1;have e:=Qz hI' hx1 fhc0 fhc1;rw [Q1] at *;symm;first | exact Qe e fhc3 | exact Qd ‹Qb l› e fhc3)
    refine sk (tn (sr (mO (T.os 4 5 0 (((((l.take k)++ [x])++((l.drop k).drop 1)).map (Qa true)).length)) Y (aO (T.os 4 5 0 (((((l.take k)++ [x])++((l.drop k).drop 1)).map (Qa true)).length)) Y (nt (rt ?_))))))
    refine vfin.eq (r':=(T.sl true 4 ((((l.take k)++ [x])++((l.drop k).drop 1)).map (Qa true)))) ?_ (vfin.r (VRes.tmp (t:=(T.os 4 5 0 (((((l.take k)++ [x])++((l.drop k).drop 1)).map (Qa true)).length))) Y VRes.nil) (Give.os Y Y (okeNote.cleanMap _)))
    refine congrArg (fun l_=>T.sl true 4 (List.map (Qa true) l_)) ?_
    first
    | (exfalso;simp only [List.length_drop] at *;omega)
    | (cases QE hx2▸hx1;exact (Qp (Qw hI' hx1 fhc1 (by rw [fhc2];decide))).symm)
    | (symm;exact Qx ‹¬Qb l›)
    | (cases QE hx2▸hx1;symm;have e:=QY hI' hx1 fhc1 fhc2;rw [Q1,List.drop_drop] at *;first | exact Qe e fhc3 | exact Qd ‹Qb l› e fhc3)
    | (have e:=Qy hI' (by omega);rw [Q1] at *;symm;first | exact Qe e fhc3 | exact Qd ‹Qb l› e fhc3)
    | (cases QE hx2▸hx1;have e:=Qz hI' hx1 fhc0 fhc1;rw [Q1] at *;symm;first | exact Qe e fhc3 | exact Qd ‹Qb l› e fhc3)
   refine sk (tn (sq (VRun.draw (B:= [[],[],[],[2,1],[1,2,3,0],[],[5],[5,6,0,3,2,1,4],[],[8,4,1,2,3,0,6,5,7],[7,5,6,0,3,2,1,4,8,9]]) (by kernel_rfl) (by kernel_rfl) Y (VRunD.make Y VWant.always Y (OM.slice0 QJ QL (by kernel_rfl) Y (by rw [Qh];decide) Qh) (mD (rd 4 Qa l) Y Y (mD (tN k) Y Y ?_))))))
   refine lD (show OL _ _ _ _ _ (T.sl false 4 ((l.take k).map (Qa false))) by rw [show (l.take k).map (Qa false)=(l.map (Qa false)).take k from List.map_take ..];exact (OL.sliceRHi (j:=k) (tv (rd 4 Qa l) Y) (tv (tN k) Y) Y (by first | exact hq1 _ | exact hq2 _ | omega | (simp only [List.length_map];omega) | (simp only [List.length_map,List.length_append,List.length_cons,List.length_nil,List.length_replicate,List.length_set,List.length_drop,List.length_take,Zh] at *;omega)) QJ Qh Q7)) Y Y (VRunD.quiet (bi:= [1,2,3,0]) Y VWant.always Y Y Y (bc (lb Y) bn) (B.append (rows:= []) (rows2:=((l.take k).map (Qa false))) (rows3:=((l.take k).map (Qa true))) (VDst.own (tv (T.os 4 1 0 0) Y) Y Y) (VSrc.read (tv (rd 4 Qa (l.take k)) Y) QJ (okeNote.okMap _ _)) nofun QJ Qh (by decide) QL Y (of_decide_eq_true (by kernel_rfl)) (by first | exact hq1 _ | exact hq2 _ | omega | (simp only [List.length_map];omega) | (simp only [List.length_map,List.length_append,List.length_cons,List.length_nil,List.length_replicate,List.length_set,List.length_drop,List.length_take,Zh] at *;omega)) (List.nil_append _)) (lD (OL.loadOn (us:=(Qa false x)) (tv (T.op 0 0) Y) Y Q6 Qh (lb Y) Y) Y Y (VRunD.make Y VWant.always Y (OM.buildSlice (l:= [(T.agg (Qa false x))]) (VEvp.cons (tv (T.agg (Qa false x)) Y) VEvp.nil) Y (by decide) (bc (nofun) bn) (bc ((bc (Y) (bc (Y) (bc (Y) (bc (Y) bn))))) bn) (bc (Y) bn) QJ QL (by kernel_rfl) Y (by rw [Qh];decide) Qh (Nat.le_of_ble_eq_true Y)) (VRunD.quiet (bi:= [5,6,0,3,2,1,4]) Y VWant.always Y Y Y (bc (lb Y) (bc (lb Y) bn)) (B.append (rows:=((l.take k).map (Qa true))) (rows2:= [[(tI x.Cell),(tS x.Letter),(tI x.Tick),(tI x.Who)]]) (rows3:=(((l.take k)++ [x]).map (Qa true))) (VDst.own (tv (T.os 4 2 0 (((l.take k).map (Qa true)).length)) Y) Y Y) (VSrc.own (tv (T.os 4 3 0 1) Y) Y Y QJ (bc (bc Y (bc Y (bc Y (bc Y bn)))) bn)) (by decide) QJ Qh (by decide) QL Y (of_decide_eq_true (by kernel_rfl)) (by first | exact hq1 _ | exact hq2 _ | omega | (simp only [List.length_map];omega) | (simp only [List.length_map,List.length_append,List.length_cons,List.length_nil,List.length_replicate,List.length_set,List.length_drop,List.length_take,Zh] at *;omega)) ((List.map_append (f:=Qa true) (l₁:=(l.take k)) (l₂:= [x])).symm)) (mD (rd 4 Qa (l.drop k)) Y Y (VRunD.quiet (bi:= [8,4,1,2,3,0,6,5,7]) Y VWant.always Y Y Y (bc (lb Y) bn) (B.append (rows:=(((l.take k)++ [x]).map (Qa true))) (rows2:=((l.drop k).map (Qa false))) (rows3:=((((l.take k)++ [x])++(l.drop k)).map (Qa true))) (VDst.own (tv (T.os 4 4 0 ((((l.take k)++ [x]).map (Qa true)).length)) Y) Y Y) (VSrc.read (tv (rd 4 Qa (l.drop k)) Y) QJ (okeNote.okMap _ _)) nofun QJ Qh (by decide) QL Y (of_decide_eq_true (by kernel_rfl)) (by first | exact hq1 _ | exact hq2 _ | omega | (simp only [List.length_map];omega) | (simp only [List.length_map,List.length_append,List.length_cons,List.length_nil,List.length_replicate,List.length_set,List.length_drop,List.length_take,Zh] at *;omega)) ((List.map_append (f:=Qa true) (l₁:=((l.take k)++ [x])) (l₂:=(l.drop k))).symm)) ?_))))))
   refine fD (OF.assign (tv (T.os 4 5 0 (((((l.take k)++ [x])++(l.drop k)).map (Qa true)).length)) Y)) Y Y (VRunD.nil (tn (sq (sr (mO (rd 4 Qa l) Y (cO (cS (vc (tv (rd 4 Qa l) Y) vn) (ZO Y) (QI (n+0) l (by first | exact hq1 _ | exact hq2 _ | assumption | omega)) Y Y) (fO (QZ (tv (tB (decide (Qb l))) Y)) (mO (tB (!(decide (Qb l)))) Y ?_))))))))
   refine gn (Qb l) (fun fhg63_4=> ?_) fun fhg63_4=> ?_
   ·refine Q2 3 3 false 63 (ny fhg63_4) Y Y Y ?_
    refine fO (OF.pickT (VEv.tmpB Y (ny fhg63_4)) (VEv.bool true)) (nt (ct Y (sr (kO (OM.slice0 QJ QL (by kernel_rfl) Y (by rw [Qh];decide) Qh) (mO (rd 4 Qa l) Y (cO (B.append (rows:= []) (rows2:=(l.map (Qa false))) (rows3:=(l.map (Qa true))) (VDst.own (tv (T.os 4 6 0 0) Y) Y Y) (VSrc.read (tv (rd 4 Qa l) Y) QJ (okeNote.okMap _ _)) nofun QJ Qh (by decide) QL Y (of_decide_eq_true (by kernel_rfl)) (by first | exact hq1 _ | exact hq2 _ | omega | (simp only [List.length_map];omega) | (simp only [List.length_map,List.length_append,List.length_cons,List.length_nil,List.length_replicate,List.length_set,List.length_drop,List.length_take,Zh] at *;omega)) (List.nil_append _)) (aO (T.os 4 7 0 ((l.map (Qa true)).length)) Y (nt (rt (tr ?_))))))))))
    refine vfin.eq (r':=(T.sl true 4 (l.map (Qa true)))) ?_ (vfin.r (VRes.tmp (t:=(T.os 4 7 0 ((l.map (Qa true)).length))) Y VRes.nil) (Give.os Y Y (okeNote.cleanMap _)))
    refine congrArg (fun l_=>T.sl true 4 (List.map (Qa true) l_)) ?_
    first
    | (exfalso;simp only [List.length_drop] at *;omega)
    | (cases QE hx2▸hx1;exact (Qp (Qw hI' hx1 fhc1 (by rw [fhc2];decide))).symm)
    | (symm;exact Qx ‹¬Qb l›)
    | (cases QE hx2▸hx1;symm;have e:=QY hI' hx1 fhc1 fhc2;rw [Q1,List.drop_drop] at *;first | exact Qe e fhc3 | exact Qd ‹Qb l› e fhc3)
    | (have e:=Qy hI' (by omega);rw [Q1] at *;symm;first | exact Qe e fhc3 | exact Qd ‹Qb l› e fhc3)
    | (cases QE hx2▸hx1;have e:=Qz hI' hx1 fhc0 fhc1;rw [Q1] at *;symm;first | exact Qe e fhc3 | exact Qd ‹Qb l› e fhc3)
   refine gF (nz fhg63_4) Y Y (OF.move (tv (T.os 4 5 0 (((((l.take k)++ [x])++(l.drop k)).map (Qa true)).length)) Y)) (VRunO.chain (VWant.on Y Y (nz fhg63_4)) (cS (us:= [(rd 4 Qa (((l.take k)++ [x])++(l.drop k)))]) (vc (tv (T.os 4 5 0 (((((l.take k)++ [x])++(l.drop k)).map (Qa true)).length)) Y) vn) (LendL.cons (Lend.os Y Y (okeNote.fzMap _ _)) ln) (QI (n+0) (((l.take k)++ [x])++(l.drop k)) (by first | exact hq1 _ | exact hq2 _ | assumption | omega)) Y Y) (gF (nz fhg63_4) Y Y (QZ (tv (tB (decide (Qb (((l.take k)++ [x])++(l.drop k))))) Y)) (fO (OF.pickF (VEv.tmpB Y (nz fhg63_4)) (tv (tB (!(decide (Qb (((l.take k)++ [x])++(l.drop k)))))) Y)) (nt ?_))))
   refine cn (Qb (((l.take k)++ [x])++(l.drop k))) Y (fun fhc3=> ?_) fun fhc3=> ?_
   ·refine sr ?_
    refine kO (OM.slice0 QJ QL (by kernel_rfl) Y (by rw [Qh];decide) Qh) (mO (rd 4 Qa l) Y (cO (B.append (rows:= []) (rows2:=(l.map (Qa false))) (rows3:=(l.map (Qa true))) (VDst.own (tv (T.os 4 6 0 0) Y) Y Y) (VSrc.read (tv (rd 4 Qa l) Y) QJ (okeNote.okMap _ _)) nofun QJ Qh (by decide) QL Y (of_decide_eq_true (by kernel_rfl)) (by first | exact hq1 _ | exact hq2 _ | omega | (simp only [List.length_map];omega) | (simp only [List.length_map,List.length_append,List.length_cons,List.length_nil,List.length_replicate,List.length_set,List.length_drop,List.length_take,Zh] at *;omega)) (List.nil_append _)) (aO (T.os 4 7 0 ((l.map (Qa true)).length)) Y (nt (rt (tr ?_))))))
    refine vfin.eq (r':=(T.sl true 4 (l.map (Qa true)))) ?_ (vfin.r (VRes.tmp (t:=(T.os 4 7 0 ((l.map (Qa true)).length))) Y VRes.nil) (Give.os Y Y (okeNote.cleanMap _)))
    refine congrArg (fun l_=>T.sl true 4 (List.map (Qa true) l_)) ?_
    first
    | (exfalso;simp only [List.length_drop] at *;omega)
    | (cases QE hx2▸hx1;exact (Qp (Qw hI' hx1 fhc1 (by rw [fhc2];decide))).symm)
    | (symm;exact Qx ‹¬Qb l›)
    | (cases QE hx2▸hx1;symm;have e:=QY hI' hx1 fhc1 fhc2;rw [Q1,List.drop_drop] at *;first | exact Qe e fhc3 | exact Qd ‹Qb l› e fhc3)
    | (have e:=Qy hI' (by omega);rw [Q1] at *;symm;first | exact Qe e fhc3 | exact Qd ‹Qb l› e fhc3)
    | (cases QE hx2▸hx1;have e:=Qz hI' hx1 fhc0 fhc1;rw [Q1] at *;symm;first | exact Qe e fhc3 | exact Qd ‹Qb l› e fhc3)
   refine sk (tn (sr (mO (T.os 4 5 0 (((((l.take k)++ [x])++(l.drop k)).map (Qa true)).length)) Y (aO (T.os 4 5 0 (((((l.take k)++ [x])++(l.drop k)).map (Qa true)).length)) Y (nt (rt ?_))))))
   refine vfin.eq (r':=(T.sl true 4 ((((l.take k)++ [x])++(l.drop k)).map (Qa true)))) ?_ (vfin.r (VRes.tmp (t:=(T.os 4 5 0 (((((l.take k)++ [x])++(l.drop k)).map (Qa true)).length))) Y VRes.nil) (Give.os Y Y (okeNote.cleanMap _)))
   refine congrArg (fun l_=>T.sl true 4 (List.map (Qa true) l_)) ?_
   first
   | (exfalso;simp only [List.length_drop] at *;omega)
   | (cases QE hx2▸hx1;exact (Qp (Qw hI' hx1 fhc1 (by rw [fhc2];decide))).symm)
   | (symm;exact Qx ‹¬Qb l›)
   | (cases QE hx2▸hx1;symm;have e:=QY hI' hx1 fhc1 fhc2;rw [Q1,List.drop_drop] at *;first | exact Qe e fhc3 | exact Qd ‹Qb l› e fhc3)
   | (have e:=Qy hI' (by omega);rw [Q1] at *;symm;first | exact Qe e fhc3 | exact Qd ‹Qb l› e fhc3)
   | (cases QE hx2▸hx1;have e:=Qz hI' hx1 fhc0 fhc1;rw [Q1] at *;symm;first | exact Qe e fhc3 | exact Qd ‹Qb l› e fhc3)
  refine oD Y Y (dz fhg30_2) Y (oD Y Y (dz fhg30_2) Y (oD Y Y (dz fhg30_2) Y (oD Y Y (dz fhg30_2) Y (oD Y Y (dz fhg30_2) Y (oD Y Y (dz fhg30_2) Y (oD Y Y (dz fhg30_2) Y (fD (OF.pickF (VEv.tmpB Y (dz fhg30_2)) (VEv.bool false)) Y Y (VRunD.nil (tn (cf Y (sk ?_)))))))))))
  refine tn (sq (VRun.draw (B:= [[],[],[],[2,1],[1,2,3,0],[],[5],[5,6,0,3,2,1,4],[],[8,4,1,2,3,0,6,5,7],[7,5,6,0,3,2,1,4,8,9]]) (by kernel_rfl) (by kernel_rfl) Y (VRunD.make Y VWant.always Y (OM.slice0 QJ QL (by kernel_rfl) Y (by rw [Qh];decide) Qh) (mD (rd 4 Qa l) Y Y (mD (tN k) Y Y ?_)))))
  refine lD (show OL _ _ _ _ _ (T.sl false 4 ((l.take k).map (Qa false))) by rw [show (l.take k).map (Qa false)=(l.map (Qa false)).take k from List.map_take ..];exact (OL.sliceRHi (j:=k) (tv (rd 4 Qa l) Y) (tv (tN k) Y) Y (by first | exact hq1 _ | exact hq2 _ | omega | (simp only [List.length_map];omega) | (simp only [List.length_map,List.length_append,List.length_cons,List.length_nil,List.length_replicate,List.length_set,List.length_drop,List.length_take,Zh] at *;omega)) QJ Qh Q7)) Y Y (VRunD.quiet (bi:= [1,2,3,0]) Y VWant.always Y Y Y (bc (lb Y) bn) (B.append (rows:= []) (rows2:=((l.take k).map (Qa false))) (rows3:=((l.take k).map (Qa true))) (VDst.own (tv (T.os 4 1 0 0) Y) Y Y) (VSrc.read (tv (rd 4 Qa (l.take k)) Y) QJ (okeNote.okMap _ _)) nofun QJ Qh (by decide) QL Y (of_decide_eq_true (by kernel_rfl)) (by first | exact hq1 _ | exact hq2 _ | omega | (simp only [List.length_map];omega) | (simp only [List.length_map,List.length_append,List.length_cons,List.length_nil,List.length_replicate,List.length_set,List.length_drop,List.length_take,Zh] at *;omega)) (List.nil_append _)) (lD (OL.loadOn (us:=(Qa false x)) (tv (T.op 0 0) Y) Y Q6 Qh (lb Y) Y) Y Y (VRunD.make Y VWant.always Y (OM.buildSlice (l:= [(T.agg (Qa false x))]) (VEvp.cons (tv (T.agg (Qa false x)) Y) VEvp.nil) Y (by decide) (bc (nofun) bn) (bc ((bc (Y) (bc (Y) (bc (Y) (bc (Y) bn))))) bn) (bc (Y) bn) QJ QL (by kernel_rfl) Y (by rw [Qh];decide) Qh (Nat.le_of_ble_eq_true Y)) (VRunD.quiet (bi:= [5,6,0,3,2,1,4]) Y VWant.always Y Y Y (bc (lb Y) (bc (lb Y) bn)) (B.append (rows:=((l.take k).map (Qa true))) (rows2:= [[(tI x.Cell),(tS x.Letter),(tI x.Tick),(tI x.Who)]]) (rows3:=(((l.take k)++ [x]).map (Qa true))) (VDst.own (tv (T.os 4 2 0 (((l.take k).map (Qa true)).length)) Y) Y Y) (VSrc.own (tv (T.os 4 3 0 1) Y) Y Y QJ (bc (bc Y (bc Y (bc Y (bc Y bn)))) bn)) (by decide) QJ Qh (by decide) QL Y (of_decide_eq_true (by kernel_rfl)) (by first | exact hq1 _ | exact hq2 _ | omega | (simp only [List.length_map];omega) | (simp only [List.length_map,List.length_append,List.length_cons,List.length_nil,List.length_replicate,List.length_set,List.length_drop,List.length_take,Zh] at *;omega)) ((List.map_append (f:=Qa true) (l₁:=(l.take k)) (l₂:= [x])).symm)) (mD (rd 4 Qa (l.drop k)) Y Y (VRunD.quiet (bi:= [8,4,1,2,3,0,6,5,7]) Y VWant.always Y Y Y (bc (lb Y) bn) (B.append (rows:=(((l.take k)++ [x]).map (Qa true))) (rows2:=((l.drop k).map (Qa false))) (rows3:=((((l.take k)++ [x])++(l.drop k)).map (Qa true))) (VDst.own (tv (T.os 4 4 0 ((((l.take k)++ [x]).map (Qa true)).length)) Y) Y Y) (VSrc.read (tv (rd 4 Qa (l.drop k)) Y) QJ (okeNote.okMap _ _)) nofun QJ Qh (by decide) QL Y (of_decide_eq_true (by kernel_rfl)) (by first | exact hq1 _ | exact hq2 _ | omega | (simp only [List.length_map];omega) | (simp only [List.length_map,List.length_append,List.length_cons,List.length_nil,List.length_replicate,List.length_set,List.length_drop,List.length_take,Zh] at *;omega)) ((List.map_append (f:=Qa true) (l₁:=((l.take k)++ [x])) (l₂:=(l.drop k))).symm)) ?_))))))
  refine fD (OF.assign (tv (T.os 4 5 0 (((((l.take k)++ [x])++(l.drop k)).map (Qa true)).length)) Y)) Y Y (VRunD.nil (tn (sq (sr (mO (rd 4 Qa l) Y (cO (cS (vc (tv (rd 4 Qa l) Y) vn) (ZO Y) (QI (n+0) l (by first | exact hq1 _ | exact hq2 _ | assumption | omega)) Y Y) (fO (QZ (tv (tB (decide (Qb l))) Y)) (mO (tB (!(decide (Qb l)))) Y ?_))))))))
  refine gn (Qb l) (fun fhg63_5=> ?_) fun fhg63_5=> ?_
  ·refine Q2 3 3 false 63 (ny fhg63_5) Y Y Y ?_
   refine fO (OF.pickT (VEv.tmpB Y (ny fhg63_5)) (VEv.bool true)) (nt (ct Y (sr (kO (OM.slice0 QJ QL (by kernel_rfl) Y (by rw [Qh];decide) Qh) (mO (rd 4 Qa l) Y (cO (B.append (rows:= []) (rows2:=(l.map (Qa false))) (rows3:=(l.map (Qa true))) (VDst.own (tv (T.os 4 6 0 0) Y) Y Y) (VSrc.read (tv (rd 4 Qa l) Y) QJ (okeNote.okMap _ _)) nofun QJ Qh (by decide) QL Y (of_decide_eq_true (by kernel_rfl)) (by first | exact hq1 _ | exact hq2 _ | omega | (simp only [List.length_map];omega) | (simp only [List.length_map,List.length_append,List.length_cons,List.length_nil,List.length_replicate,List.length_set,List.length_drop,List.length_take,Zh] at *;omega)) (List.nil_append _)) (aO (T.os 4 7 0 ((l.map (Qa true)).length)) Y (nt (rt (tr ?_))))))))))
   refine vfin.eq (r':=(T.sl true 4 (l.map (Qa true)))) ?_ (vfin.r (VRes.tmp (t:=(T.os 4 7 0 ((l.map (Qa true)).length))) Y VRes.nil) (Give.os Y Y (okeNote.cleanMap _)))
   refine congrArg (fun l_=>T.sl true 4 (List.map (Qa true) l_)) ?_
   first
   | (exfalso;simp only [List.length_drop] at *;omega)
   | (cases QE hx2▸hx1;exact (Qp (Qw hI' hx1 fhc1 (by rw [fhc2];decide))).symm)
   | (symm;exact Qx ‹¬Qb l›)
   | (cases QE hx2▸hx1;symm;have e:=QY hI' hx1 fhc1 fhc2;rw [Q1,List.drop_drop] at *;first | exact Qe e fhc3 | exact Qd ‹Qb l› e fhc3)
   | (have e:=Qy hI' (by omega);rw [Q1] at *;symm;first | exact Qe e fhc3 | exact Qd ‹Qb l› e fhc3)
   | (cases QE hx2▸hx1;have e:=Qz hI' hx1 fhc0 fhc1;rw [Q1] at *;symm;first | exact Qe e fhc3 | exact Qd ‹Qb l› e fhc3)
  refine gF (nz fhg63_5) Y Y (OF.move (tv (T.os 4 5 0 (((((l.take k)++ [x])++(l.drop k)).map (Qa true)).length)) Y)) (VRunO.chain (VWant.on Y Y (nz fhg63_5)) (cS (us:= [(rd 4 Qa (((l.take k)++ [x])++(l.drop k)))]) (vc (tv (T.os 4 5 0 (((((l.take k)++ [x])++(l.drop k)).map (Qa true)).length)) Y) vn) (LendL.cons (Lend.os Y Y (okeNote.fzMap _ _)) ln) (QI (n+0) (((l.take k)++ [x])++(l.drop k)) (by first | exact hq1 _ | exact hq2 _ | assumption | omega)) Y Y) (gF (nz fhg63_5) Y Y (QZ (tv (tB (decide (Qb (((l.take k)++ [x])++(l.drop k))))) Y)) (fO (OF.pickF (VEv.tmpB Y (nz fhg63_5)) (tv (tB (!(decide (Qb (((l.take k)++ [x])++(l.drop k)))))) Y)) (nt ?_))))
  refine cn (Qb (((l.take k)++ [x])++(l.drop k))) Y (fun fhc3=> ?_) fun fhc3=> ?_
  ·refine sr ?_
   refine kO (OM.slice0 QJ QL (by kernel_rfl) Y (by rw [Qh];decide) Qh) (mO (rd 4 Qa l) Y (cO (B.append (rows:= []) (rows2:=(l.map (Qa false))) (rows3:=(l.map (Qa true))) (VDst.own (tv (T.os 4 6 0 0) Y) Y Y) (VSrc.read (tv (rd 4 Qa l) Y) QJ (okeNote.okMap _ _)) nofun QJ Qh (by decide) QL Y (of_decide_eq_true (by kernel_rfl)) (by first | exact hq1 _ | exact hq2 _ | omega | (simp only [List.length_map];omega) | (simp only [List.length_map,List.length_append,List.length_cons,List.length_nil,List.length_replicate,List.length_set,List.length_drop,List.length_take,Zh] at *;omega)) (List.nil_append _)) (aO (T.os 4 7 0 ((l.map (Qa true)).length)) Y (nt (rt (tr ?_))))))
   refine vfin.eq (r':=(T.sl true 4 (l.map (Qa true)))) ?_ (vfin.r (VRes.tmp (t:=(T.os 4 7 0 ((l.map (Qa true)).length))) Y VRes.nil) (Give.os Y Y (okeNote.cleanMap _)))
   refine congrArg (fun l_=>T.sl true 4 (List.map (Qa true) l_)) ?_
   first
   | (exfalso;simp only [List.length_drop] at *;omega)
   | (cases QE hx2▸hx1;exact (Qp (Qw hI' hx1 fhc1 (by rw [fhc2];decide))).symm)
   | (symm;exact Qx ‹¬Qb l›)
   | (cases QE hx2▸hx1;symm;have e:=QY hI' hx1 fhc1 fhc2;rw [Q1,List.drop_drop] at *;first | exact Qe e fhc3 | exact Qd ‹Qb l› e fhc3)
   | (have e:=Qy hI' (by omega);rw [Q1] at *;symm;first | exact Qe e fhc3 | exact Qd ‹Qb l› e fhc3)
   | (cases QE hx2▸hx1;have e:=Qz hI' hx1 fhc0 fhc1;rw [Q1] at *;symm;first | exact Qe e fhc3 | exact Qd ‹Qb l› e fhc3)
  refine sk (tn (sr (mO (T.os 4 5 0 (((((l.take k)++ [x])++(l.drop k)).map (Qa true)).length)) Y (aO (T.os 4 5 0 (((((l.take k)++ [x])++(l.drop k)).map (Qa true)).length)) Y (nt (rt ?_))))))
  refine vfin.eq (r':=(T.sl true 4 ((((l.take k)++ [x])++(l.drop k)).map (Qa true)))) ?_ (vfin.r (VRes.tmp (t:=(T.os 4 5 0 (((((l.take k)++ [x])++(l.drop k)).map (Qa true)).length))) Y VRes.nil) (Give.os Y Y (okeNote.cleanMap _)))
  refine congrArg (fun l_=>T.sl true 4 (List.map (Qa true) l_)) ?_
  first
  | (exfalso;simp only [List.length_drop] at *;omega)
  | (cases QE hx2▸hx1;exact (Qp (Qw hI' hx1 fhc1 (by rw [fhc2];decide))).symm)
  | (symm;exact Qx ‹¬Qb l›)
  | (cases QE hx2▸hx1;symm;have e:=QY hI' hx1 fhc1 fhc2;rw [Q1,List.drop_drop] at *;first | exact Qe e fhc3 | exact Qd ‹Qb l› e fhc3)
  | (have e:=Qy hI' (by omega);rw [Q1] at *;symm;first | exact Qe e fhc3 | exact Qd ‹Qb l› e fhc3)
  | (cases QE hx2▸hx1;have e:=Qz hI' hx1 fhc0 fhc1;rw [Q1] at *;symm;first | exact Qe e fhc3 | exact Qd ‹Qb l› e fhc3)
 refine oD Y Y (dz fhg12_1) Y (oD Y Y (dz fhg12_1) Y (oD Y Y (dz fhg12_1) Y (oD Y Y (dz fhg12_1) Y (oD Y Y (dz fhg12_1) Y (oD Y Y (dz fhg12_1) Y (oD Y Y (dz fhg12_1) Y (oD Y Y (dz fhg12_1) Y (fD (OF.pickF (VEv.tmpB Y (dz fhg12_1)) (VEv.bool false)) Y Y (VRunD.nil (tn (cf Y ?_)))))))))))
 refine VRun.exit (vthn.e (vthn.e (vinB.e (tn (sr (mO (rd 4 Qa l) Y (mO (tN k) Y ?_)))))))
 refine lO (show OL _ _ _ _ _ (T.sl false 4 ((l.drop k).map (Qa false))) by rw [show (l.drop k).map (Qa false)=(l.map (Qa false)).drop k from List.map_drop ..];exact (OL.sliceRLo (i:=k) (tv (rd 4 Qa l) Y) (tv (tN k) Y) Y (by first | exact hq1 _ | exact hq2 _ | omega | (simp only [List.length_map];omega) | (simp only [List.length_map,List.length_append,List.length_cons,List.length_nil,List.length_replicate,List.length_set,List.length_drop,List.length_take,Zh] at *;omega)) QJ Qh Q7)) (aO (rd 4 Qa (l.drop k)) Y (nt (sq (sq (VRun.draw (B:= [[],[0],[0,1],[1,0,2],[2,0,1,3],[3,1,0,2,4],[4,2,0,1,3,5],[5,3,1,0,2,4,6],[2,0,1,3],[3,1,0,2,8],[8,9,6,4,2,0,1,3,5,7],[7,5,4,6,9,8,10,2,0,1,3]]) (by kernel_rfl) (by kernel_rfl) Y (mD (rd 4 Qa (l.drop k)) Y Y (lD (B.lenR (m:=(l.drop k).length) (tv (rd 4 Qa (l.drop k)) Y) QJ (List.length_map ..)) Y Y (fD (B.gtr (c:=(decide (0<(l.drop k).length))) (tv (tN ((l.drop k).length)) Y) (VEv.int .i64 0) (by first | exact hq1 _ | exact hq2 _ | (exact Z4 (by omega)))) Y Y (mD (tB (decide (0<(l.drop k).length))) Y Y ?_)))))))))
 refine gw (0<(l.drop k).length) (fun fhg30_6=> ?_) fun fhg30_6=> ?_
 ·refine VRunD.free Y (VWant.on Y Y (dy fhg30_6)) Y (OF.move (tv (rd 4 Qa (l.drop k)) Y)) ?_
  obtain ⟨x1,hx1⟩:∃x,(l.drop k)[0]? =some x:=⟨_,List.getElem?_eq_getElem (by first | exact hq1 _ | exact hq2 _ | omega | (simp only [List.length_map];omega) | (simp only [List.length_map,List.length_append,List.length_cons,List.length_nil,List.length_replicate,List.length_set,List.length_drop,List.length_take,Zh] at *;omega))⟩
  refine VRunD.free Y (VWant.on Y Y (dy fhg30_6)) Y (OF.indexAddrR (row:=(Qa false x1)) (i:=0) (tv (rd 4 Qa (l.drop k)) Y) (VEv.int .i64 0) Y (QR _ hx1) QJ Qh Q7) (VRunD.free Y (VWant.on Y Y (dy fhg30_6)) Y (B.fieldAddrR (us:=(Qa false x1)) (tv (T.rp (Qa false x1)) Y) (lb Y) Ze Y) (VRunD.look Y (VWant.on Y Y (dy fhg30_6)) Y (OL.loadR1 (t:=(tI x1.Cell)) (tv (T.rp (Qa false x1)) Y) Y Zo) (VRunD.free Y (VWant.on Y Y (dy fhg30_6)) Y (OF.fieldAddrO (tv (T.op 0 0) Y) Ze) (VRunD.look Y (VWant.on Y Y (dy fhg30_6)) Y (OL.loadO1 (t:=(tI x.Cell)) (tv (T.op 0 0) Y) Y Y Zo) (VRunD.free Y (VWant.on Y Y (dy fhg30_6)) Y (xeq (tv (tI x1.Cell) Y) (tv (tI x.Cell) Y)) (fD (OF.pickT (VEv.tmpB Y (dy fhg30_6)) (tv (tB (decide (x1.Cell=x.Cell))) Y)) Y Y (VRunD.nil (tn ?_))))))))
  refine cd (x1.Cell=x.Cell) Y (fun fhc1=> ?_) fun fhc1=> ?_
  ·refine sq ?_
   refine sq (VRun.draw (B:= [[],[],[1],[1,2],[2,1,3,0],[0,3,1,2,4]]) (by kernel_rfl) (by kernel_rfl) Y (lD (OL.loadOn (us:=(Qa false x)) (tv (T.op 0 0) Y) Y Q6 Qh (lb Y) Y) Y Y (mD (rd 4 Qa (l.drop k)) Y Y (fD (OF.indexAddrR (row:=(Qa false x1)) (i:=0) (tv (rd 4 Qa (l.drop k)) Y) (VEv.int .i64 0) Y (QR _ hx1) QJ Qh Q7) Y Y (lD (OL.loadRn (us:=(Qa false x1)) (tv (T.rp (Qa false x1)) Y) Q6 Qh (lb Y) Y) Y Y (VRunD.quiet (bi:= [2,1,3,0]) Y VWant.always Y Y Y bn (cS (vc (tv (T.agg (Qa false x)) Y) (vc (tv (T.agg (Qa false x1)) Y) vn)) (LendL.cons (lg okeNote) (LendL.cons (lg okeNote) ln)) (JI (n+2) x x1) Y Y) (fD (QZ (tv (tB (Qf x x1)) Y)) Y Y (VRunD.nil (tn ?_)))))))))
   refine VRun.cond (tv (tB (!(Qf x x1))) Y) (fun hc2=> ?_) (fun hc2=> ?_)
   ·have fhc2:(Qf x x1)=false:=Qgd hc2
    refine sr (kO (OM.slice0 QJ QL (by kernel_rfl) Y (by rw [Qh];decide) Qh) (mO (rd 4 Qa l) Y (cO (B.append (rows:= []) (rows2:=(l.map (Qa false))) (rows3:=(l.map (Qa true))) (VDst.own (tv (T.os 4 1 0 0) Y) Y Y) (VSrc.read (tv (rd 4 Qa l) Y) QJ (okeNote.okMap _ _)) nofun QJ Qh (by decide) QL Y (of_decide_eq_true (by kernel_rfl)) (by first | exact hq1 _ | exact hq2 _ | omega | (simp only [List.length_map];omega) | (simp only [List.length_map,List.length_append,List.length_cons,List.length_nil,List.length_replicate,List.length_set,List.length_drop,List.length_take,Zh] at *;omega)) (List.nil_append _)) (aO (T.os 4 2 0 ((l.map (Qa true)).length)) Y (nt (rt (tr (tr ?_))))))))
    refine vfin.eq (r':=(T.sl true 4 (l.map (Qa true)))) ?_ (vfin.r (VRes.tmp (t:=(T.os 4 2 0 ((l.map (Qa true)).length))) Y VRes.nil) (Give.os Y Y (okeNote.cleanMap _)))
    refine congrArg (fun l_=>T.sl true 4 (List.map (Qa true) l_)) ?_
    first
    | (exfalso;simp only [List.length_drop] at *;omega)
    | (cases QE hx2▸hx1;exact (Qp (Qw hI' hx1 fhc1 (by rw [fhc2];decide))).symm)
    | (symm;exact Qx ‹¬Qb l›)
    | (cases QE hx2▸hx1;symm;have e:=QY hI' hx1 fhc1 fhc2;rw [Q1,List.drop_drop] at *;first | exact Qe e fhc3 | exact Qd ‹Qb l› e fhc3)
    | (have e:=Qy hI' (by omega);rw [Q1] at *;symm;first | exact Qe e fhc3 | exact Qd ‹Qb l› e fhc3)
    | (cases QE hx2▸hx1;have e:=Qz hI' hx1 fhc0 fhc1;rw [Q1] at *;symm;first | exact Qe e fhc3 | exact Qd ‹Qb l› e fhc3)
   have fhc2:(Qf x x1)=true:=Qgb hc2
   refine sk (tn (VRun.region (mO (rd 4 Qa (l.drop k)) Y ?_)))
   refine lO (show OL _ _ _ _ _ (T.sl false 4 (((l.drop k).drop 1).map (Qa false))) by rw [show ((l.drop k).drop 1).map (Qa false)=((l.drop k).map (Qa false)).drop 1 from List.map_drop ..];exact (OL.sliceRLo (i:=1) (tv (rd 4 Qa (l.drop k)) Y) (VEv.int .i64 1) Y (by first | exact hq1 _ | exact hq2 _ | omega | (simp only [List.length_map];omega) | (simp only [List.length_map,List.length_append,List.length_cons,List.length_nil,List.length_replicate,List.length_set,List.length_drop,List.length_take,Zh] at *;omega)) QJ Qh Q7)) (aO (rd 4 Qa ((l.drop k).drop 1)) Y (VRunO.nil (tn (sq (VRun.draw (B:= [[],[],[],[2,1],[1,2,3,0],[],[5],[5,6,0,3,2,1,4],[],[8,4,1,2,3,0,6,5,7],[7,5,6,0,3,2,1,4,8,9]]) (by kernel_rfl) (by kernel_rfl) Y (VRunD.make Y VWant.always Y (OM.slice0 QJ QL (by kernel_rfl) Y (by rw [Qh];decide) Qh) (mD (rd 4 Qa l) Y Y (mD (tN k) Y Y ?_))))))))
   refine lD (show OL _ _ _ _ _ (T.sl false 4 ((l.take k).map (Qa false))) by rw [show (l.take k).map (Qa false)=(l.map (Qa false)).take k from List.map_take ..];exact (OL.sliceRHi (j:=k) (tv (rd 4 Qa l) Y) (tv (tN k) Y) Y (by first | exact hq1 _ | exact hq2 _ | omega | (simp only [List.length_map];omega) | (simp only [List.length_map,List.length_append,List.length_cons,List.length_nil,List.length_replicate,List.length_set,List.length_drop,List.length_take,Zh] at *;omega)) QJ Qh Q7)) Y Y (VRunD.quiet (bi:= [1,2,3,0]) Y VWant.always Y Y Y (bc (lb Y) bn) (B.append (rows:= []) (rows2:=((l.take k).map (Qa false))) (rows3:=((l.take k).map (Qa true))) (VDst.own (tv (T.os 4 1 0 0) Y) Y Y) (VSrc.read (tv (rd 4 Qa (l.take k)) Y) QJ (okeNote.okMap _ _)) nofun QJ Qh (by decide) QL Y (of_decide_eq_true (by kernel_rfl)) (by first | exact hq1 _ | exact hq2 _ | omega | (simp only [List.length_map];omega) | (simp only [List.length_map,List.length_append,List.length_cons,List.length_nil,List.length_replicate,List.length_set,List.length_drop,List.length_take,Zh] at *;omega)) (List.nil_append _)) (lD (OL.loadOn (us:=(Qa false x)) (tv (T.op 0 0) Y) Y Q6 Qh (lb Y) Y) Y Y (VRunD.make Y VWant.always Y (OM.buildSlice (l:= [(T.agg (Qa false x))]) (VEvp.cons (tv (T.agg (Qa false x)) Y) VEvp.nil) Y (by decide) (bc (nofun) bn) (bc ((bc (Y) (bc (Y) (bc (Y) (bc (Y) bn))))) bn) (bc (Y) bn) QJ QL (by kernel_rfl) Y (by rw [Qh];decide) Qh (Nat.le_of_ble_eq_true Y)) (VRunD.quiet (bi:= [5,6,0,3,2,1,4]) Y VWant.always Y Y Y (bc (lb Y) (bc (lb Y) bn)) (B.append (rows:=((l.take k).map (Qa true))) (rows2:= [[(tI x.Cell),(tS x.Letter),(tI x.Tick),(tI x.Who)]]) (rows3:=(((l.take k)++ [x]).map (Qa true))) (VDst.own (tv (T.os 4 2 0 (((l.take k).map (Qa true)).length)) Y) Y Y) (VSrc.own (tv (T.os 4 3 0 1) Y) Y Y QJ (bc (bc Y (bc Y (bc Y (bc Y bn)))) bn)) (by decide) QJ Qh (by decide) QL Y (of_decide_eq_true (by kernel_rfl)) (by first | exact hq1 _ | exact hq2 _ | omega | (simp only [List.length_map];omega) | (simp only [List.length_map,List.length_append,List.length_cons,List.length_nil,List.length_replicate,List.length_set,List.length_drop,List.length_take,Zh] at *;omega)) ((List.map_append (f:=Qa true) (l₁:=(l.take k)) (l₂:= [x])).symm)) (mD (rd 4 Qa ((l.drop k).drop 1)) Y Y (VRunD.quiet (bi:= [8,4,1,2,3,0,6,5,7]) Y VWant.always Y Y Y (bc (lb Y) bn) (B.append (rows:=(((l.take k)++ [x]).map (Qa true))) (rows2:=(((l.drop k).drop 1).map (Qa false))) (rows3:=((((l.take k)++ [x])++((l.drop k).drop 1)).map (Qa true))) (VDst.own (tv (T.os 4 4 0 ((((l.take k)++ [x]).map (Qa true)).length)) Y) Y Y) (VSrc.read (tv (rd 4 Qa ((l.drop k).drop 1)) Y) QJ (okeNote.okMap _ _)) nofun QJ Qh (by decide) QL Y (of_decide_eq_true (by kernel_rfl)) (by first | exact hq1 _ | exact hq2 _ | omega | (simp only [List.length_map];omega) | (simp only [List.length_map,List.length_append,List.length_cons,List.length_nil,List.length_replicate,List.length_set,List.length_drop,List.length_take,Zh] at *;omega)) ((List.map_append (f:=Qa true) (l₁:=((l.take k)++ [x])) (l₂:=((l.drop k).drop 1))).symm)) ?_))))))
   refine fD (OF.assign (tv (T.os 4 5 0 (((((l.take k)++ [x])++((l.drop k).drop 1)).map (Qa true)).length)) Y)) Y Y (VRunD.nil (tn (sq (sr (mO (rd 4 Qa l) Y (cO (cS (vc (tv (rd 4 Qa l) Y) vn) (ZO Y) (QI (n+0) l (by first | exact hq1 _ | exact hq2 _ | assumption | omega)) Y Y) (fO (QZ (tv (tB (decide (Qb l))) Y)) (mO (tB (!(decide (Qb l)))) Y ?_))))))))
   refine gn (Qb l) (fun fhg63_7=> ?_) fun fhg63_7=> ?_
   ·refine Q2 3 3 false 63 (ny fhg63_7) Y Y Y ?_
    refine fO (OF.pickT (VEv.tmpB Y (ny fhg63_7)) (VEv.bool true)) (nt (ct Y (sr (kO (OM.slice0 QJ QL (by kernel_rfl) Y (by rw [Qh];decide) Qh) (mO (rd 4 Qa l) Y (cO (B.append (rows:= []) (rows2:=(l.map (Qa false))) (rows3:=(l.map (Qa true))) (VDst.own (tv (T.os 4 6 0 0) Y) Y Y) (VSrc.read (tv (rd 4 Qa l) Y) QJ (okeNote.okMap _ _)) nofun QJ Qh (by decide) QL Y (of_decide_eq_true (by kernel_rfl)) (by first | exact hq1 _ | exact hq2 _ | omega | (simp only [List.length_map];omega) | (simp only [List.length_map,List.length_append,List.length_cons,List.length_nil,List.length_replicate,List.length_set,List.length_drop,List.length_take,Zh] at *;omega)) (List.nil_append _)) (aO (T.os 4 7 0 ((l.map (Qa true)).length)) Y (nt (rt (tr ?_))))))))))
    refine vfin.eq (r':=(T.sl true 4 (l.map (Qa true)))) ?_ (vfin.r (VRes.tmp (t:=(T.os 4 7 0 ((l.map (Qa true)).length))) Y VRes.nil) (Give.os Y Y (okeNote.cleanMap _)))
    refine congrArg (fun l_=>T.sl true 4 (List.map (Qa true) l_)) ?_
    first
    | (exfalso;simp only [List.length_drop] at *;omega)
    | (cases QE hx2▸hx1;exact (Qp (Qw hI' hx1 fhc1 (by rw [fhc2];decide))).symm)
    | (symm;exact Qx ‹¬Qb l›)
    | (cases QE hx2▸hx1;symm;have e:=QY hI' hx1 fhc1 fhc2;rw [Q1,List.drop_drop] at *;first | exact Qe e fhc3 | exact Qd ‹Qb l› e fhc3)
    | (have e:=Qy hI' (by omega);rw [Q1] at *;symm;first | exact Qe e fhc3 | exact Qd ‹Qb l› e fhc3)
    | (cases QE hx2▸hx1;have e:=Qz hI' hx1 fhc0 fhc1;rw [Q1] at *;symm;first | exact Qe e fhc3 | exact Qd ‹Qb l› e fhc3)
   refine gF (nz fhg63_7) Y Y (OF.move (tv (T.os 4 5 0 (((((l.take k)++ [x])++((l.drop k).drop 1)).map (Qa true)).length)) Y)) (VRunO.chain (VWant.on Y Y (nz fhg63_7)) (cS (us:= [(rd 4 Qa (((l.take k)++ [x])++((l.drop k).drop 1)))]) (vc (tv (T.os 4 5 0 (((((l.take k)++ [x])++((l.drop k).drop 1)).map (Qa true)).length)) Y) vn) (LendL.cons (Lend.os Y Y (okeNote.fzMap _ _)) ln) (QI (n+0) (((l.take k)++ [x])++((l.drop k).drop 1)) (by first | exact hq1 _ | exact hq2 _ | assumption | omega)) Y Y) (gF (nz fhg63_7) Y Y (QZ (tv (tB (decide (Qb (((l.take k)++ [x])++((l.drop k).drop 1))))) Y)) (fO (OF.pickF (VEv.tmpB Y (nz fhg63_7)) (tv (tB (!(decide (Qb (((l.take k)++ [x])++((l.drop k).drop 1)))))) Y)) (nt ?_))))
   refine cn (Qb (((l.take k)++ [x])++((l.drop k).drop 1))) Y (fun fhc3=> ?_) fun fhc3=> ?_
   ·refine sr ?_
    refine kO (OM.slice0 QJ QL (by kernel_rfl) Y (by rw [Qh];decide) Qh) (mO (rd 4 Qa l) Y (cO (B.append (rows:= []) (rows2:=(l.map (Qa false))) (rows3:=(l.map (Qa true))) (VDst.own (tv (T.os 4 6 0 0) Y) Y Y) (VSrc.read (tv (rd 4 Qa l) Y) QJ (okeNote.okMap _ _)) nofun QJ Qh (by decide) QL Y (of_decide_eq_true (by kernel_rfl)) (by first | exact hq1 _ | exact hq2 _ | omega | (simp only [List.length_map];omega) | (simp only [List.length_map,List.length_append,List.length_cons,List.length_nil,List.length_replicate,List.length_set,List.length_drop,List.length_take,Zh] at *;omega)) (List.nil_append _)) (aO (T.os 4 7 0 ((l.map (Qa true)).length)) Y (nt (rt (tr ?_))))))
    refine vfin.eq (r':=(T.sl true 4 (l.map (Qa true)))) ?_ (vfin.r (VRes.tmp (t:=(T.os 4 7 0 ((l.map (Qa true)).length))) Y VRes.nil) (Give.os Y Y (okeNote.cleanMap _)))
    refine congrArg (fun l_=>T.sl true 4 (List.map (Qa true) l_)) ?_
    first
    | (exfalso;simp only [List.length_drop] at *;omega)
    | (cases QE hx2▸hx1;exact (Qp (Qw hI' hx1 fhc1 (by rw [fhc2];decide))).symm)
    | (symm;exact Qx ‹¬Qb l›)
    | (cases QE hx2▸hx1;symm;have e:=QY hI' hx1 fhc1 fhc2;rw [Q1,List.drop_drop] at *;first | exact Qe e fhc3 | exact Qd ‹Qb l› e fhc3)
    | (have e:=Qy hI' (by omega);rw [Q1] at *;symm;first | exact Qe e fhc3 | exact Qd ‹Qb l› e fhc3)
    | (cases QE hx2▸hx1;have e:=Qz hI' hx1 fhc0 fhc1;rw [Q1] at *;symm;first | exact Qe e fhc3 | exact Qd ‹Qb l› e fhc3)
   refine sk (tn (sr (mO (T.os 4 5 0 (((((l.take k)++ [x])++((l.drop k).drop 1)).map (Qa true)).length)) Y (aO (T.os 4 5 0 (((((l.take k)++ [x])++((l.drop k).drop 1)).map (Qa true)).length)) Y (nt (rt ?_))))))
   refine vfin.eq (r':=(T.sl true 4 ((((l.take k)++ [x])++((l.drop k).drop 1)).map (Qa true)))) ?_ (vfin.r (VRes.tmp (t:=(T.os 4 5 0 (((((l.take k)++ [x])++((l.drop k).drop 1)).map (Qa true)).length))) Y VRes.nil) (Give.os Y Y (okeNote.cleanMap _)))
   refine congrArg (fun l_=>T.sl true 4 (List.map (Qa true) l_)) ?_
   first
   | (exfalso;simp only [List.length_drop] at *;omega)
   | (cases QE hx2▸hx1;exact (Qp (Qw hI' hx1 fhc1 (by rw [fhc2];decide))).symm)
   | (symm;exact Qx ‹¬Qb l›)
   | (cases QE hx2▸hx1;symm;have e:=QY hI' hx1 fhc1 fhc2;rw [Q1,List.drop_drop] at *;first | exact Qe e fhc3 | exact Qd ‹Qb l› e fhc3)
   | (have e:=Qy hI' (by omega);rw [Q1] at *;symm;first | exact Qe e fhc3 | exact Qd ‹Qb l› e fhc3)
   | (cases QE hx2▸hx1;have e:=Qz hI' hx1 fhc0 fhc1;rw [Q1] at *;symm;first | exact Qe e fhc3 | exact Qd ‹Qb l› e fhc3)
  refine sk (tn (sq (VRun.draw (B:= [[],[],[],[2,1],[1,2,3,0],[],[5],[5,6,0,3,2,1,4],[],[8,4,1,2,3,0,6,5,7],[7,5,6,0,3,2,1,4,8,9]]) (by kernel_rfl) (by kernel_rfl) Y (VRunD.make Y VWant.always Y (OM.slice0 QJ QL (by kernel_rfl) Y (by rw [Qh];decide) Qh) (mD (rd 4 Qa l) Y Y (mD (tN k) Y Y ?_))))))
  refine lD (show OL _ _ _ _ _ (T.sl false 4 ((l.take k).map (Qa false))) by rw [show (l.take k).map (Qa false)=(l.map (Qa false)).take k from List.map_take ..];exact (OL.sliceRHi (j:=k) (tv (rd 4 Qa l) Y) (tv (tN k) Y) Y (by first | exact hq1 _ | exact hq2 _ | omega | (simp only [List.length_map];omega) | (simp only [List.length_map,List.length_append,List.length_cons,List.length_nil,List.length_replicate,List.length_set,List.length_drop,List.length_take,Zh] at *;omega)) QJ Qh Q7)) Y Y (VRunD.quiet (bi:= [1,2,3,0]) Y VWant.always Y Y Y (bc (lb Y) bn) (B.append (rows:= []) (rows2:=((l.take k).map (Qa false))) (rows3:=((l.take k).map (Qa true))) (VDst.own (tv (T.os 4 1 0 0) Y) Y Y) (VSrc.read (tv (rd 4 Qa (l.take k)) Y) QJ (okeNote.okMap _ _)) nofun QJ Qh (by decide) QL Y (of_decide_eq_true (by kernel_rfl)) (by first | exact hq1 _ | exact hq2 _ | omega | (simp only [List.length_map];omega) | (simp only [List.length_map,List.length_append,List.length_cons,List.length_nil,List.length_replicate,List.length_set,List.length_drop,List.length_take,Zh] at *;omega)) (List.nil_append _)) (lD (OL.loadOn (us:=(Qa false x)) (tv (T.op 0 0) Y) Y Q6 Qh (lb Y) Y) Y Y (VRunD.make Y VWant.always Y (OM.buildSlice (l:= [(T.agg (Qa false x))]) (VEvp.cons (tv (T.agg (Qa false x)) Y) VEvp.nil) Y (by decide) (bc (nofun) bn) (bc ((bc (Y) (bc (Y) (bc (Y) (bc (Y) bn))))) bn) (bc (Y) bn) QJ QL (by kernel_rfl) Y (by rw [Qh];decide) Qh (Nat.le_of_ble_eq_true Y)) (VRunD.quiet (bi:= [5,6,0,3,2,1,4]) Y VWant.always Y Y Y (bc (lb Y) (bc (lb Y) bn)) (B.append (rows:=((l.take k).map (Qa true))) (rows2:= [[(tI x.Cell),(tS x.Letter),(tI x.Tick),(tI x.Who)]]) (rows3:=(((l.take k)++ [x]).map (Qa true))) (VDst.own (tv (T.os 4 2 0 (((l.take k).map (Qa true)).length)) Y) Y Y) (VSrc.own (tv (T.os 4 3 0 1) Y) Y Y QJ (bc (bc Y (bc Y (bc Y (bc Y bn)))) bn)) (by decide) QJ Qh (by decide) QL Y (of_decide_eq_true (by kernel_rfl)) (by first | exact hq1 _ | exact hq2 _ | omega | (simp only [List.length_map];omega) | (simp only [List.length_map,List.length_append,List.length_cons,List.length_nil,List.length_replicate,List.length_set,List.length_drop,List.length_take,Zh] at *;omega)) ((List.map_append (f:=Qa true) (l₁:=(l.take k)) (l₂:= [x])).symm)) (mD (rd 4 Qa (l.drop k)) Y Y (VRunD.quiet (bi:= [8,4,1,2,3,0,6,5,7]) Y VWant.always Y Y Y (bc (lb Y) bn) (B.append (rows:=(((l.take k)++ [x]).map (Qa true))) (rows2:=((l.drop k).map (Qa false))) (rows3:=((((l.take k)++ [x])++(l.drop k)).map (Qa true))) (VDst.own (tv (T.os 4 4 0 ((((l.take k)++ [x]).map (Qa true)).length)) Y) Y Y) (VSrc.read (tv (rd 4 Qa (l.drop k)) Y) QJ (okeNote.okMap _ _)) nofun QJ Qh (by decide) QL Y (of_decide_eq_true (by kernel_rfl)) (by first | exact hq1 _ | exact hq2 _ | omega | (simp only [List.length_map];omega) | (simp only [List.length_map,List.length_append,List.length_cons,List.length_nil,List.length_replicate,List.length_set,List.length_drop,List.length_take,Zh] at *;omega)) ((List.map_append (f:=Qa true) (l₁:=((l.take k)++ [x])) (l₂:=(l.drop k))).symm)) ?_))))))
  refine fD (OF.assign (tv (T.os 4 5 0 (((((l.take k)++ [x])++(l.drop k)).map (Qa true)).length)) Y)) Y Y (VRunD.nil (tn (sq (sr (mO (rd 4 Qa l) Y (cO (cS (vc (tv (rd 4 Qa l) Y) vn) (ZO Y) (QI (n+0) l (by first | exact hq1 _ | exact hq2 _ | assumption | omega)) Y Y) (fO (QZ (tv (tB (decide (Qb l))) Y)) (mO (tB (!(decide (Qb l)))) Y ?_))))))))
  refine gn (Qb l) (fun fhg63_8=> ?_) fun fhg63_8=> ?_
  ·refine Q2 3 3 false 63 (ny fhg63_8) Y Y Y ?_
   refine fO (OF.pickT (VEv.tmpB Y (ny fhg63_8)) (VEv.bool true)) (nt (ct Y (sr (kO (OM.slice0 QJ QL (by kernel_rfl) Y (by rw [Qh];decide) Qh) (mO (rd 4 Qa l) Y (cO (B.append (rows:= []) (rows2:=(l.map (Qa false))) (rows3:=(l.map (Qa true))) (VDst.own (tv (T.os 4 6 0 0) Y) Y Y) (VSrc.read (tv (rd 4 Qa l) Y) QJ (okeNote.okMap _ _)) nofun QJ Qh (by decide) QL Y (of_decide_eq_true (by kernel_rfl)) (by first | exact hq1 _ | exact hq2 _ | omega | (simp only [List.length_map];omega) | (simp only [List.length_map,List.length_append,List.length_cons,List.length_nil,List.length_replicate,List.length_set,List.length_drop,List.length_take,Zh] at *;omega)) (List.nil_append _)) (aO (T.os 4 7 0 ((l.map (Qa true)).length)) Y (nt (rt (tr ?_))))))))))
   refine vfin.eq (r':=(T.sl true 4 (l.map (Qa true)))) ?_ (vfin.r (VRes.tmp (t:=(T.os 4 7 0 ((l.map (Qa true)).length))) Y VRes.nil) (Give.os Y Y (okeNote.cleanMap _)))
   refine congrArg (fun l_=>T.sl true 4 (List.map (Qa true) l_)) ?_
   first
   | (exfalso;simp only [List.length_drop] at *;omega)
   | (cases QE hx2▸hx1;exact (Qp (Qw hI' hx1 fhc1 (by rw [fhc2];decide))).symm)
   | (symm;exact Qx ‹¬Qb l›)
   | (cases QE hx2▸hx1;symm;have e:=QY hI' hx1 fhc1 fhc2;rw [Q1,List.drop_drop] at *;first | exact Qe e fhc3 | exact Qd ‹Qb l› e fhc3)
   | (have e:=Qy hI' (by omega);rw [Q1] at *;symm;first | exact Qe e fhc3 | exact Qd ‹Qb l› e fhc3)
   | (cases QE hx2▸hx1;have e:=Qz hI' hx1 fhc0 fhc1;rw [Q1] at *;symm;first | exact Qe e fhc3 | exact Qd ‹Qb l› e fhc3)
  refine gF (nz fhg63_8) Y Y (OF.move (tv (T.os 4 5 0 (((((l.take k)++ [x])++(l.drop k)).map (Qa true)).length)) Y)) (VRunO.chain (VWant.on Y Y (nz fhg63_8)) (cS (us:= [(rd 4 Qa (((l.take k)++ [x])++(l.drop k)))]) (vc (tv (T.os 4 5 0 (((((l.take k)++ [x])++(l.drop k)).map (Qa true)).length)) Y) vn) (LendL.cons (Lend.os Y Y (okeNote.fzMap _ _)) ln) (QI (n+0) (((l.take k)++ [x])++(l.drop k)) (by first | exact hq1 _ | exact hq2 _ | assumption | omega)) Y Y) (gF (nz fhg63_8) Y Y (QZ (tv (tB (decide (Qb (((l.take k)++ [x])++(l.drop k))))) Y)) (fO (OF.pickF (VEv.tmpB Y (nz fhg63_8)) (tv (tB (!(decide (Qb (((l.take k)++ [x])++(l.drop k)))))) Y)) (nt ?_))))
  refine cn (Qb (((l.take k)++ [x])++(l.drop k))) Y (fun fhc3=> ?_) fun fhc3=> ?_
  ·refine sr ?_
   refine kO (OM.slice0 QJ QL (by kernel_rfl) Y (by rw [Qh];decide) Qh) (mO (rd 4 Qa l) Y (cO (B.append (rows:= []) (rows2:=(l.map (Qa false))) (rows3:=(l.map (Qa true))) (VDst.own (tv (T.os 4 6 0 0) Y) Y Y) (VSrc.read (tv (rd 4 Qa l) Y) QJ (okeNote.okMap _ _)) nofun QJ Qh (by decide) QL Y (of_decide_eq_true (by kernel_rfl)) (by first | exact hq1 _ | exact hq2 _ | omega | (simp only [List.length_map];omega) | (simp only [List.length_map,List.length_append,List.length_cons,List.length_nil,List.length_replicate,List.length_set,List.length_drop,List.length_take,Zh] at *;omega)) (List.nil_append _)) (aO (T.os 4 7 0 ((l.map (Qa true)).length)) Y (nt (rt (tr ?_))))))
   refine vfin.eq (r':=(T.sl true 4 (l.map (Qa true)))) ?_ (vfin.r (VRes.tmp (t:=(T.os 4 7 0 ((l.map (Qa true)).length))) Y VRes.nil) (Give.os Y Y (okeNote.cleanMap _)))
   refine congrArg (fun l_=>T.sl true 4 (List.map (Qa true) l_)) ?_
   first
   | (exfalso;simp only [List.length_drop] at *;omega)
   | (cases QE hx2▸hx1;exact (Qp (Qw hI' hx1 fhc1 (by rw [fhc2];decide))).symm)
   | (symm;exact Qx ‹¬Qb l›)
   | (cases QE hx2▸hx1;symm;have e:=QY hI' hx1 fhc1 fhc2;rw [Q1,List.drop_drop] at *;first | exact Qe e fhc3 | exact Qd ‹Qb l› e fhc3)
   | (have e:=Qy hI' (by omega);rw [Q1] at *;symm;first | exact Qe e fhc3 | exact Qd ‹Qb l› e fhc3)
   | (cases QE hx2▸hx1;have e:=Qz hI' hx1 fhc0 fhc1;rw [Q1] at *;symm;first | exact Qe e fhc3 | exact Qd ‹Qb l› e fhc3)
  refine sk (tn (sr (mO (T.os 4 5 0 (((((l.take k)++ [x])++(l.drop k)).map (Qa true)).length)) Y (aO (T.os 4 5 0 (((((l.take k)++ [x])++(l.drop k)).map (Qa true)).length)) Y (nt (rt ?_))))))
  refine vfin.eq (r':=(T.sl true 4 ((((l.take k)++ [x])++(l.drop k)).map (Qa true)))) ?_ (vfin.r (VRes.tmp (t:=(T.os 4 5 0 (((((l.take k)++ [x])++(l.drop k)).map (Qa true)).length))) Y VRes.nil) (Give.os Y Y (okeNote.cleanMap _)))
  refine congrArg (fun l_=>T.sl true 4 (List.map (Qa true) l_)) ?_
  first
  | (exfalso;simp only [List.length_drop] at *;omega)
  | (cases QE hx2▸hx1;exact (Qp (Qw hI' hx1 fhc1 (by rw [fhc2];decide))).symm)
  | (symm;exact Qx ‹¬Qb l›)
  | (cases QE hx2▸hx1;symm;have e:=QY hI' hx1 fhc1 fhc2;rw [Q1,List.drop_drop] at *;first | exact Qe e fhc3 | exact Qd ‹Qb l› e fhc3)
  | (have e:=Qy hI' (by omega);rw [Q1] at *;symm;first | exact Qe e fhc3 | exact Qd ‹Qb l› e fhc3)
  | (cases QE hx2▸hx1;have e:=Qz hI' hx1 fhc0 fhc1;rw [Q1] at *;symm;first | exact Qe e fhc3 | exact Qd ‹Qb l› e fhc3)
 refine oD Y Y (dz fhg30_6) Y (oD Y Y (dz fhg30_6) Y (oD Y Y (dz fhg30_6) Y (oD Y Y (dz fhg30_6) Y (oD Y Y (dz fhg30_6) Y (oD Y Y (dz fhg30_6) Y (oD Y Y (dz fhg30_6) Y (fD (OF.pickF (VEv.tmpB Y (dz fhg30_6)) (VEv.bool false)) Y Y (VRunD.nil (tn (cf Y (sk ?_)))))))))))
 refine tn (sq (VRun.draw (B:= [[],[],[],[2,1],[1,2,3,0],[],[5],[5,6,0,3,2,1,4],[],[8,4,1,2,3,0,6,5,7],[7,5,6,0,3,2,1,4,8,9]]) (by kernel_rfl) (by kernel_rfl) Y (VRunD.make Y VWant.always Y (OM.slice0 QJ QL (by kernel_rfl) Y (by rw [Qh];decide) Qh) (mD (rd 4 Qa l) Y Y (mD (tN k) Y Y ?_)))))
 refine lD (show OL _ _ _ _ _ (T.sl false 4 ((l.take k).map (Qa false))) by rw [show (l.take k).map (Qa false)=(l.map (Qa false)).take k from List.map_take ..];exact (OL.sliceRHi (j:=k) (tv (rd 4 Qa l) Y) (tv (tN k) Y) Y (by first | exact hq1 _ | exact hq2 _ | omega | (simp only [List.length_map];omega) | (simp only [List.length_map,List.length_append,List.length_cons,List.length_nil,List.length_replicate,List.length_set,List.length_drop,List.length_take,Zh] at *;omega)) QJ Qh Q7)) Y Y (VRunD.quiet (bi:= [1,2,3,0]) Y VWant.always Y Y Y (bc (lb Y) bn) (B.append (rows:= []) (rows2:=((l.take k).map (Qa false))) (rows3:=((l.take k).map (Qa true))) (VDst.own (tv (T.os 4 1 0 0) Y) Y Y) (VSrc.read (tv (rd 4 Qa (l.take k)) Y) QJ (okeNote.okMap _ _)) nofun QJ Qh (by decide) QL Y (of_decide_eq_true (by kernel_rfl)) (by first | exact hq1 _ | exact hq2 _ | omega | (simp only [List.length_map];omega) | (simp only [List.length_map,List.length_append,List.length_cons,List.length_nil,List.length_replicate,List.length_set,List.length_drop,List.length_take,Zh] at *;omega)) (List.nil_append _)) (lD (OL.loadOn (us:=(Qa false x)) (tv (T.op 0 0) Y) Y Q6 Qh (lb Y) Y) Y Y (VRunD.make Y VWant.always Y (OM.buildSlice (l:= [(T.agg (Qa false x))]) (VEvp.cons (tv (T.agg (Qa false x)) Y) VEvp.nil) Y (by decide) (bc (nofun) bn) (bc ((bc (Y) (bc (Y) (bc (Y) (bc (Y) bn))))) bn) (bc (Y) bn) QJ QL (by kernel_rfl) Y (by rw [Qh];decide) Qh (Nat.le_of_ble_eq_true Y)) (VRunD.quiet (bi:= [5,6,0,3,2,1,4]) Y VWant.always Y Y Y (bc (lb Y) (bc (lb Y) bn)) (B.append (rows:=((l.take k).map (Qa true))) (rows2:= [[(tI x.Cell),(tS x.Letter),(tI x.Tick),(tI x.Who)]]) (rows3:=(((l.take k)++ [x]).map (Qa true))) (VDst.own (tv (T.os 4 2 0 (((l.take k).map (Qa true)).length)) Y) Y Y) (VSrc.own (tv (T.os 4 3 0 1) Y) Y Y QJ (bc (bc Y (bc Y (bc Y (bc Y bn)))) bn)) (by decide) QJ Qh (by decide) QL Y (of_decide_eq_true (by kernel_rfl)) (by first | exact hq1 _ | exact hq2 _ | omega | (simp only [List.length_map];omega) | (simp only [List.length_map,List.length_append,List.length_cons,List.length_nil,List.length_replicate,List.length_set,List.length_drop,List.length_take,Zh] at *;omega)) ((List.map_append (f:=Qa true) (l₁:=(l.take k)) (l₂:= [x])).symm)) (mD (rd 4 Qa (l.drop k)) Y Y (VRunD.quiet (bi:= [8,4,1,2,3,0,6,5,7]) Y VWant.always Y Y Y (bc (lb Y) bn) (B.append (rows:=(((l.take k)++ [x]).map (Qa true))) (rows2:=((l.drop k).map (Qa false))) (rows3:=((((l.take k)++ [x])++(l.drop k)).map (Qa true))) (VDst.own (tv (T.os 4 4 0 ((((l.take k)++ [x]).map (Qa true)).length)) Y) Y Y) (VSrc.read (tv (rd 4 Qa (l.drop k)) Y) QJ (okeNote.okMap _ _)) nofun QJ Qh (by decide) QL Y (of_decide_eq_true (by kernel_rfl)) (by first | exact hq1 _ | exact hq2 _ | omega | (simp only [List.length_map];omega) | (simp only [List.length_map,List.length_append,List.length_cons,List.length_nil,List.length_replicate,List.length_set,List.length_drop,List.length_take,Zh] at *;omega)) ((List.map_append (f:=Qa true) (l₁:=((l.take k)++ [x])) (l₂:=(l.drop k))).symm)) ?_))))))
 refine fD (OF.assign (tv (T.os 4 5 0 (((((l.take k)++ [x])++(l.drop k)).map (Qa true)).length)) Y)) Y Y (VRunD.nil (tn (sq (sr (mO (rd 4 Qa l) Y (cO (cS (vc (tv (rd 4 Qa l) Y) vn) (ZO Y) (QI (n+0) l (by first | exact hq1 _ | exact hq2 _ | assumption | omega)) Y Y) (fO (QZ (tv (tB (decide (Qb l))) Y)) (mO (tB (!(decide (Qb l)))) Y ?_))))))))
 refine gn (Qb l) (fun fhg63_9=> ?_) fun fhg63_9=> ?_
 ·refine Q2 3 3 false 63 (ny fhg63_9) Y Y Y ?_
  refine fO (OF.pickT (VEv.tmpB Y (ny fhg63_9)) (VEv.bool true)) (nt (ct Y (sr (kO (OM.slice0 QJ QL (by kernel_rfl) Y (by rw [Qh];decide) Qh) (mO (rd 4 Qa l) Y (cO (B.append (rows:= []) (rows2:=(l.map (Qa false))) (rows3:=(l.map (Qa true))) (VDst.own (tv (T.os 4 6 0 0) Y) Y Y) (VSrc.read (tv (rd 4 Qa l) Y) QJ (okeNote.okMap _ _)) nofun QJ Qh (by decide) QL Y (of_decide_eq_true (by kernel_rfl)) (by first | exact hq1 _ | exact hq2 _ | omega | (simp only [List.length_map];omega) | (simp only [List.length_map,List.length_append,List.length_cons,List.length_nil,List.length_replicate,List.length_set,List.length_drop,List.length_take,Zh] at *;omega)) (List.nil_append _)) (aO (T.os 4 7 0 ((l.map (Qa true)).length)) Y (nt (rt (tr ?_))))))))))
  refine vfin.eq (r':=(T.sl true 4 (l.map (Qa true)))) ?_ (vfin.r (VRes.tmp (t:=(T.os 4 7 0 ((l.map (Qa true)).length))) Y VRes.nil) (Give.os Y Y (okeNote.cleanMap _)))
  refine congrArg (fun l_=>T.sl true 4 (List.map (Qa true) l_)) ?_
  first
  | (exfalso;simp only [List.length_drop] at *;omega)
  | (cases QE hx2▸hx1;exact (Qp (Qw hI' hx1 fhc1 (by rw [fhc2];decide))).symm)
  | (symm;exact Qx ‹¬Qb l›)
  | (cases QE hx2▸hx1;symm;have e:=QY hI' hx1 fhc1 fhc2;rw [Q1,List.drop_drop] at *;first | exact Qe e fhc3 | exact Qd ‹Qb l› e fhc3)
  | (have e:=Qy hI' (by omega);rw [Q1] at *;symm;first | exact Qe e fhc3 | exact Qd ‹Qb l› e fhc3)
  | (cases QE hx2▸hx1;have e:=Qz hI' hx1 fhc0 fhc1;rw [Q1] at *;symm;first | exact Qe e fhc3 | exact Qd ‹Qb l› e fhc3)
 refine gF (nz fhg63_9) Y Y (OF.move (tv (T.os 4 5 0 (((((l.take k)++ [x])++(l.drop k)).map (Qa true)).length)) Y)) (VRunO.chain (VWant.on Y Y (nz fhg63_9)) (cS (us:= [(rd 4 Qa (((l.take k)++ [x])++(l.drop k)))]) (vc (tv (T.os 4 5 0 (((((l.take k)++ [x])++(l.drop k)).map (Qa true)).length)) Y) vn) (LendL.cons (Lend.os Y Y (okeNote.fzMap _ _)) ln) (QI (n+0) (((l.take k)++ [x])++(l.drop k)) (by first | exact hq1 _ | exact hq2 _ | assumption | omega)) Y Y) (gF (nz fhg63_9) Y Y (QZ (tv (tB (decide (Qb (((l.take k)++ [x])++(l.drop k))))) Y)) (fO (OF.pickF (VEv.tmpB Y (nz fhg63_9)) (tv (tB (!(decide (Qb (((l.take k)++ [x])++(l.drop k)))))) Y)) (nt ?_))))
 refine cn (Qb (((l.take k)++ [x])++(l.drop k))) Y (fun fhc3=> ?_) fun fhc3=> ?_
 ·refine sr ?_
  refine kO (OM.slice0 QJ QL (by kernel_rfl) Y (by rw [Qh];decide) Qh) (mO (rd 4 Qa l) Y (cO (B.append (rows:= []) (rows2:=(l.map (Qa false))) (rows3:=(l.map (Qa true))) (VDst.own (tv (T.os 4 6 0 0) Y) Y Y) (VSrc.read (tv (rd 4 Qa l) Y) QJ (okeNote.okMap _ _)) nofun QJ Qh (by decide) QL Y (of_decide_eq_true (by kernel_rfl)) (by first | exact hq1 _ | exact hq2 _ | omega | (simp only [List.length_map];omega) | (simp only [List.length_map,List.length_append,List.length_cons,List.length_nil,List.length_replicate,List.length_set,List.length_drop,List.length_take,Zh] at *;omega)) (List.nil_append _)) (aO (T.os 4 7 0 ((l.map (Qa true)).length)) Y (nt (rt (tr ?_))))))
  refine vfin.eq (r':=(T.sl true 4 (l.map (Qa true)))) ?_ (vfin.r (VRes.tmp (t:=(T.os 4 7 0 ((l.map (Qa true)).length))) Y VRes.nil) (Give.os Y Y (okeNote.cleanMap _)))
  refine congrArg (fun l_=>T.sl true 4 (List.map (Qa true) l_)) ?_
  first
  | (exfalso;simp only [List.length_drop] at *;omega)
  | (cases QE hx2▸hx1;exact (Qp (Qw hI' hx1 fhc1 (by rw [fhc2];decide))).symm)
  | (symm;exact Qx ‹¬Qb l›)
  | (cases QE hx2▸hx1;symm;have e:=QY hI' hx1 fhc1 fhc2;rw [Q1,List.drop_drop] at *;first | exact Qe e fhc3 | exact Qd ‹Qb l› e fhc3)
  | (have e:=Qy hI' (by omega);rw [Q1] at *;symm;first | exact Qe e fhc3 | exact Qd ‹Qb l› e fhc3)
  | (cases QE hx2▸hx1;have e:=Qz hI' hx1 fhc0 fhc1;rw [Q1] at *;symm;first | exact Qe e fhc3 | exact Qd ‹Qb l› e fhc3)
 refine sk (tn (sr (mO (T.os 4 5 0 (((((l.take k)++ [x])++(l.drop k)).map (Qa true)).length)) Y (aO (T.os 4 5 0 (((((l.take k)++ [x])++(l.drop k)).map (Qa true)).length)) Y (nt (rt ?_))))))
 refine vfin.eq (r':=(T.sl true 4 ((((l.take k)++ [x])++(l.drop k)).map (Qa true)))) ?_ (vfin.r (VRes.tmp (t:=(T.os 4 5 0 (((((l.take k)++ [x])++(l.drop k)).map (Qa true)).length))) Y VRes.nil) (Give.os Y Y (okeNote.cleanMap _)))
 refine congrArg (fun l_=>T.sl true 4 (List.map (Qa true) l_)) ?_
 first
 | (exfalso;simp only [List.length_drop] at *;omega)
 | (cases QE hx2▸hx1;exact (Qp (Qw hI' hx1 fhc1 (by rw [fhc2];decide))).symm)
 | (symm;exact Qx ‹¬Qb l›)
 | (cases QE hx2▸hx1;symm;have e:=QY hI' hx1 fhc1 fhc2;rw [Q1,List.drop_drop] at *;first | exact Qe e fhc3 | exact Qd ‹Qb l› e fhc3)
 | (have e:=Qy hI' (by omega);rw [Q1] at *;symm;first | exact Qe e fhc3 | exact Qd ‹Qb l› e fhc3)
 | (cases QE hx2▸hx1;have e:=Qz hI' hx1 fhc0 fhc1;rw [Q1] at *;symm;first | exact Qe e fhc3 | exact Qd ‹Qb l› e fhc3)
theorem Qbj (n:Nat) (l:List D.Note) (x:D.Note) (hz:zL Qo l+Qo x+1≤2*mx):Pure (QA Tryd.prog (n+4)) 50 [(rd 4 Qa l),(T.agg (Qa false x))] (T.sl true 4 ((QP l x).map (Qa true))):=by
 refine Pure.intro (rs:= [ResultVar.tmp 4]) Tryd.func50 Y Y Y (E0:= [(0,(rd 4 Qa l)),(1,(T.agg (Qa false x)))]) Y ?_
 obtain ⟨hlim,hmx,hmax⟩:=Zk
 have hl:=ZV (z:=Qo) l
 have hq1:=Qfb hz
 have hq2:=Qfv hz
 refine sr (kO (B.box (ts:=(Qa false x)) (tv (T.agg (Qa false x)) Y) nofun Y) (fO (OF.assign VEv.nils) (nt (sr (mO (rd 4 Qa l) Y (cO (OC.callF (r':=(T.os 4 1 0 ((l.map (Qa true)).length))) (objs:= [(Obj.rows 4 (l.map (Qa true)))]) Y (vc (tv (rd 4 Qa l) Y) vn) (ZO Y) (Qk (n+2) l (by first | exact hq1 _ | exact hq2 _ | assumption | omega)) Y) (aO (T.os 4 1 0 ((l.map (Qa true)).length)) Y (nt (sr (fO (OF.assign (VEv.int .i64 0)) (nt ?_)))))))))))
 refine sq (VRun.block ?_)
 refine VRun.loop (A:=Nat) (fun s_=> [(0,(rd 4 Qa l)),(3,(T.op 0 0)),(4,T.nils),(5,(T.os 4 1 0 ((l.map (Qa true)).length))),(6,(tN s_))]) (fun s_=>Jw [(0,(Obj.cells (Qa false x))),(1,(Obj.rows 4 (l.map (Qa true))))]) 2 (fun s_=>isLed l x s_) (fun s_=>l.length - s_) (0:Nat) ?_ (Wk.mk (fun k=>k) ?_ ?_ ?_) ?_
 ·exact ⟨Nat.zero_le _,fun j hj=>by omega⟩
 ·exact (b2 (b2 (b2 (b2 (b2 bn)))))
 ·exact (b3 (b3 bn))
 ·exact nd Y
 rintro k (hI':isLed l x k)
 show VRun _ _ _ [(0,(rd 4 Qa l)),(3,(T.op 0 0)),(4,T.nils),(5,(T.os 4 1 0 ((l.map (Qa true)).length))),(6,(tN k))] (Jw [(0,(Obj.cells (Qa false x))),(1,(Obj.rows 4 (l.map (Qa true))))]) 2 _
 have hI1:=hI'.1
 refine sq (sq (VRun.draw (B:= [[],[],[1],[1,2,0],[0,2,1,3],[3,1,2,0,4],[3,1,2,0,4],[6,4,0,2,1,3,5],[5,3,1,2,0,4,6,7],[7,6,4,0,2,1,3,5,8],[3,1,2,0,4],[4,0,2,1,3,10],[10,11,8,5,3,1,2,0,4,6,7,9],[9,7,6,5,8,11,10,12,3,1,2,0,4]]) (by kernel_rfl) (by kernel_rfl) Y (mD (tN k) Y Y (mD (rd 4 Qa l) Y Y (lD (B.lenR (m:=l.length) (tv (rd 4 Qa l) Y) QJ (List.length_map ..)) Y Y (fD (Jx (tv (tN k) Y) (tv (tN l.length) Y)) Y Y (mD (tB (decide (k<l.length))) Y Y ?_)))))))
 refine gw (k<l.length) (fun fhg13_1=> ?_) fun fhg13_1=> ?_
 ·refine VRunD.free Y (VWant.on Y Y (dy fhg13_1)) Y (OF.move (tv (rd 4 Qa l) Y)) ?_
  refine VRunD.free Y (VWant.on Y Y (dy fhg13_1)) Y (OF.move (tv (tN k) Y)) ?_
  obtain ⟨x1,hx1⟩:∃x,l[k]? =some x:=⟨_,List.getElem?_eq_getElem (by first | exact hq1 _ | exact hq2 _ | omega)⟩
  refine VRunD.free Y (VWant.on Y Y (dy fhg13_1)) Y (OF.indexAddrR (row:=(Qa false x1)) (i:=k) (tv (rd 4 Qa l) Y) (tv (tN k) Y) Y (QR _ hx1) QJ Qh Q7) (VRunD.free Y (VWant.on Y Y (dy fhg13_1)) Y (B.fieldAddrR (us:=(Qa false x1)) (tv (T.rp (Qa false x1)) Y) (lb Y) Ze Y) (VRunD.look Y (VWant.on Y Y (dy fhg13_1)) Y (OL.loadR1 (t:=(tI x1.Cell)) (tv (T.rp (Qa false x1)) Y) Y Zo) (VRunD.free Y (VWant.on Y Y (dy fhg13_1)) Y (OF.fieldAddrO (tv (T.op 0 0) Y) Ze) (VRunD.look Y (VWant.on Y Y (dy fhg13_1)) Y (OL.loadO1 (t:=(tI x.Cell)) (tv (T.op 0 0) Y) Y Y Zo) (VRunD.free Y (VWant.on Y Y (dy fhg13_1)) Y (xls (tv (tI x1.Cell) Y) (tv (tI x.Cell) Y)) (fD (OF.pickT (VEv.tmpB Y (dy fhg13_1)) (tv (tB (decide (x1.Cell<x.Cell))) Y)) Y Y (VRunD.nil (tn ?_))))))))
  refine cd (x1.Cell<x.Cell) Y (fun fhc0=> ?_) fun fhc0=> ?_
  ·refine sk ?_
   refine tn (VRun.block (VRun.region (mO (tN k) Y (fO (ZB (tv (tN k) Y) (VEv.int .i64 1) (by first | exact hq1 _ | exact hq2 _ | omega)) (aO (tN (k+1)) Y (VRunO.nil (vinB.n (tn ?_))))))))
   refine ⟨(k+1:Nat),?_,?_,Wk.mk (fun k=>k) ?_ ?_ ?_⟩
   ·exact hI'.next hx1 (by assumption)
   ·first | omega | (simp only [];omega) | (show _<_;omega) | (simp;omega)
   ·exact (b2 (b2 (b2 (b2 (b2 bn)))))
   ·exact (b3 (b3 bn))
   ·exact nd Y
  refine VRun.exit (vthn.e (vthn.e (vinB.e (tn (sq (VRun.block (sr (mO (rd 4 Qa l) Y (cO (cS (vc (tv (rd 4 Qa l) Y) vn) (ZO Y) (Qn (n+0) l (by first | exact hq1 _ | exact hq2 _ | assumption | omega)) Y Y) (fO (QZ (tv (tB (decide (Qb l))) Y)) (aO (tB (!(decide (Qb l)))) Y ?_)))))))))))
  refine nt ?_
  refine cn (Qb l) Y (fun fhc1=> ?_) fun fhc1=> ?_
  ·refine sk ?_
   refine vinB.n (tn (sq (sr (mO (T.os 4 1 0 ((l.map (Qa true)).length)) Y (cO (cS (us:= [(rd 4 Qa l)]) (vc (tv (T.os 4 1 0 ((l.map (Qa true)).length)) Y) vn) (LendL.cons (Lend.os Y Y (okeNote.fzMap _ _)) ln) (Qn (n+0) l (by first | exact hq1 _ | exact hq2 _ | assumption | omega)) Y Y) (fO (QZ (tv (tB (decide (Qb l))) Y)) (nt (ck (ny fhc1) Y (sr (mO (rd 4 Qa l) Y (cO (OC.callF (r':=(T.os 4 2 0 ((l.map (Qa true)).length))) (objs:= [(Obj.rows 4 (l.map (Qa true)))]) Y (vc (tv (rd 4 Qa l) Y) vn) (ZO Y) (Qk (n+2) l (by first | exact hq1 _ | exact hq2 _ | assumption | omega)) Y) ?_)))))))))))
   refine aO (T.os 4 2 0 ((l.map (Qa true)).length)) Y (nt (rt (tr ?_)))
   refine vfin.eq (r':=(T.sl true 4 (l.map (Qa true)))) ?_ (vfin.r (VRes.tmp (t:=(T.os 4 2 0 ((l.map (Qa true)).length))) Y VRes.nil) (Give.os Y Y (okeNote.cleanMap _)))
   refine congrArg (fun l_=>T.sl true 4 (List.map (Qa true) l_)) ?_
   first
   | (exfalso;omega)
   | (exact (Qx ‹¬Qb l›).symm)
   | (have e:=Qy hI' (by omega);symm;first | exact Qe e fhc4 | exact Qd ‹Qb l› e fhc4)
   | (have e:=Qz hI' hx1 fhc0 fhc2;symm;first | exact Qe e fhc4 | exact Qd ‹Qb l› e fhc4)
   | (have e:=Q5 hI' hx1 (by omega) fhc3;symm;first | exact Qe e fhc4 | exact Qd ‹Qb l› e fhc4)
   | (exact (Qp (Qw hI' hx1 (by omega) (by rw [fhc3];decide))).symm)
  refine sq (VRun.draw (B:= [[],[],[1],[1,2,0],[0,2,1,3],[3,1,2,0,4],[3,1,2,0,4],[6,4,0,2,1,3,5],[5,3,1,2,0,4,6,7],[7,6,4,0,2,1,3,5,8],[3,1,2,0,4],[4,0,2,1,3,10],[10,11,8,5,3,1,2,0,4,6,7,9],[9,7,6,5,8,11,10,12,3,1,2,0,4],[4,0,2,1,3,12,10,11,8,5,6,7,9,13]]) (by kernel_rfl) (by kernel_rfl) Y (mD (tN k) Y Y (mD (rd 4 Qa l) Y Y (lD (B.lenR (m:=l.length) (tv (rd 4 Qa l) Y) QJ (List.length_map ..)) Y Y (fD (Qf4 (tv (tN k) Y) (tv (tN l.length) Y)) Y Y (mD (tB (decide (k=l.length))) Y Y ?_))))))
  refine gw (k=l.length) (fun fhg34_2=> ?_) fun fhg34_2=> ?_
  ·refine oD Y Y (dy fhg34_2) Y ?_
   refine oD Y Y (dy fhg34_2) Y (oD Y Y (dy fhg34_2) Y (oD Y Y (dy fhg34_2) Y (oD Y Y (dy fhg34_2) Y (oD Y Y (dy fhg34_2) Y (oD Y Y (dy fhg34_2) Y (oD Y Y (dy fhg34_2) Y (fD (OF.pickT (VEv.tmpB Y (dy fhg34_2)) (VEv.bool true)) Y Y (fD (OF.assign (tv (tB true) Y)) Y Y (VRunD.nil (tn (ct Y ?_)))))))))))
   refine VRun.region (mO (T.os 4 1 0 ((l.map (Qa true)).length)) Y (mO (tN k) Y (lO (OL.loadOn (us:=(Qa false x)) (tv (T.op 0 0) Y) Y Q6 Qh (lb Y) Y) (kO (OM.buildSlice (l:= [(T.agg (Qa false x))]) (VEvp.cons (tv (T.agg (Qa false x)) Y) VEvp.nil) Y (by decide) (bc (nofun) bn) (bc ((bc (Y) (bc (Y) (bc (Y) (bc (Y) bn))))) bn) (bc (Y) bn) QJ QL (by kernel_rfl) Y (by rw [Qh];decide) Qh (Nat.le_of_ble_eq_true Y)) (cO (B.insert (rows:=(l.map (Qa true))) (r:= [(tI x.Cell),(tS x.Letter),(tI x.Tick),(tI x.Who)]) (rows3:=((l.take k++x::l.drop k).map (Qa true))) (i:=k) Y Y Y (VDst.own (tv (T.os 4 1 0 ((l.map (Qa true)).length)) Y) Y Y) (tv (tN k) Y) Y (VDst.own (tv (T.os 4 2 0 1) Y) Y Y) (by decide) (Qee (fun _=>rfl) _) (bc (bc Y (bc Y (bc Y (bc Y bn)))) bn) (okeNote.okMap _ _) (bc Y (bc Y (bc Y (bc Y bn)))) (by decide) (by decide) (by first | exact hq1 _ | exact hq2 _ | omega | (simp only [List.length_map];omega) | (simp only [List.length_map,List.length_append,List.length_cons,List.length_nil,List.length_replicate,List.length_set,List.length_drop,List.length_take,Zh] at *;omega)) (by first | exact hq1 _ | exact hq2 _ | omega | (simp only [List.length_map];omega) | (simp only [List.length_map,List.length_append,List.length_cons,List.length_nil,List.length_replicate,List.length_set,List.length_drop,List.length_take,Zh] at *;omega)) (by rw [List.map_append,List.map_cons,List.map_take,List.map_drop];rfl)) (aO (T.os 4 3 0 (((l.take k++x::l.drop k).map (Qa true)).length)) Y (VRunO.nil (vinB.n (tn (sq (sr ?_)))))))))))
   refine mO (T.os 4 3 0 (((l.take k++x::l.drop k).map (Qa true)).length)) Y (cO (cS (us:= [(rd 4 Qa (l.take k++x::l.drop k))]) (vc (tv (T.os 4 3 0 (((l.take k++x::l.drop k).map (Qa true)).length)) Y) vn) (LendL.cons (Lend.os Y Y (okeNote.fzMap _ _)) ln) (Qn (n+0) (l.take k++x::l.drop k) (by first | exact hq1 _ | exact hq2 _ | assumption | omega)) Y Y) (fO (QZ (tv (tB (decide (Qb (l.take k++x::l.drop k)))) Y)) (nt ?_)))
   refine cn (Qb (l.take k++x::l.drop k)) Y (fun fhc4=> ?_) fun fhc4=> ?_
   ·refine sr ?_
    refine mO (rd 4 Qa l) Y (cO (OC.callF (r':=(T.os 4 4 0 ((l.map (Qa true)).length))) (objs:= [(Obj.rows 4 (l.map (Qa true)))]) Y (vc (tv (rd 4 Qa l) Y) vn) (ZO Y) (Qk (n+2) l (by first | exact hq1 _ | exact hq2 _ | assumption | omega)) Y) (aO (T.os 4 4 0 ((l.map (Qa true)).length)) Y (nt (rt (tr ?_)))))
    refine vfin.eq (r':=(T.sl true 4 (l.map (Qa true)))) ?_ (vfin.r (VRes.tmp (t:=(T.os 4 4 0 ((l.map (Qa true)).length))) Y VRes.nil) (Give.os Y Y (okeNote.cleanMap _)))
    refine congrArg (fun l_=>T.sl true 4 (List.map (Qa true) l_)) ?_
    first
    | (exfalso;omega)
    | (exact (Qx ‹¬Qb l›).symm)
    | (have e:=Qy hI' (by omega);symm;first | exact Qe e fhc4 | exact Qd ‹Qb l› e fhc4)
    | (have e:=Qz hI' hx1 fhc0 fhc2;symm;first | exact Qe e fhc4 | exact Qd ‹Qb l› e fhc4)
    | (have e:=Q5 hI' hx1 (by omega) fhc3;symm;first | exact Qe e fhc4 | exact Qd ‹Qb l› e fhc4)
    | (exact (Qp (Qw hI' hx1 (by omega) (by rw [fhc3];decide))).symm)
   refine sk (tn (sr (mO (T.os 4 3 0 (((l.take k++x::l.drop k).map (Qa true)).length)) Y (aO (T.os 4 3 0 (((l.take k++x::l.drop k).map (Qa true)).length)) Y (nt (rt ?_))))))
   refine vfin.eq (r':=(T.sl true 4 ((l.take k++x::l.drop k).map (Qa true)))) ?_ (vfin.r (VRes.tmp (t:=(T.os 4 3 0 (((l.take k++x::l.drop k).map (Qa true)).length))) Y VRes.nil) (Give.os Y Y (okeNote.cleanMap _)))
   refine congrArg (fun l_=>T.sl true 4 (List.map (Qa true) l_)) ?_
   first
   | (exfalso;omega)
   | (exact (Qx ‹¬Qb l›).symm)
   | (have e:=Qy hI' (by omega);symm;first | exact Qe e fhc4 | exact Qd ‹Qb l› e fhc4)
   | (have e:=Qz hI' hx1 fhc0 fhc2;symm;first | exact Qe e fhc4 | exact Qd ‹Qb l› e fhc4)
   | (have e:=Q5 hI' hx1 (by omega) fhc3;symm;first | exact Qe e fhc4 | exact Qd ‹Qb l› e fhc4)
   | (exact (Qp (Qw hI' hx1 (by omega) (by rw [fhc3];decide))).symm)
  refine VRunD.free Y (VWant.on Y Y (dz fhg34_2)) Y (OF.move (tv (rd 4 Qa l) Y)) (VRunD.free Y (VWant.on Y Y (dz fhg34_2)) Y (OF.move (tv (tN k) Y)) (VRunD.free Y (VWant.on Y Y (dz fhg34_2)) Y (OF.indexAddrR (row:=(Qa false x1)) (i:=k) (tv (rd 4 Qa l) Y) (tv (tN k) Y) Y (QR _ hx1) QJ Qh Q7) (VRunD.free Y (VWant.on Y Y (dz fhg34_2)) Y (B.fieldAddrR (us:=(Qa false x1)) (tv (T.rp (Qa false x1)) Y) (lb Y) Ze Y) (VRunD.look Y (VWant.on Y Y (dz fhg34_2)) Y (OL.loadR1 (t:=(tI x1.Cell)) (tv (T.rp (Qa false x1)) Y) Y Zo) (VRunD.free Y (VWant.on Y Y (dz fhg34_2)) Y (OF.fieldAddrO (tv (T.op 0 0) Y) Ze) (VRunD.look Y (VWant.on Y Y (dz fhg34_2)) Y (OL.loadO1 (t:=(tI x.Cell)) (tv (T.op 0 0) Y) Y Y Zo) (VRunD.free Y (VWant.on Y Y (dz fhg34_2)) Y (xne (tv (tI x1.Cell) Y) (tv (tI x.Cell) Y)) (fD (OF.pickF (VEv.tmpB Y (dz fhg34_2)) (tv (tB (!(decide (x1.Cell=x.Cell)))) Y)) Y Y (fD (OF.assign (tv (tB (!(decide (x1.Cell=x.Cell)))) Y)) Y Y (VRunD.nil (tn ?_)))))))))))
  refine cn (x1.Cell=x.Cell) Y (fun fhc2=> ?_) fun fhc2=> ?_
  ·refine VRun.region ?_
   refine mO (T.os 4 1 0 ((l.map (Qa true)).length)) Y (mO (tN k) Y (lO (OL.loadOn (us:=(Qa false x)) (tv (T.op 0 0) Y) Y Q6 Qh (lb Y) Y) (kO (OM.buildSlice (l:= [(T.agg (Qa false x))]) (VEvp.cons (tv (T.agg (Qa false x)) Y) VEvp.nil) Y (by decide) (bc (nofun) bn) (bc ((bc (Y) (bc (Y) (bc (Y) (bc (Y) bn))))) bn) (bc (Y) bn) QJ QL (by kernel_rfl) Y (by rw [Qh];decide) Qh (Nat.le_of_ble_eq_true Y)) (cO (B.insert (rows:=(l.map (Qa true))) (r:= [(tI x.Cell),(tS x.Letter),(tI x.Tick),(tI x.Who)]) (rows3:=((l.take k++x::l.drop k).map (Qa true))) (i:=k) Y Y Y (VDst.own (tv (T.os 4 1 0 ((l.map (Qa true)).length)) Y) Y Y) (tv (tN k) Y) Y (VDst.own (tv (T.os 4 2 0 1) Y) Y Y) (by decide) (Qee (fun _=>rfl) _) (bc (bc Y (bc Y (bc Y (bc Y bn)))) bn) (okeNote.okMap _ _) (bc Y (bc Y (bc Y (bc Y bn)))) (by decide) (by decide) (by first | exact hq1 _ | exact hq2 _ | omega | (simp only [List.length_map];omega) | (simp only [List.length_map,List.length_append,List.length_cons,List.length_nil,List.length_replicate,List.length_set,List.length_drop,List.length_take,Zh] at *;omega)) (by first | exact hq1 _ | exact hq2 _ | omega | (simp only [List.length_map];omega) | (simp only [List.length_map,List.length_append,List.length_cons,List.length_nil,List.length_replicate,List.length_set,List.length_drop,List.length_take,Zh] at *;omega)) (by rw [List.map_append,List.map_cons,List.map_take,List.map_drop];rfl)) (aO (T.os 4 3 0 (((l.take k++x::l.drop k).map (Qa true)).length)) Y (VRunO.nil (vinB.n (tn (sq (sr (mO (T.os 4 3 0 (((l.take k++x::l.drop k).map (Qa true)).length)) Y ?_)))))))))))
   refine cO (cS (us:= [(rd 4 Qa (l.take k++x::l.drop k))]) (vc (tv (T.os 4 3 0 (((l.take k++x::l.drop k).map (Qa true)).length)) Y) vn) (LendL.cons (Lend.os Y Y (okeNote.fzMap _ _)) ln) (Qn (n+0) (l.take k++x::l.drop k) (by first | exact hq1 _ | exact hq2 _ | assumption | omega)) Y Y) (fO (QZ (tv (tB (decide (Qb (l.take k++x::l.drop k)))) Y)) (nt ?_))
   refine cn (Qb (l.take k++x::l.drop k)) Y (fun fhc4=> ?_) fun fhc4=> ?_
   ·refine sr ?_
    refine mO (rd 4 Qa l) Y (cO (OC.callF (r':=(T.os 4 4 0 ((l.map (Qa true)).length))) (objs:= [(Obj.rows 4 (l.map (Qa true)))]) Y (vc (tv (rd 4 Qa l) Y) vn) (ZO Y) (Qk (n+2) l (by first | exact hq1 _ | exact hq2 _ | assumption | omega)) Y) (aO (T.os 4 4 0 ((l.map (Qa true)).length)) Y (nt (rt (tr ?_)))))
    refine vfin.eq (r':=(T.sl true 4 (l.map (Qa true)))) ?_ (vfin.r (VRes.tmp (t:=(T.os 4 4 0 ((l.map (Qa true)).length))) Y VRes.nil) (Give.os Y Y (okeNote.cleanMap _)))
    refine congrArg (fun l_=>T.sl true 4 (List.map (Qa true) l_)) ?_
    first
    | (exfalso;omega)
    | (exact (Qx ‹¬Qb l›).symm)
    | (have e:=Qy hI' (by omega);symm;first | exact Qe e fhc4 | exact Qd ‹Qb l› e fhc4)
    | (have e:=Qz hI' hx1 fhc0 fhc2;symm;first | exact Qe e fhc4 | exact Qd ‹Qb l› e fhc4)
    | (have e:=Q5 hI' hx1 (by omega) fhc3;symm;first | exact Qe e fhc4 | exact Qd ‹Qb l› e fhc4)
    | (exact (Qp (Qw hI' hx1 (by omega) (by rw [fhc3];decide))).symm)
   refine sk (tn (sr (mO (T.os 4 3 0 (((l.take k++x::l.drop k).map (Qa true)).length)) Y (aO (T.os 4 3 0 (((l.take k++x::l.drop k).map (Qa true)).length)) Y (nt (rt ?_))))))
   refine vfin.eq (r':=(T.sl true 4 ((l.take k++x::l.drop k).map (Qa true)))) ?_ (vfin.r (VRes.tmp (t:=(T.os 4 3 0 (((l.take k++x::l.drop k).map (Qa true)).length))) Y VRes.nil) (Give.os Y Y (okeNote.cleanMap _)))
   refine congrArg (fun l_=>T.sl true 4 (List.map (Qa true) l_)) ?_
   first
   | (exfalso;omega)
   | (exact (Qx ‹¬Qb l›).symm)
   | (have e:=Qy hI' (by omega);symm;first | exact Qe e fhc4 | exact Qd ‹Qb l› e fhc4)
   | (have e:=Qz hI' hx1 fhc0 fhc2;symm;first | exact Qe e fhc4 | exact Qd ‹Qb l› e fhc4)
   | (have e:=Q5 hI' hx1 (by omega) fhc3;symm;first | exact Qe e fhc4 | exact Qd ‹Qb l› e fhc4)
   | (exact (Qp (Qw hI' hx1 (by omega) (by rw [fhc3];decide))).symm)
  refine sq (VRun.draw (B:= [[],[],[],[2,1],[1,2,3],[3,2,1,4,0],[0,4,1,2,3,5]]) (by kernel_rfl) (by kernel_rfl) Y (lD (OL.loadOn (us:=(Qa false x)) (tv (T.op 0 0) Y) Y Q6 Qh (lb Y) Y) Y Y (mD (rd 4 Qa l) Y Y (mD (tN k) Y Y (fD (OF.indexAddrR (row:=(Qa false x1)) (i:=k) (tv (rd 4 Qa l) Y) (tv (tN k) Y) Y (QR _ hx1) QJ Qh Q7) Y Y (lD (OL.loadRn (us:=(Qa false x1)) (tv (T.rp (Qa false x1)) Y) Q6 Qh (lb Y) Y) Y Y (VRunD.quiet (bi:= [3,2,1,4,0]) Y VWant.always Y Y Y bn (cS (vc (tv (T.agg (Qa false x)) Y) (vc (tv (T.agg (Qa false x1)) Y) vn)) (LendL.cons (lg okeNote) (LendL.cons (lg okeNote) ln)) (QF (n+2) x x1) Y Y) (fD (OF.assign (tv (tB (Qf x x1)) Y)) Y Y (VRunD.nil (tn ?_))))))))))
  refine VRun.cond (tv (tB (Qf x x1)) Y) (fun hc3=> ?_) (fun hc3=> ?_)
  ·have fhc3:(Qf x x1)=true:=hc3
   refine VRun.region (mO (T.os 4 1 0 ((l.map (Qa true)).length)) Y (mO (tN k) Y (lO (OL.loadOn (us:=(Qa false x)) (tv (T.op 0 0) Y) Y Q6 Qh (lb Y) Y) (fO (B.indexAddrO (i:=k) (tv (T.os 4 1 0 ((l.map (Qa true)).length)) Y) (tv (tN k) Y) Y (by first | exact hq1 _ | exact hq2 _ | omega | (simp only [List.length_map];omega) | (simp only [List.length_map,List.length_append,List.length_cons,List.length_nil,List.length_replicate,List.length_set,List.length_drop,List.length_take,Zh] at *;omega)) QJ Qh Q7) (cO (B.storeP (us:=(Qa false x)) (rows':=((l.set k x).map (Qa true))) (row:=(Qa true x1)) (tv (T.orp 4 1 k 0) Y) (tv (T.agg (Qa false x)) Y) nofun Y (QR _ hx1) Y (lb Y) Q7 Qh (bc Y (bc Y (bc Y (bc Y bn)))) (by intro r hr t ht;obtain ⟨x,_,rfl⟩:=List.mem_map.1 hr;rw [QaS] at ht;exact Ye (okeNote.pl _ t ht)) (YE Y)) (VRunO.nil (vinB.n (tn (sq (sr (mO (T.os 4 1 0 ((l.map (Qa true)).length)) Y ?_)))))))))))
   refine cO (cS (us:= [(rd 4 Qa (l.set k x))]) (vc (tv (T.os 4 1 0 ((l.map (Qa true)).length)) Y) vn) (LendL.cons (Lend.os Y (by simp only [List.length_map,Qer,List.length_set]) (okeNote.fzMap _ _)) ln) (Qn (n+0) (l.set k x) (by first | exact hq1 _ | exact hq2 _ | assumption | omega)) Y Y) (fO (QZ (tv (tB (decide (Qb (l.set k x)))) Y)) (nt ?_))
   refine cn (Qb (l.set k x)) Y (fun fhc4=> ?_) fun fhc4=> ?_
   ·refine sr ?_
    refine mO (rd 4 Qa l) Y (cO (OC.callF (r':=(T.os 4 2 0 ((l.map (Qa true)).length))) (objs:= [(Obj.rows 4 (l.map (Qa true)))]) Y (vc (tv (rd 4 Qa l) Y) vn) (ZO Y) (Qk (n+2) l (by first | exact hq1 _ | exact hq2 _ | assumption | omega)) Y) (aO (T.os 4 2 0 ((l.map (Qa true)).length)) Y (nt (rt (tr ?_)))))
    refine vfin.eq (r':=(T.sl true 4 (l.map (Qa true)))) ?_ (vfin.r (VRes.tmp (t:=(T.os 4 2 0 ((l.map (Qa true)).length))) Y VRes.nil) (Give.os Y Y (okeNote.cleanMap _)))
    refine congrArg (fun l_=>T.sl true 4 (List.map (Qa true) l_)) ?_
    first
    | (exfalso;omega)
    | (exact (Qx ‹¬Qb l›).symm)
    | (have e:=Qy hI' (by omega);symm;first | exact Qe e fhc4 | exact Qd ‹Qb l› e fhc4)
    | (have e:=Qz hI' hx1 fhc0 fhc2;symm;first | exact Qe e fhc4 | exact Qd ‹Qb l› e fhc4)
    | (have e:=Q5 hI' hx1 (by omega) fhc3;symm;first | exact Qe e fhc4 | exact Qd ‹Qb l› e fhc4)
    | (exact (Qp (Qw hI' hx1 (by omega) (by rw [fhc3];decide))).symm)
   refine sk (tn (sr (mO (T.os 4 1 0 ((l.map (Qa true)).length)) Y (aO (T.os 4 1 0 ((l.map (Qa true)).length)) Y (nt (rt ?_))))))
   refine vfin.eq (r':=(T.sl true 4 ((l.set k x).map (Qa true)))) ?_ (vfin.r (VRes.tmp (t:=(T.os 4 1 0 ((l.map (Qa true)).length))) Y VRes.nil) (Give.os Y (by simp only [List.length_map,List.length_set]) (okeNote.cleanMap _)))
   refine congrArg (fun l_=>T.sl true 4 (List.map (Qa true) l_)) ?_
   first
   | (exfalso;omega)
   | (exact (Qx ‹¬Qb l›).symm)
   | (have e:=Qy hI' (by omega);symm;first | exact Qe e fhc4 | exact Qd ‹Qb l› e fhc4)
   | (have e:=Qz hI' hx1 fhc0 fhc2;symm;first | exact Qe e fhc4 | exact Qd ‹Qb l› e fhc4)
   | (have e:=Q5 hI' hx1 (by omega) fhc3;symm;first | exact Qe e fhc4 | exact Qd ‹Qb l› e fhc4)
   | (exact (Qp (Qw hI' hx1 (by omega) (by rw [fhc3];decide))).symm)
  have fhc3:(Qf x x1)=false:=hc3
  refine sk (vinB.n (tn (sq (sr (mO (T.os 4 1 0 ((l.map (Qa true)).length)) Y (cO (cS (us:= [(rd 4 Qa l)]) (vc (tv (T.os 4 1 0 ((l.map (Qa true)).length)) Y) vn) (LendL.cons (Lend.os Y Y (okeNote.fzMap _ _)) ln) (Qn (n+0) l (by first | exact hq1 _ | exact hq2 _ | assumption | omega)) Y Y) (fO (QZ (tv (tB (decide (Qb l))) Y)) (nt (cg (nz fhc1) Y (sk (tn ?_)))))))))))
  refine sr (mO (T.os 4 1 0 ((l.map (Qa true)).length)) Y (aO (T.os 4 1 0 ((l.map (Qa true)).length)) Y (nt (rt ?_))))
  refine vfin.eq (r':=(T.sl true 4 (l.map (Qa true)))) ?_ (vfin.r (VRes.tmp (t:=(T.os 4 1 0 ((l.map (Qa true)).length))) Y VRes.nil) (Give.os Y Y (okeNote.cleanMap _)))
  refine congrArg (fun l_=>T.sl true 4 (List.map (Qa true) l_)) ?_
  first
  | (exfalso;omega)
  | (exact (Qx ‹¬Qb l›).symm)
  | (have e:=Qy hI' (by omega);symm;first | exact Qe e fhc4 | exact Qd ‹Qb l› e fhc4)
  | (have e:=Qz hI' hx1 fhc0 fhc2;symm;first | exact Qe e fhc4 | exact Qd ‹Qb l› e fhc4)
  | (have e:=Q5 hI' hx1 (by omega) fhc3;symm;first | exact Qe e fhc4 | exact Qd ‹Qb l› e fhc4)
  | (exact (Qp (Qw hI' hx1 (by omega) (by rw [fhc3];decide))).symm)
 refine oD Y Y (dz fhg13_1) Y (oD Y Y (dz fhg13_1) Y (oD Y Y (dz fhg13_1) Y (oD Y Y (dz fhg13_1) Y (oD Y Y (dz fhg13_1) Y (oD Y Y (dz fhg13_1) Y (oD Y Y (dz fhg13_1) Y (oD Y Y (dz fhg13_1) Y (fD (OF.pickF (VEv.tmpB Y (dz fhg13_1)) (VEv.bool false)) Y Y (VRunD.nil (tn (cf Y ?_)))))))))))
 refine VRun.exit (vthn.e (vthn.e (vinB.e (tn (sq (VRun.block (sr (mO (rd 4 Qa l) Y (cO (cS (vc (tv (rd 4 Qa l) Y) vn) (ZO Y) (Qn (n+0) l (by first | exact hq1 _ | exact hq2 _ | assumption | omega)) Y Y) (fO (QZ (tv (tB (decide (Qb l))) Y)) (aO (tB (!(decide (Qb l)))) Y ?_)))))))))))
 refine nt ?_
 refine cn (Qb l) Y (fun fhc1=> ?_) fun fhc1=> ?_
 ·refine sk ?_
  refine vinB.n (tn (sq (sr (mO (T.os 4 1 0 ((l.map (Qa true)).length)) Y (cO (cS (us:= [(rd 4 Qa l)]) (vc (tv (T.os 4 1 0 ((l.map (Qa true)).length)) Y) vn) (LendL.cons (Lend.os Y Y (okeNote.fzMap _ _)) ln) (Qn (n+0) l (by first | exact hq1 _ | exact hq2 _ | assumption | omega)) Y Y) (fO (QZ (tv (tB (decide (Qb l))) Y)) (nt (ck (ny fhc1) Y (sr (mO (rd 4 Qa l) Y (cO (OC.callF (r':=(T.os 4 2 0 ((l.map (Qa true)).length))) (objs:= [(Obj.rows 4 (l.map (Qa true)))]) Y (vc (tv (rd 4 Qa l) Y) vn) (ZO Y) (Qk (n+2) l (by first | exact hq1 _ | exact hq2 _ | assumption | omega)) Y) ?_)))))))))))
  refine aO (T.os 4 2 0 ((l.map (Qa true)).length)) Y (nt (rt (tr ?_)))
  refine vfin.eq (r':=(T.sl true 4 (l.map (Qa true)))) ?_ (vfin.r (VRes.tmp (t:=(T.os 4 2 0 ((l.map (Qa true)).length))) Y VRes.nil) (Give.os Y Y (okeNote.cleanMap _)))
  refine congrArg (fun l_=>T.sl true 4 (List.map (Qa true) l_)) ?_
  first
  | (exfalso;omega)
  | (exact (Qx ‹¬Qb l›).symm)
  | (have e:=Qy hI' (by omega);symm;first | exact Qe e fhc4 | exact Qd ‹Qb l› e fhc4)
  | (have e:=Qz hI' hx1 fhc0 fhc2;symm;first | exact Qe e fhc4 | exact Qd ‹Qb l› e fhc4)
  | (have e:=Q5 hI' hx1 (by omega) fhc3;symm;first | exact Qe e fhc4 | exact Qd ‹Qb l› e fhc4)
  | (exact (Qp (Qw hI' hx1 (by omega) (by rw [fhc3];decide))).symm)
 refine sq (VRun.draw (B:= [[],[],[1],[1,2,0],[0,2,1,3],[3,1,2,0,4],[3,1,2,0,4],[6,4,0,2,1,3,5],[5,3,1,2,0,4,6,7],[7,6,4,0,2,1,3,5,8],[3,1,2,0,4],[4,0,2,1,3,10],[10,11,8,5,3,1,2,0,4,6,7,9],[9,7,6,5,8,11,10,12,3,1,2,0,4],[4,0,2,1,3,12,10,11,8,5,6,7,9,13]]) (by kernel_rfl) (by kernel_rfl) Y (mD (tN k) Y Y (mD (rd 4 Qa l) Y Y (lD (B.lenR (m:=l.length) (tv (rd 4 Qa l) Y) QJ (List.length_map ..)) Y Y (fD (Qf4 (tv (tN k) Y) (tv (tN l.length) Y)) Y Y (mD (tB (decide (k=l.length))) Y Y ?_))))))
 refine gw (k=l.length) (fun fhg34_3=> ?_) fun fhg34_3=> ?_
 ·refine oD Y Y (dy fhg34_3) Y ?_
  refine oD Y Y (dy fhg34_3) Y (oD Y Y (dy fhg34_3) Y (oD Y Y (dy fhg34_3) Y (oD Y Y (dy fhg34_3) Y (oD Y Y (dy fhg34_3) Y (oD Y Y (dy fhg34_3) Y (oD Y Y (dy fhg34_3) Y (fD (OF.pickT (VEv.tmpB Y (dy fhg34_3)) (VEv.bool true)) Y Y (fD (OF.assign (tv (tB true) Y)) Y Y (VRunD.nil (tn (ct Y ?_)))))))))))
  refine VRun.region (mO (T.os 4 1 0 ((l.map (Qa true)).length)) Y (mO (tN k) Y (lO (OL.loadOn (us:=(Qa false x)) (tv (T.op 0 0) Y) Y Q6 Qh (lb Y) Y) (kO (OM.buildSlice (l:= [(T.agg (Qa false x))]) (VEvp.cons (tv (T.agg (Qa false x)) Y) VEvp.nil) Y (by decide) (bc (nofun) bn) (bc ((bc (Y) (bc (Y) (bc (Y) (bc (Y) bn))))) bn) (bc (Y) bn) QJ QL (by kernel_rfl) Y (by rw [Qh];decide) Qh (Nat.le_of_ble_eq_true Y)) (cO (B.insert (rows:=(l.map (Qa true))) (r:= [(tI x.Cell),(tS x.Letter),(tI x.Tick),(tI x.Who)]) (rows3:=((l.take k++x::l.drop k).map (Qa true))) (i:=k) Y Y Y (VDst.own (tv (T.os 4 1 0 ((l.map (Qa true)).length)) Y) Y Y) (tv (tN k) Y) Y (VDst.own (tv (T.os 4 2 0 1) Y) Y Y) (by decide) (Qee (fun _=>rfl) _) (bc (bc Y (bc Y (bc Y (bc Y bn)))) bn) (okeNote.okMap _ _) (bc Y (bc Y (bc Y (bc Y bn)))) (by decide) (by decide) (by first | exact hq1 _ | exact hq2 _ | omega | (simp only [List.length_map];omega) | (simp only [List.length_map,List.length_append,List.length_cons,List.length_nil,List.length_replicate,List.length_set,List.length_drop,List.length_take,Zh] at *;omega)) (by first | exact hq1 _ | exact hq2 _ | omega | (simp only [List.length_map];omega) | (simp only [List.length_map,List.length_append,List.length_cons,List.length_nil,List.length_replicate,List.length_set,List.length_drop,List.length_take,Zh] at *;omega)) (by rw [List.map_append,List.map_cons,List.map_take,List.map_drop];rfl)) (aO (T.os 4 3 0 (((l.take k++x::l.drop k).map (Qa true)).length)) Y (VRunO.nil (vinB.n (tn (sq (sr ?_)))))))))))
  refine mO (T.os 4 3 0 (((l.take k++x::l.drop k).map (Qa true)).length)) Y (cO (cS (us:= [(rd 4 Qa (l.take k++x::l.drop k))]) (vc (tv (T.os 4 3 0 (((l.take k++x::l.drop k).map (Qa true)).length)) Y) vn) (LendL.cons (Lend.os Y Y (okeNote.fzMap _ _)) ln) (Qn (n+0) (l.take k++x::l.drop k) (by first | exact hq1 _ | exact hq2 _ | assumption | omega)) Y Y) (fO (QZ (tv (tB (decide (Qb (l.take k++x::l.drop k)))) Y)) (nt ?_)))
  refine cn (Qb (l.take k++x::l.drop k)) Y (fun fhc4=> ?_) fun fhc4=> ?_
  ·refine sr ?_
   refine mO (rd 4 Qa l) Y (cO (OC.callF (r':=(T.os 4 4 0 ((l.map (Qa true)).length))) (objs:= [(Obj.rows 4 (l.map (Qa true)))]) Y (vc (tv (rd 4 Qa l) Y) vn) (ZO Y) (Qk (n+2) l (by first | exact hq1 _ | exact hq2 _ | assumption | omega)) Y) (aO (T.os 4 4 0 ((l.map (Qa true)).length)) Y (nt (rt (tr ?_)))))
   refine vfin.eq (r':=(T.sl true 4 (l.map (Qa true)))) ?_ (vfin.r (VRes.tmp (t:=(T.os 4 4 0 ((l.map (Qa true)).length))) Y VRes.nil) (Give.os Y Y (okeNote.cleanMap _)))
   refine congrArg (fun l_=>T.sl true 4 (List.map (Qa true) l_)) ?_
   first
   | (exfalso;omega)
   | (exact (Qx ‹¬Qb l›).symm)
   | (have e:=Qy hI' (by omega);symm;first | exact Qe e fhc4 | exact Qd ‹Qb l› e fhc4)
   | (have e:=Qz hI' hx1 fhc0 fhc2;symm;first | exact Qe e fhc4 | exact Qd ‹Qb l› e fhc4)
   | (have e:=Q5 hI' hx1 (by omega) fhc3;symm;first | exact Qe e fhc4 | exact Qd ‹Qb l› e fhc4)
   | (exact (Qp (Qw hI' hx1 (by omega) (by rw [fhc3];decide))).symm)
  refine sk (tn (sr (mO (T.os 4 3 0 (((l.take k++x::l.drop k).map (Qa true)).length)) Y (aO (T.os 4 3 0 (((l.take k++x::l.drop k).map (Qa true)).length)) Y (nt (rt ?_))))))
  refine vfin.eq (r':=(T.sl true 4 ((l.take k++x::l.drop k).map (Qa true)))) ?_ (vfin.r (VRes.tmp (t:=(T.os 4 3 0 (((l.take k++x::l.drop k).map (Qa true)).length))) Y VRes.nil) (Give.os Y Y (okeNote.cleanMap _)))
  refine congrArg (fun l_=>T.sl true 4 (List.map (Qa true) l_)) ?_
  first
  | (exfalso;omega)
  | (exact (Qx ‹¬Qb l›).symm)
  | (have e:=Qy hI' (by omega);symm;first | exact Qe e fhc4 | exact Qd ‹Qb l› e fhc4)
  | (have e:=Qz hI' hx1 fhc0 fhc2;symm;first | exact Qe e fhc4 | exact Qd ‹Qb l› e fhc4)
  | (have e:=Q5 hI' hx1 (by omega) fhc3;symm;first | exact Qe e fhc4 | exact Qd ‹Qb l› e fhc4)
  | (exact (Qp (Qw hI' hx1 (by omega) (by rw [fhc3];decide))).symm)
 refine VRunD.free Y (VWant.on Y Y (dz fhg34_3)) Y (OF.move (tv (rd 4 Qa l) Y)) (VRunD.free Y (VWant.on Y Y (dz fhg34_3)) Y (OF.move (tv (tN k) Y)) ?_)
 obtain ⟨x1,hx1⟩:∃x,l[k]? =some x:=⟨_,List.getElem?_eq_getElem (by first | exact hq1 _ | exact hq2 _ | omega)⟩
 refine VRunD.free Y (VWant.on Y Y (dz fhg34_3)) Y (OF.indexAddrR (row:=(Qa false x1)) (i:=k) (tv (rd 4 Qa l) Y) (tv (tN k) Y) Y (QR _ hx1) QJ Qh Q7) (VRunD.free Y (VWant.on Y Y (dz fhg34_3)) Y (B.fieldAddrR (us:=(Qa false x1)) (tv (T.rp (Qa false x1)) Y) (lb Y) Ze Y) (VRunD.look Y (VWant.on Y Y (dz fhg34_3)) Y (OL.loadR1 (t:=(tI x1.Cell)) (tv (T.rp (Qa false x1)) Y) Y Zo) (VRunD.free Y (VWant.on Y Y (dz fhg34_3)) Y (OF.fieldAddrO (tv (T.op 0 0) Y) Ze) (VRunD.look Y (VWant.on Y Y (dz fhg34_3)) Y (OL.loadO1 (t:=(tI x.Cell)) (tv (T.op 0 0) Y) Y Y Zo) (VRunD.free Y (VWant.on Y Y (dz fhg34_3)) Y (xne (tv (tI x1.Cell) Y) (tv (tI x.Cell) Y)) (fD (OF.pickF (VEv.tmpB Y (dz fhg34_3)) (tv (tB (!(decide (x1.Cell=x.Cell)))) Y)) Y Y (fD (OF.assign (tv (tB (!(decide (x1.Cell=x.Cell)))) Y)) Y Y (VRunD.nil (tn ?_)))))))))
 refine cn (x1.Cell=x.Cell) Y (fun fhc2=> ?_) fun fhc2=> ?_
 ·refine VRun.region ?_
  refine mO (T.os 4 1 0 ((l.map (Qa true)).length)) Y (mO (tN k) Y (lO (OL.loadOn (us:=(Qa false x)) (tv (T.op 0 0) Y) Y Q6 Qh (lb Y) Y) (kO (OM.buildSlice (l:= [(T.agg (Qa false x))]) (VEvp.cons (tv (T.agg (Qa false x)) Y) VEvp.nil) Y (by decide) (bc (nofun) bn) (bc ((bc (Y) (bc (Y) (bc (Y) (bc (Y) bn))))) bn) (bc (Y) bn) QJ QL (by kernel_rfl) Y (by rw [Qh];decide) Qh (Nat.le_of_ble_eq_true Y)) (cO (B.insert (rows:=(l.map (Qa true))) (r:= [(tI x.Cell),(tS x.Letter),(tI x.Tick),(tI x.Who)]) (rows3:=((l.take k++x::l.drop k).map (Qa true))) (i:=k) Y Y Y (VDst.own (tv (T.os 4 1 0 ((l.map (Qa true)).length)) Y) Y Y) (tv (tN k) Y) Y (VDst.own (tv (T.os 4 2 0 1) Y) Y Y) (by decide) (Qee (fun _=>rfl) _) (bc (bc Y (bc Y (bc Y (bc Y bn)))) bn) (okeNote.okMap _ _) (bc Y (bc Y (bc Y (bc Y bn)))) (by decide) (by decide) (by first | exact hq1 _ | exact hq2 _ | omega | (simp only [List.length_map];omega) | (simp only [List.length_map,List.length_append,List.length_cons,List.length_nil,List.length_replicate,List.length_set,List.length_drop,List.length_take,Zh] at *;omega)) (by first | exact hq1 _ | exact hq2 _ | omega | (simp only [List.length_map];omega) | (simp only [List.length_map,List.length_append,List.length_cons,List.length_nil,List.length_replicate,List.length_set,List.length_drop,List.length_take,Zh] at *;omega)) (by rw [List.map_append,List.map_cons,List.map_take,List.map_drop];rfl)) (aO (T.os 4 3 0 (((l.take k++x::l.drop k).map (Qa true)).length)) Y (VRunO.nil (vinB.n (tn (sq (sr (mO (T.os 4 3 0 (((l.take k++x::l.drop k).map (Qa true)).length)) Y ?_)))))))))))
  refine cO (cS (us:= [(rd 4 Qa (l.take k++x::l.drop k))]) (vc (tv (T.os 4 3 0 (((l.take k++x::l.drop k).map (Qa true)).length)) Y) vn) (LendL.cons (Lend.os Y Y (okeNote.fzMap _ _)) ln) (Qn (n+0) (l.take k++x::l.drop k) (by first | exact hq1 _ | exact hq2 _ | assumption | omega)) Y Y) (fO (QZ (tv (tB (decide (Qb (l.take k++x::l.drop k)))) Y)) (nt ?_))
  refine cn (Qb (l.take k++x::l.drop k)) Y (fun fhc4=> ?_) fun fhc4=> ?_
  ·refine sr ?_
   refine mO (rd 4 Qa l) Y (cO (OC.callF (r':=(T.os 4 4 0 ((l.map (Qa true)).length))) (objs:= [(Obj.rows 4 (l.map (Qa true)))]) Y (vc (tv (rd 4 Qa l) Y) vn) (ZO Y) (Qk (n+2) l (by first | exact hq1 _ | exact hq2 _ | assumption | omega)) Y) (aO (T.os 4 4 0 ((l.map (Qa true)).length)) Y (nt (rt (tr ?_)))))
   refine vfin.eq (r':=(T.sl true 4 (l.map (Qa true)))) ?_ (vfin.r (VRes.tmp (t:=(T.os 4 4 0 ((l.map (Qa true)).length))) Y VRes.nil) (Give.os Y Y (okeNote.cleanMap _)))
   refine congrArg (fun l_=>T.sl true 4 (List.map (Qa true) l_)) ?_
   first
   | (exfalso;omega)
   | (exact (Qx ‹¬Qb l›).symm)
   | (have e:=Qy hI' (by omega);symm;first | exact Qe e fhc4 | exact Qd ‹Qb l› e fhc4)
   | (have e:=Qz hI' hx1 fhc0 fhc2;symm;first | exact Qe e fhc4 | exact Qd ‹Qb l› e fhc4)
   | (have e:=Q5 hI' hx1 (by omega) fhc3;symm;first | exact Qe e fhc4 | exact Qd ‹Qb l› e fhc4)
   | (exact (Qp (Qw hI' hx1 (by omega) (by rw [fhc3];decide))).symm)
  refine sk (tn (sr (mO (T.os 4 3 0 (((l.take k++x::l.drop k).map (Qa true)).length)) Y (aO (T.os 4 3 0 (((l.take k++x::l.drop k).map (Qa true)).length)) Y (nt (rt ?_))))))
  refine vfin.eq (r':=(T.sl true 4 ((l.take k++x::l.drop k).map (Qa true)))) ?_ (vfin.r (VRes.tmp (t:=(T.os 4 3 0 (((l.take k++x::l.drop k).map (Qa true)).length))) Y VRes.nil) (Give.os Y Y (okeNote.cleanMap _)))
  refine congrArg (fun l_=>T.sl true 4 (List.map (Qa true) l_)) ?_
  first
  | (exfalso;omega)
  | (exact (Qx ‹¬Qb l›).symm)
  | (have e:=Qy hI' (by omega);symm;first | exact Qe e fhc4 | exact Qd ‹Qb l› e fhc4)
  | (have e:=Qz hI' hx1 fhc0 fhc2;symm;first | exact Qe e fhc4 | exact Qd ‹Qb l› e fhc4)
  | (have e:=Q5 hI' hx1 (by omega) fhc3;symm;first | exact Qe e fhc4 | exact Qd ‹Qb l› e fhc4)
  | (exact (Qp (Qw hI' hx1 (by omega) (by rw [fhc3];decide))).symm)
 refine sq (VRun.draw (B:= [[],[],[],[2,1],[1,2,3],[3,2,1,4,0],[0,4,1,2,3,5]]) (by kernel_rfl) (by kernel_rfl) Y (lD (OL.loadOn (us:=(Qa false x)) (tv (T.op 0 0) Y) Y Q6 Qh (lb Y) Y) Y Y (mD (rd 4 Qa l) Y Y (mD (tN k) Y Y (fD (OF.indexAddrR (row:=(Qa false x1)) (i:=k) (tv (rd 4 Qa l) Y) (tv (tN k) Y) Y (QR _ hx1) QJ Qh Q7) Y Y (lD (OL.loadRn (us:=(Qa false x1)) (tv (T.rp (Qa false x1)) Y) Q6 Qh (lb Y) Y) Y Y (VRunD.quiet (bi:= [3,2,1,4,0]) Y VWant.always Y Y Y bn (cS (vc (tv (T.agg (Qa false x)) Y) (vc (tv (T.agg (Qa false x1)) Y) vn)) (LendL.cons (lg okeNote) (LendL.cons (lg okeNote) ln)) (QF (n+2) x x1) Y Y) (fD (OF.assign (tv (tB (Qf x x1)) Y)) Y Y (VRunD.nil (tn ?_))))))))))
 refine VRun.cond (tv (tB (Qf x x1)) Y) (fun hc3=> ?_) (fun hc3=> ?_)
 ·have fhc3:(Qf x x1)=true:=hc3
  refine VRun.region (mO (T.os 4 1 0 ((l.map (Qa true)).length)) Y (mO (tN k) Y (lO (OL.loadOn (us:=(Qa false x)) (tv (T.op 0 0) Y) Y Q6 Qh (lb Y) Y) (fO (B.indexAddrO (i:=k) (tv (T.os 4 1 0 ((l.map (Qa true)).length)) Y) (tv (tN k) Y) Y (by first | exact hq1 _ | exact hq2 _ | omega | (simp only [List.length_map];omega) | (simp only [List.length_map,List.length_append,List.length_cons,List.length_nil,List.length_replicate,List.length_set,List.length_drop,List.length_take,Zh] at *;omega)) QJ Qh Q7) (cO (B.storeP (us:=(Qa false x)) (rows':=((l.set k x).map (Qa true))) (row:=(Qa true x1)) (tv (T.orp 4 1 k 0) Y) (tv (T.agg (Qa false x)) Y) nofun Y (QR _ hx1) Y (lb Y) Q7 Qh (bc Y (bc Y (bc Y (bc Y bn)))) (by intro r hr t ht;obtain ⟨x,_,rfl⟩:=List.mem_map.1 hr;rw [QaS] at ht;exact Ye (okeNote.pl _ t ht)) (YE Y)) (VRunO.nil (vinB.n (tn (sq (sr (mO (T.os 4 1 0 ((l.map (Qa true)).length)) Y ?_)))))))))))
  refine cO (cS (us:= [(rd 4 Qa (l.set k x))]) (vc (tv (T.os 4 1 0 ((l.map (Qa true)).length)) Y) vn) (LendL.cons (Lend.os Y (by simp only [List.length_map,Qer,List.length_set]) (okeNote.fzMap _ _)) ln) (Qn (n+0) (l.set k x) (by first | exact hq1 _ | exact hq2 _ | assumption | omega)) Y Y) (fO (QZ (tv (tB (decide (Qb (l.set k x)))) Y)) (nt ?_))
  refine cn (Qb (l.set k x)) Y (fun fhc4=> ?_) fun fhc4=> ?_
  ·refine sr ?_
   refine mO (rd 4 Qa l) Y (cO (OC.callF (r':=(T.os 4 2 0 ((l.map (Qa true)).length))) (objs:= [(Obj.rows 4 (l.map (Qa true)))]) Y (vc (tv (rd 4 Qa l) Y) vn) (ZO Y) (Qk (n+2) l (by first | exact hq1 _ | exact hq2 _ | assumption | omega)) Y) (aO (T.os 4 2 0 ((l.map (Qa true)).length)) Y (nt (rt (tr ?_)))))
   refine vfin.eq (r':=(T.sl true 4 (l.map (Qa true)))) ?_ (vfin.r (VRes.tmp (t:=(T.os 4 2 0 ((l.map (Qa true)).length))) Y VRes.nil) (Give.os Y Y (okeNote.cleanMap _)))
   refine congrArg (fun l_=>T.sl true 4 (List.map (Qa true) l_)) ?_
   first
   | (exfalso;omega)
   | (exact (Qx ‹¬Qb l›).symm)
   | (have e:=Qy hI' (by omega);symm;first | exact Qe e fhc4 | exact Qd ‹Qb l› e fhc4)
   | (have e:=Qz hI' hx1 fhc0 fhc2;symm;first | exact Qe e fhc4 | exact Qd ‹Qb l› e fhc4)
   | (have e:=Q5 hI' hx1 (by omega) fhc3;symm;first | exact Qe e fhc4 | exact Qd ‹Qb l› e fhc4)
   | (exact (Qp (Qw hI' hx1 (by omega) (by rw [fhc3];decide))).symm)
  refine sk (tn (sr (mO (T.os 4 1 0 ((l.map (Qa true)).length)) Y (aO (T.os 4 1 0 ((l.map (Qa true)).length)) Y (nt (rt ?_))))))
  refine vfin.eq (r':=(T.sl true 4 ((l.set k x).map (Qa true)))) ?_ (vfin.r (VRes.tmp (t:=(T.os 4 1 0 ((l.map (Qa true)).length))) Y VRes.nil) (Give.os Y (by simp only [List.length_map,List.length_set]) (okeNote.cleanMap _)))
  refine congrArg (fun l_=>T.sl true 4 (List.map (Qa true) l_)) ?_
  first
  | (exfalso;omega)
  | (exact (Qx ‹¬Qb l›).symm)
  | (have e:=Qy hI' (by omega);symm;first | exact Qe e fhc4 | exact Qd ‹Qb l› e fhc4)
  | (have e:=Qz hI' hx1 fhc0 fhc2;symm;first | exact Qe e fhc4 | exact Qd ‹Qb l› e fhc4)
  | (have e:=Q5 hI' hx1 (by omega) fhc3;symm;first | exact Qe e fhc4 | exact Qd ‹Qb l› e fhc4)
  | (exact (Qp (Qw hI' hx1 (by omega) (by rw [fhc3];decide))).symm)
 have fhc3:(Qf x x1)=false:=hc3
 refine sk (vinB.n (tn (sq (sr (mO (T.os 4 1 0 ((l.map (Qa true)).length)) Y (cO (cS (us:= [(rd 4 Qa l)]) (vc (tv (T.os 4 1 0 ((l.map (Qa true)).length)) Y) vn) (LendL.cons (Lend.os Y Y (okeNote.fzMap _ _)) ln) (Qn (n+0) l (by first | exact hq1 _ | exact hq2 _ | assumption | omega)) Y Y) (fO (QZ (tv (tB (decide (Qb l))) Y)) (nt (cg (nz fhc1) Y (sk (tn ?_)))))))))))
 refine sr (mO (T.os 4 1 0 ((l.map (Qa true)).length)) Y (aO (T.os 4 1 0 ((l.map (Qa true)).length)) Y (nt (rt ?_))))
 refine vfin.eq (r':=(T.sl true 4 (l.map (Qa true)))) ?_ (vfin.r (VRes.tmp (t:=(T.os 4 1 0 ((l.map (Qa true)).length))) Y VRes.nil) (Give.os Y Y (okeNote.cleanMap _)))
 refine congrArg (fun l_=>T.sl true 4 (List.map (Qa true) l_)) ?_
 first
 | (exfalso;omega)
 | (exact (Qx ‹¬Qb l›).symm)
 | (have e:=Qy hI' (by omega);symm;first | exact Qe e fhc4 | exact Qd ‹Qb l› e fhc4)
 | (have e:=Qz hI' hx1 fhc0 fhc2;symm;first | exact Qe e fhc4 | exact Qd ‹Qb l› e fhc4)
 | (have e:=Q5 hI' hx1 (by omega) fhc3;symm;first | exact Qe e fhc4 | exact Qd ‹Qb l› e fhc4)
 | (exact (Qp (Qw hI' hx1 (by omega) (by rw [fhc3];decide))).symm)
theorem ZC (n:Nat) (a:List D.Note) (b:List D.Note) (hz:zL Qo a+zL Qo b≤2*mx):Pure (QA Tryd.prog (n+5)) 20 [(rd 4 Qa a),(rd 4 Qa b)] (T.sl true 4 ((Qc a b).map (Qa true))):=by
 refine Pure.intro (rs:= [ResultVar.tmp 4]) Tryd.func20 Y Y Y (E0:= [(0,(rd 4 Qa a)),(1,(rd 4 Qa b))]) Y ?_
 obtain ⟨hlim,hmx,hmax⟩:=Zk
 have hla:=ZV (z:=Qo) a
 have hlb:=ZV (z:=Qo) b
 refine sr (fO (OF.assign VEv.nils) (nt (sq (sr (mO (rd 4 Qa a) Y (cO (cS (vc (tv (rd 4 Qa a) Y) vn) (ZO Y) (Qn (n+1) a (by first | exact Y9 hz hx1 | assumption | omega)) Y Y) (fO (QZ (tv (tB (decide (Qb a))) Y)) (mO (tB (!(decide (Qb a)))) Y ?_))))))))
 refine gn (Qb a) (fun fhg11_1=> ?_) fun fhg11_1=> ?_
 ·refine Q2 3 3 false 11 (ny fhg11_1) Y Y Y ?_
  refine fO (OF.pickT (VEv.tmpB Y (ny fhg11_1)) (VEv.bool true)) (nt (ct Y (sr (fO (OF.assign VEv.nils) (nt (rt (tr ?_)))))))
  refine vfin.eq (r':=(T.sl true 4 [])) ?_ (vfin.r (VRes.tmp (t:=T.nils) Y VRes.nil) (Give.nils 4))
  refine congrArg (fun l_=>T.sl true 4 (List.map (Qa true) l_)) (a₁:= []) ?_
  first | (exact (Zy (.inl ‹¬Qb a›)).symm) | (exact (Zy (.inr ‹¬Qb b›)).symm) | (rw [Jm ‹Qb a› ‹Qb b›,List.take_of_length_le (by omega)])
 refine gF (nz fhg11_1) Y Y (OF.move (tv (rd 4 Qa b) Y)) (VRunO.chain (VWant.on Y Y (nz fhg11_1)) (cS (vc (tv (rd 4 Qa b) Y) vn) (ZO Y) (Qn (n+1) b (by first | exact Y9 hz hx1 | assumption | omega)) Y Y) (gF (nz fhg11_1) Y Y (QZ (tv (tB (decide (Qb b))) Y)) (fO (OF.pickF (VEv.tmpB Y (nz fhg11_1)) (tv (tB (!(decide (Qb b)))) Y)) (nt ?_))))
 refine cn (Qb b) Y (fun fhc0=> ?_) fun fhc0=> ?_
 ·refine sr ?_
  refine fO (OF.assign VEv.nils) (nt (rt (tr ?_)))
  refine vfin.eq (r':=(T.sl true 4 [])) ?_ (vfin.r (VRes.tmp (t:=T.nils) Y VRes.nil) (Give.nils 4))
  refine congrArg (fun l_=>T.sl true 4 (List.map (Qa true) l_)) (a₁:= []) ?_
  first | (exact (Zy (.inl ‹¬Qb a›)).symm) | (exact (Zy (.inr ‹¬Qb b›)).symm) | (rw [Jm ‹Qb a› ‹Qb b›,List.take_of_length_le (by omega)])
 refine sk (tn (sr (mO (rd 4 Qa a) Y (cO (OC.callF (r':=(T.os 4 0 0 ((a.map (Qa true)).length))) (objs:= [(Obj.rows 4 (a.map (Qa true)))]) Y (vc (tv (rd 4 Qa a) Y) vn) (ZO Y) (Qk (n+3) a (by first | exact Y9 hz hx1 | assumption | omega)) Y) (aO (T.os 4 0 0 ((a.map (Qa true)).length)) Y (nt (sq (sr (mO (rd 4 Qa b) Y (lO (B.lenR (m:=b.length) (tv (rd 4 Qa b) Y) QJ (List.length_map ..)) (fO (OF.move (VEv.int .i64 0)) ?_)))))))))))
 refine nt (VRun.block ?_)
 have he2:a=(b.take 0).foldl QP a:=by first | rfl | (exact QbX hx1) | (simp;done) | omega
 refine VRun.loop (A:=Nat) (fun s_=> [(4,T.nils),(5,(T.os 4 0 0 ((((b.take s_).foldl QP a).map (Qa true)).length))),(18,(rd 4 Qa b)),(19,(tN b.length)),(20,(tN s_))]) (fun s_=>Jw [(0,(Obj.rows 4 (((b.take s_).foldl QP a).map (Qa true))))]) 1 (fun s_=>s_≤b.length) (fun s_=>b.length - s_) (0:Nat) ?_ (Wk.mk (fun k=>k) ?_ ?_ ?_) ?_
 ·first | trivial | (simp;done) | omega | (constructor<;>simp)
 ·exact (b2 (bc ⟨(congrArg (fun l_=>T.os 4 0 0 (List.map (Qa true) l_).length) he2),rfl⟩ (b2 (b2 (b2 bn)))))
 ·exact (bc ⟨(congrArg (fun l_=>some (Obj.rows 4 (List.map (Qa true) l_))) he2),(lb Y),rfl⟩ bn)
 ·exact nd Y
 rintro i (hI':i≤b.length)
 show VRun _ _ _ [(4,T.nils),(5,(T.os 4 0 0 ((((b.take i).foldl QP a).map (Qa true)).length))),(18,(rd 4 Qa b)),(19,(tN b.length)),(20,(tN i))] (Jw [(0,(Obj.rows 4 (((b.take i).foldl QP a).map (Qa true))))]) 1 _
 have hI1:=hI'
 have hfz:=Qbo a (b.take i)
 have hbz:=Qbz (z:=Qo) b i
 refine sr (fO (Jx (tv (tN i) Y) (tv (tN b.length) Y)) (nt (sq ?_)))
 refine cd (i<b.length) Y (fun fhc1=> ?_) fun fhc1=> ?_
 ·refine sk ?_
  refine tn (sq (VRun.block (sr ?_)))
  obtain ⟨x1,hx1⟩:∃x,b[i]? =some x:=⟨_,List.getElem?_eq_getElem (by first | exact Y9 hz hx1 | omega)⟩
  refine fO (OF.indexAddrR (row:=(Qa false x1)) (i:=i) (tv (rd 4 Qa b) Y) (tv (tN i) Y) Y (QR _ hx1) QJ Qh Q7) (lO (OL.loadRn (us:=(Qa false x1)) (tv (T.rp (Qa false x1)) Y) Q6 Qh (lb Y) Y) (kO (B.alloc (t:=(T.agg [(tN 0),(tS ByteArray.empty),(tN 0),(tN 0)])) (ts:= [(tN 0),(tS ByteArray.empty),(tN 0),(tN 0)]) QL Qbm nofun (fun _=> .agg _ _ Y (Z8 (RL.cons (.int _ _) (RL.cons (.str _) (RL.cons (.int _ _) (RL.cons (.int _ _) (RL.nil _))))))) Y) (cO (B.storeW (us:=(Qa false x1)) (tv (T.op 1 0) Y) (tv (T.agg (Qa false x1)) Y) nofun Y Y Y Q7 Qh (bc Y (bc Y (bc Y (bc Y bn))))) (nt (VRun.region (mO (T.os 4 0 0 ((((b.take i).foldl QP a).map (Qa true)).length)) Y (lO (OL.loadOn (us:=(Qa false x1)) (tv (T.op 1 0) Y) Y Q6 Qh (lb Y) Y) (cO (OC.callF (us:= [(rd 4 Qa ((b.take i).foldl QP a)),(T.agg (Qa false x1))]) (r':=(T.os 4 2 0 (((QP ((b.take i).foldl QP a) x1).map (Qa true)).length))) (objs:= [(Obj.rows 4 ((QP ((b.take i).foldl QP a) x1).map (Qa true)))]) Y (vc (tv (T.os 4 0 0 ((((b.take i).foldl QP a).map (Qa true)).length)) Y) (vc (tv (T.agg (Qa false x1)) Y) vn)) (LendL.cons (Lend.os Y Y (okeNote.fzMap _ _)) (LendL.cons (lg okeNote) ln)) (Qbj (n+0) ((b.take i).foldl QP a) x1 (by first | exact Y9 hz hx1 | assumption | omega)) Y) (aO (T.os 4 2 0 (((QP ((b.take i).foldl QP a) x1).map (Qa true)).length)) Y (VRunO.nil (vinB.n ?_)))))))))))
  refine tn (VRun.region (fO (ZB (tv (tN i) Y) (VEv.int .i64 1) (by first | exact Y9 hz hx1 | omega)) (mO (tN (i+1)) Y (VRunO.nil (tn ?_)))))
  have he3:QP ((b.take i).foldl QP a) x1=(b.take (i+1)).foldl QP a:=by first | rfl | (exact QbX hx1) | (simp;done) | omega
  refine ⟨(i+1:Nat),?_,?_,Wk.mk (fun k=>if k=0 then 2 else k) ?_ ?_ ?_⟩
  ·first | trivial | omega | (simp;done) | exact ⟨by omega,hI'.2⟩
  ·first | omega | (simp only [];omega) | (show _<_;omega) | (simp;omega)
  ·exact (b2 (bc ⟨(congrArg (fun l_=>T.os 4 2 0 (List.map (Qa true) l_).length) he3),rfl⟩ (b2 (b2 (b2 bn)))))
  ·exact (bc ⟨(congrArg (fun l_=>some (Obj.rows 4 (List.map (Qa true) l_))) he3),(lb Y),rfl⟩ bn)
  ·exact nd Y
 refine VRun.exit (vthn.e (vthn.e (vinB.e (tn (sr (mO (T.os 4 0 0 ((((b.take i).foldl QP a).map (Qa true)).length)) Y (aO (T.os 4 0 0 ((((b.take i).foldl QP a).map (Qa true)).length)) Y (nt (rt ?_)))))))))
 refine vfin.eq (r':=(T.sl true 4 (((b.take i).foldl QP a).map (Qa true)))) ?_ (vfin.r (VRes.tmp (t:=(T.os 4 0 0 ((((b.take i).foldl QP a).map (Qa true)).length))) Y VRes.nil) (Give.os Y Y (okeNote.cleanMap _)))
 refine congrArg (fun l_=>T.sl true 4 (List.map (Qa true) l_)) ?_
 first | (exact (Zy (.inl ‹¬Qb a›)).symm) | (exact (Zy (.inr ‹¬Qb b›)).symm) | (rw [Jm ‹Qb a› ‹Qb b›,List.take_of_length_le (by omega)])
theorem QcH {e k:Int} (h0:0≤e) (hk:0<k):0≤e.tmod k∧e.tmod k<k:=by
 rw [Int.tmod_eq_emod_of_nonneg h0]
 exact ⟨Int.emod_nonneg e (show k≠0 by omega),Int.emod_lt_of_pos e hk⟩
theorem Jg (n:Nat) (code:List Int) (hcl:code.length≤mx):NewC (QA Tryd.prog (n+1)) 29 (rd 1 Qj code):=by
 refine NewC.intro (rs:= [ResultVar.tmp 2]) Tryd.func29 Y Y Y (fun pb nb mb=> ?_)
 obtain ⟨hlim,hmx,hmax⟩:=Zk
 show VRun _ _ _ [(0,(T.ex pb nb mb (rd 1 Qj code)))] [] 0 _
 refine sr (fO (OF.assign VEv.ptr0) (nt (sr (mO (T.ex pb nb mb (rd 1 Qj code)) Y (lO (B.lenR (m:=code.length) (VEv.unex (tv (T.ex pb nb mb (rd 1 Qj code)) Y)) U22 (List.length_map ..)) (fO (B.add (n:=(((193017+code.length):Nat):Int)) (VEv.int .i64 193017) (tv (tN code.length) Y) (by first | rfl | (rw [QB (by omega)];omega) | (rw [QB (by omega)];done))) (aO (tN (193017+code.length)) Y (nt (sq (sr (fO (OF.assign (VEv.int .i64 0)) ?_)))))))))))
 refine nt (VRun.block ?_)
 refine VRun.loop (A:=Nat×Int) (fun s_=> [(0,(T.ex pb nb mb (rd 1 Qj code))),(2,T.ptr0),(3,(tI s_.2)),(4,(tN s_.1))]) (fun s_=>Jw []) 0 (fun s_=>s_.1≤code.length∧0≤s_.2∧s_.2≤2000000000) (fun s_=>code.length - s_.1) ((0,193017+((code.length:Nat):Int)):Nat×Int) ?_ (Wk.mk (fun k=>k) ?_ ?_ ?_) ?_
 ·exact ⟨by omega,by omega,by omega⟩
 ·exact (b2 (b2 (bc ⟨(congrArg (T.int .i64) (show (((193017+code.length):Nat):Int)=(193017+((code.length:Nat):Int)) from (by first | rfl | omega | (simp;done) | (push_cast;omega)))),rfl⟩ (b2 bn))))
 ·exact bn
 ·exact nd Y
 rintro ⟨i,w⟩ (hI':i≤code.length∧0≤w∧w≤2000000000)
 show VRun _ _ _ [(0,(T.ex pb nb mb (rd 1 Qj code))),(2,T.ptr0),(3,(tI w)),(4,(tN i))] (Jw []) 0 _
 have hI1:=hI'.1
 have hI2:=hI'.2.1
 have hI3:=hI'.2.2
 refine sq (sr (mO (tN i) Y (mO (T.ex pb nb mb (rd 1 Qj code)) Y (lO (B.lenR (m:=code.length) (VEv.unex (tv (T.ex pb nb mb (rd 1 Qj code)) Y)) U22 (List.length_map ..)) (fO (Jx (tv (tN i) Y) (tv (tN code.length) Y)) (mO (tB (decide (i<code.length))) Y ?_))))))
 refine gw (i<code.length) (fun fhg12_1=> ?_) fun fhg12_1=> ?_
 ·refine gF (dy fhg12_1) Y Y (OF.move (tv (tN i) Y)) ?_
  refine gF (dy fhg12_1) Y Y (B.lss (c:=(decide (i<4000))) (tv (tN i) Y) (VEv.int .i64 4000) (Z4 (by omega))) (fO (OF.pickT (VEv.tmpB Y (dy fhg12_1)) (tv (tB (decide (i<4000))) Y)) (nt ?_))
  refine cd (i<4000) Y (fun fhc0=> ?_) fun fhc0=> ?_
  ·refine sk ?_
   refine tn (sq (VRun.block (VRun.region (mO (tI w) Y (fO (B.mul (n:=(w*137)) (tv (tI w) Y) (VEv.int .i64 137) (by first | rfl | (rw [QB (by omega)];omega) | (rw [QB (by omega)];done))) (mO (T.ex pb nb mb (rd 1 Qj code)) Y (mO (tN i) Y ?_)))))))
   obtain ⟨x1,hx1⟩:∃x,code[i]? =some x:=⟨_,List.getElem?_eq_getElem (by omega)⟩
   refine fO (OF.indexAddrR (row:=(Qj false x1)) (i:=i) (VEv.unex (tv (T.ex pb nb mb (rd 1 Qj code)) Y)) (tv (tN i) Y) Y (QR _ hx1) U22 sz5 if5) (lO (OL.loadR1 (t:=(T.int .u8 x1)) (tv (T.rp [(T.int .u8 x1)]) Y) Y st5) (fO (OF.convI (tv (T.int .u8 x1) Y) (k0:= .u8) U5 U3) (fO (B.add (n:=(IntKind.i64.wrap ((w*137)+IntKind.i64.wrap x1))) (tv (tI (w*137)) Y) (tv (tI (IntKind.i64.wrap x1)) Y) (by first | rfl | (rw [QB (by omega)];omega) | (rw [QB (by omega)];done))) (fO (B.add (n:=(IntKind.i64.wrap (IntKind.i64.wrap ((w*137)+IntKind.i64.wrap x1)+11))) (tv (tI (IntKind.i64.wrap ((w*137)+IntKind.i64.wrap x1))) Y) (VEv.int .i64 11) (by first | rfl | (rw [QB (by omega)];omega) | (rw [QB (by omega)];done))) (fO (B.and (n:=(Zp .i64 (IntKind.i64.wrap (IntKind.i64.wrap ((w*137)+IntKind.i64.wrap x1)+11)) 1073741823)) (tv (tI (IntKind.i64.wrap (IntKind.i64.wrap ((w*137)+IntKind.i64.wrap x1)+11))) Y) (VEv.int .i64 1073741823) Y) (aO (tI (Zp .i64 (IntKind.i64.wrap (IntKind.i64.wrap ((w*137)+IntKind.i64.wrap x1)+11)) 1073741823)) Y (VRunO.nil (vinB.n (tn (VRun.region (mO (tN i) Y ?_)))))))))))
   refine fO (ZB (tv (tN i) Y) (VEv.int .i64 1) (by omega)) (aO (tN (i+1)) Y (VRunO.nil (tn ?_)))
   refine ⟨((i+1,Zp .i64 (IntKind.i64.wrap (IntKind.i64.wrap (w*137+IntKind.i64.wrap x1)+11)) 1073741823):Nat×Int),?_,?_,Wk.mk (fun k=>k) ?_ ?_ ?_⟩
   ·exact ⟨by omega,(QbJ _ (m:=1073741823) (by decide)).1,Int.le_trans (QbJ _ (m:=1073741823) (by decide)).2 (by decide)⟩
   ·first | omega | (simp only [];omega) | (show _<_;omega) | (simp;omega)
   ·exact (b2 (b2 (bc ⟨(congrArg (T.int .i64) (show (Zp .i64 (IntKind.i64.wrap (IntKind.i64.wrap ((w*137)+IntKind.i64.wrap x1)+11)) 1073741823)=(Zp .i64 (IntKind.i64.wrap (IntKind.i64.wrap (w*137+IntKind.i64.wrap x1)+11)) 1073741823) from (by first | rfl | omega | (simp;done) | (push_cast;omega)))),rfl⟩ (b2 bn))))
   ·exact bn
   ·exact nd Y
  refine VRun.exit (vthn.e (vthn.e (vinB.e (tn (sr (mO (T.ex pb nb mb (rd 1 Qj code)) Y (mO (tI w) Y (fO (OF.build (l:= [(0,(T.ex pb nb mb (rd 1 Qj code))),(2,(tI w))]) (zs:= [T.nils,(tN 0),(tN 0)]) (out:= [(T.ex pb nb mb (rd 1 Qj code)),(tN 0),(tI w)]) (VEvp.cons (i:=0) (tv (T.ex pb nb mb (rd 1 Qj code)) Y) (VEvp.cons (i:=2) (tv (tI w) Y) VEvp.nil)) (bc nofun (bc nofun bn)) Tryd.underlying89 Qhf (fun _=>RL.cons (.nils) (RL.cons (.int _ _) (RL.cons (.int _ _) (RL.nil _)))) (by kernel_rfl) (by kernel_rfl)) (kO (B.box (ts:= [(T.ex pb nb mb (rd 1 Qj code)),(tN 0),(tI w)]) (tv (T.agg [(T.ex pb nb mb (rd 1 Qj code)),(tN 0),(tI w)]) Y) nofun Y) (aO (T.op 0 0) Y (nt ?_)))))))))))
  refine rt ?_
  exact vnew.r 0 w (VRes.tmp Y VRes.nil) Y
 refine Q2 2 4 true 12 (dz fhg12_1) Y Y Y (fO (OF.pickF (VEv.tmpB Y (dz fhg12_1)) (VEv.bool false)) (nt (cf Y (VRun.exit (vthn.e (vthn.e (vinB.e (tn (sr (mO (T.ex pb nb mb (rd 1 Qj code)) Y (mO (tI w) Y ?_)))))))))))
 refine fO (OF.build (l:= [(0,(T.ex pb nb mb (rd 1 Qj code))),(2,(tI w))]) (zs:= [T.nils,(tN 0),(tN 0)]) (out:= [(T.ex pb nb mb (rd 1 Qj code)),(tN 0),(tI w)]) (VEvp.cons (i:=0) (tv (T.ex pb nb mb (rd 1 Qj code)) Y) (VEvp.cons (i:=2) (tv (tI w) Y) VEvp.nil)) (bc nofun (bc nofun bn)) Tryd.underlying89 Qhf (fun _=>RL.cons (.nils) (RL.cons (.int _ _) (RL.cons (.int _ _) (RL.nil _)))) (by kernel_rfl) (by kernel_rfl)) (kO (B.box (ts:= [(T.ex pb nb mb (rd 1 Qj code)),(tN 0),(tI w)]) (tv (T.agg [(T.ex pb nb mb (rd 1 Qj code)),(tN 0),(tI w)]) Y) nofun Y) (aO (T.op 0 0) Y (nt (rt ?_))))
 exact vnew.r 0 w (VRes.tmp Y VRes.nil) Y
theorem Yg (n:Nat) (code:List Int) (hcl:code.length≤mx):CurE (QA Tryd.prog (n+1)) 64 (rd 1 Qj code) code.length [] (fun x:Int=>0≤x∧x≤255) (fun x:Int=>(tI x)):=by
 refine CurE.intro (rs:= [ResultVar.tmp 2]) Tryd.func64 Y Y Y (by kernel_rfl) (fun pb nb mb ci ch hci=> ?_)
 obtain ⟨hlim,hmx,hmax⟩:=Zk
 show VRun _ _ _ [(0,(T.op 0 0))] [(0,some (Obj.cells [(T.ex pb nb mb (rd 1 Qj code)),(tN ci),(tI ch)]))] 1 _
 refine sr (fO (OF.assign (VEv.int .i64 0)) (nt (sr (mO (T.op 0 0) Y (mO (T.op 0 0) Y (fO (OF.nilCheckO (tv (T.op 0 0) Y)) (lf (tI ch) Y Qcy Y Y Zo (fO (B.mul (n:=(IntKind.i64.wrap (ch*6364136223846793005))) (tv (tI ch) Y) (VEv.int .i64 6364136223846793005) (by first | rfl | (rw [QB (by omega)];omega) | (rw [QB (by omega)];done))) (fO (B.add (n:=(IntKind.i64.wrap (IntKind.i64.wrap (ch*6364136223846793005)+1442695040888963407))) (tv (tI (IntKind.i64.wrap (ch*6364136223846793005))) Y) (VEv.int .i64 1442695040888963407) (by first | rfl | (rw [QB (by omega)];omega) | (rw [QB (by omega)];done))) (fO (OF.nilCheckO (tv (T.op 0 0) Y)) (fO (OF.fieldAddrO (tv (T.op 0 0) Y) Qcy) ?_)))))))))))
 refine cO (B.storeO (us:= [(tI (IntKind.i64.wrap (IntKind.i64.wrap (ch*6364136223846793005)+1442695040888963407)))]) (ws:= [(T.ex pb nb mb (rd 1 Qj code)),(tN ci),(tI (IntKind.i64.wrap (IntKind.i64.wrap (ch*6364136223846793005)+1442695040888963407)))]) (tv (T.op 0 2) Y) (tv (tI (IntKind.i64.wrap (IntKind.i64.wrap (ch*6364136223846793005)+1442695040888963407))) Y) nofun Y Y (lb Y) if3 sz3 (bc Y bn) Y) (nt (sq (VRun.draw (B:= [[],[0],[0,1],[1,0,2],[2,0,1,3],[],[5],[5,6],[6,5,7],[7,5,6,8],[8,6,5,7,9,3,1,0,2,4],[4,2,0,1,3,9,7,5,6,8,10],[10,8,6,5,7,9,3,1,0,2,4,11]]) (by kernel_rfl) (by kernel_rfl) Y (mD (T.op 0 0) Y Y (fD (OF.nilCheckO (tv (T.op 0 0) Y)) Y Y (fD (OF.fieldAddrO (tv (T.op 0 0) Y) Qcy) Y Y (lD (OL.loadO1 (t:=(tI (IntKind.i64.wrap (IntKind.i64.wrap (ch*6364136223846793005)+1442695040888963407)))) (tv (T.op 0 2) Y) Y Y Zo) Y Y (fD (B.shr (n:=(Zb .i64 (IntKind.i64.wrap (IntKind.i64.wrap (ch*6364136223846793005)+1442695040888963407)) 33)) (tv (tI (IntKind.i64.wrap (IntKind.i64.wrap (ch*6364136223846793005)+1442695040888963407))) Y) (VEv.int .u64 33) (by decide) Y) Y Y (mD (T.op 0 0) Y Y (fD (OF.nilCheckO (tv (T.op 0 0) Y)) Y Y (fD (OF.fieldAddrO (tv (T.op 0 0) Y) Qcy) Y Y ?_)))))))))))
 refine lD (OL.loadO1 (t:=(tI (IntKind.i64.wrap (IntKind.i64.wrap (ch*6364136223846793005)+1442695040888963407)))) (tv (T.op 0 2) Y) Y Y Zo) Y Y (fD (B.shr (n:=(Zb .i64 (IntKind.i64.wrap (IntKind.i64.wrap (ch*6364136223846793005)+1442695040888963407)) 47)) (tv (tI (IntKind.i64.wrap (IntKind.i64.wrap (ch*6364136223846793005)+1442695040888963407))) Y) (VEv.int .u64 47) (by decide) Y) Y Y (fD (B.xor (n:=(Yn .i64 (Zb .i64 (IntKind.i64.wrap (IntKind.i64.wrap (ch*6364136223846793005)+1442695040888963407)) 33) (Zb .i64 (IntKind.i64.wrap (IntKind.i64.wrap (ch*6364136223846793005)+1442695040888963407)) 47))) (tv (tI (Zb .i64 (IntKind.i64.wrap (IntKind.i64.wrap (ch*6364136223846793005)+1442695040888963407)) 33)) Y) (tv (tI (Zb .i64 (IntKind.i64.wrap (IntKind.i64.wrap (ch*6364136223846793005)+1442695040888963407)) 47)) Y) Y) Y Y (fD (B.and (n:=(Zp .i64 (Yn .i64 (Zb .i64 (IntKind.i64.wrap (IntKind.i64.wrap (ch*6364136223846793005)+1442695040888963407)) 33) (Zb .i64 (IntKind.i64.wrap (IntKind.i64.wrap (ch*6364136223846793005)+1442695040888963407)) 47)) 255)) (tv (tI (Yn .i64 (Zb .i64 (IntKind.i64.wrap (IntKind.i64.wrap (ch*6364136223846793005)+1442695040888963407)) 33) (Zb .i64 (IntKind.i64.wrap (IntKind.i64.wrap (ch*6364136223846793005)+1442695040888963407)) 47))) Y) (VEv.int .i64 255) Y) Y Y (fD (OF.assign (tv (tI (Zp .i64 (Yn .i64 (Zb .i64 (IntKind.i64.wrap (IntKind.i64.wrap (ch*6364136223846793005)+1442695040888963407)) 33) (Zb .i64 (IntKind.i64.wrap (IntKind.i64.wrap (ch*6364136223846793005)+1442695040888963407)) 47)) 255)) Y)) Y Y (VRunD.nil (tn (sq (sq (VRun.draw (B:= [[],[0],[0,1],[1,0,2],[],[4],[4,5],[5,4,6],[6,4,5,7],[7,5,4,6,8,2,0,1,3]]) (by kernel_rfl) (by kernel_rfl) Y (mD (T.op 0 0) Y Y (fD (OF.nilCheckO (tv (T.op 0 0) Y)) Y Y ?_)))))))))))
 refine fD (OF.fieldAddrO (tv (T.op 0 0) Y) QcO) Y Y (lD (OL.loadO1 (t:=(tN ci)) (tv (T.op 0 1) Y) Y Y Zo) Y Y (mD (T.op 0 0) Y Y (fD (OF.nilCheckO (tv (T.op 0 0) Y)) Y Y (fD (OF.fieldAddrO (tv (T.op 0 0) Y) Qfq) Y Y (lD (OL.loadO1 (t:=(T.ex pb nb mb (rd 1 Qj code))) (tv (T.op 0 0) Y) Y Y Qg9) Y Y (lD (B.lenR (m:=code.length) (VEv.unex (tv (T.ex pb nb mb (rd 1 Qj code)) Y)) U22 (List.length_map ..)) Y Y (fD (Jx (tv (tN ci) Y) (tv (tN code.length) Y)) Y Y (VRunD.nil (tn ?_)))))))))
 refine cd (ci<code.length) Y (fun fhc0=> ?_) fun fhc0=> ?_
 ·refine sq ?_
  refine VRun.draw (B:= [[],[],[1],[1,2],[2,1,3],[],[5],[5,6],[6,5,7],[7,5,6,8,3,1,2,4],[4,2,1,3,8,6,5,7,9],[9,7,5,6,8,3,1,2,4,10],[10,4,2,1,3,8,6,5,7,9,11,0],[0,11,9,7,5,6,8,3,1,2,4,10,12],[12,10,4,2,1,3,8,6,5,7,9,11,0,13]]) (by kernel_rfl) (by kernel_rfl) Y (mD (tI (Zp .i64 (Yn .i64 (Zb .i64 (IntKind.i64.wrap (IntKind.i64.wrap (ch*6364136223846793005)+1442695040888963407)) 33) (Zb .i64 (IntKind.i64.wrap (IntKind.i64.wrap (ch*6364136223846793005)+1442695040888963407)) 47)) 255)) Y Y (mD (T.op 0 0) Y Y (fD (OF.nilCheckO (tv (T.op 0 0) Y)) Y Y (fD (OF.fieldAddrO (tv (T.op 0 0) Y) Qfq) Y Y (lD (OL.loadO1 (t:=(T.ex pb nb mb (rd 1 Qj code))) (tv (T.op 0 0) Y) Y Y Qg9) Y Y (mD (T.op 0 0) Y Y (fD (OF.nilCheckO (tv (T.op 0 0) Y)) Y Y (fD (OF.fieldAddrO (tv (T.op 0 0) Y) QcO) Y Y (lD (OL.loadO1 (t:=(tN ci)) (tv (T.op 0 1) Y) Y Y Zo) Y Y ?_)))))))))
  obtain ⟨x1,hx1⟩:∃x,code[ci]? =some x:=⟨_,List.getElem?_eq_getElem (by omega)⟩
  refine fD (OF.indexAddrR (row:=(Qj false x1)) (i:=ci) (VEv.unex (tv (T.ex pb nb mb (rd 1 Qj code)) Y)) (tv (tN ci) Y) Y (QR _ hx1) U22 sz5 if5) Y Y (lD (OL.loadR1 (t:=(T.int .u8 x1)) (tv (T.rp [(T.int .u8 x1)]) Y) Y st5) Y Y (fD (OF.convI (tv (T.int .u8 x1) Y) (k0:= .u8) U5 U3) Y Y (fD (B.add (n:=(IntKind.i64.wrap ((Zp .i64 (Yn .i64 (Zb .i64 (IntKind.i64.wrap (IntKind.i64.wrap (ch*6364136223846793005)+1442695040888963407)) 33) (Zb .i64 (IntKind.i64.wrap (IntKind.i64.wrap (ch*6364136223846793005)+1442695040888963407)) 47)) 255)+IntKind.i64.wrap x1))) (tv (tI (Zp .i64 (Yn .i64 (Zb .i64 (IntKind.i64.wrap (IntKind.i64.wrap (ch*6364136223846793005)+1442695040888963407)) 33) (Zb .i64 (IntKind.i64.wrap (IntKind.i64.wrap (ch*6364136223846793005)+1442695040888963407)) 47)) 255)) Y) (tv (tI (IntKind.i64.wrap x1)) Y) (by first | rfl | (rw [QB (by omega)];omega) | (rw [QB (by omega)];done))) Y Y (fD (B.and (n:=(Zp .i64 (IntKind.i64.wrap ((Zp .i64 (Yn .i64 (Zb .i64 (IntKind.i64.wrap (IntKind.i64.wrap (ch*6364136223846793005)+1442695040888963407)) 33) (Zb .i64 (IntKind.i64.wrap (IntKind.i64.wrap (ch*6364136223846793005)+1442695040888963407)) 47)) 255)+IntKind.i64.wrap x1)) 255)) (tv (tI (IntKind.i64.wrap ((Zp .i64 (Yn .i64 (Zb .i64 (IntKind.i64.wrap (IntKind.i64.wrap (ch*6364136223846793005)+1442695040888963407)) 33) (Zb .i64 (IntKind.i64.wrap (IntKind.i64.wrap (ch*6364136223846793005)+1442695040888963407)) 47)) 255)+IntKind.i64.wrap x1))) Y) (VEv.int .i64 255) Y) Y Y (fD (OF.assign (tv (tI (Zp .i64 (IntKind.i64.wrap ((Zp .i64 (Yn .i64 (Zb .i64 (IntKind.i64.wrap (IntKind.i64.wrap (ch*6364136223846793005)+1442695040888963407)) 33) (Zb .i64 (IntKind.i64.wrap (IntKind.i64.wrap (ch*6364136223846793005)+1442695040888963407)) 47)) 255)+IntKind.i64.wrap x1)) 255)) Y)) Y Y (VRunD.nil (tn (VRun.region (mO (T.op 0 0) Y (mO (T.op 0 0) Y (fO (OF.nilCheckO (tv (T.op 0 0) Y)) ?_)))))))))))
  refine lf (tN ci) Y QcO Y Y Zo (fO (B.add (n:=((ci+1:Nat):Int)) (tv (tN ci) Y) (VEv.int .i64 1) (by first | rfl | (rw [QB (by omega)];omega) | (rw [QB (by omega)];done))) (fO (OF.nilCheckO (tv (T.op 0 0) Y)) (fO (OF.fieldAddrO (tv (T.op 0 0) Y) QcO) (cO (B.storeO (us:= [(tN (ci+1))]) (ws:= [(T.ex pb nb mb (rd 1 Qj code)),(tN (ci+1)),(tI (IntKind.i64.wrap (IntKind.i64.wrap (ch*6364136223846793005)+1442695040888963407)))]) (tv (T.op 0 1) Y) (tv (tN (ci+1)) Y) nofun Y Y (lb Y) if3 sz3 (bc Y bn) Y) (VRunO.nil (tn (sr (mO (tI (Zp .i64 (IntKind.i64.wrap ((Zp .i64 (Yn .i64 (Zb .i64 (IntKind.i64.wrap (IntKind.i64.wrap (ch*6364136223846793005)+1442695040888963407)) 33) (Zb .i64 (IntKind.i64.wrap (IntKind.i64.wrap (ch*6364136223846793005)+1442695040888963407)) 47)) 255)+IntKind.i64.wrap x1)) 255)) Y (aO (tI (Zp .i64 (IntKind.i64.wrap ((Zp .i64 (Yn .i64 (Zb .i64 (IntKind.i64.wrap (IntKind.i64.wrap (ch*6364136223846793005)+1442695040888963407)) 33) (Zb .i64 (IntKind.i64.wrap (IntKind.i64.wrap (ch*6364136223846793005)+1442695040888963407)) 47)) 255)+IntKind.i64.wrap x1)) 255)) Y (nt (rt ?_)))))))))))
  refine vcur.r (Zp .i64 (IntKind.i64.wrap ((Zp .i64 (Yn .i64 (Zb .i64 (IntKind.i64.wrap (IntKind.i64.wrap (ch*6364136223846793005)+1442695040888963407)) 33) (Zb .i64 (IntKind.i64.wrap (IntKind.i64.wrap (ch*6364136223846793005)+1442695040888963407)) 47)) 255)+IntKind.i64.wrap x1)) 255) 0 (ci+1) (IntKind.i64.wrap (IntKind.i64.wrap (ch*6364136223846793005)+1442695040888963407)) ?_ (VRes.tmp (t:=(tI (Zp .i64 (IntKind.i64.wrap ((Zp .i64 (Yn .i64 (Zb .i64 (IntKind.i64.wrap (IntKind.i64.wrap (ch*6364136223846793005)+1442695040888963407)) 33) (Zb .i64 (IntKind.i64.wrap (IntKind.i64.wrap (ch*6364136223846793005)+1442695040888963407)) 47)) 255)+IntKind.i64.wrap x1)) 255))) Y VRes.nil) (Give.int _ _) Y Y (by omega) (by decide)
  show 0≤(Zp .i64 (IntKind.i64.wrap ((Zp .i64 (Yn .i64 (Zb .i64 (IntKind.i64.wrap (IntKind.i64.wrap (ch*6364136223846793005)+1442695040888963407)) 33) (Zb .i64 (IntKind.i64.wrap (IntKind.i64.wrap (ch*6364136223846793005)+1442695040888963407)) 47)) 255)+IntKind.i64.wrap x1)) 255)∧(Zp .i64 (IntKind.i64.wrap ((Zp .i64 (Yn .i64 (Zb .i64 (IntKind.i64.wrap (IntKind.i64.wrap (ch*6364136223846793005)+1442695040888963407)) 33) (Zb .i64 (IntKind.i64.wrap (IntKind.i64.wrap (ch*6364136223846793005)+1442695040888963407)) 47)) 255)+IntKind.i64.wrap x1)) 255)≤255
  exact QfD _
 refine sk (tn (sr (mO (tI (Zp .i64 (Yn .i64 (Zb .i64 (IntKind.i64.wrap (IntKind.i64.wrap (ch*6364136223846793005)+1442695040888963407)) 33) (Zb .i64 (IntKind.i64.wrap (IntKind.i64.wrap (ch*6364136223846793005)+1442695040888963407)) 47)) 255)) Y (aO (tI (Zp .i64 (Yn .i64 (Zb .i64 (IntKind.i64.wrap (IntKind.i64.wrap (ch*6364136223846793005)+1442695040888963407)) 33) (Zb .i64 (IntKind.i64.wrap (IntKind.i64.wrap (ch*6364136223846793005)+1442695040888963407)) 47)) 255)) Y (nt (rt ?_))))))
 refine vcur.r (Zp .i64 (Yn .i64 (Zb .i64 (IntKind.i64.wrap (IntKind.i64.wrap (ch*6364136223846793005)+1442695040888963407)) 33) (Zb .i64 (IntKind.i64.wrap (IntKind.i64.wrap (ch*6364136223846793005)+1442695040888963407)) 47)) 255) 0 ci (IntKind.i64.wrap (IntKind.i64.wrap (ch*6364136223846793005)+1442695040888963407)) ?_ (VRes.tmp (t:=(tI (Zp .i64 (Yn .i64 (Zb .i64 (IntKind.i64.wrap (IntKind.i64.wrap (ch*6364136223846793005)+1442695040888963407)) 33) (Zb .i64 (IntKind.i64.wrap (IntKind.i64.wrap (ch*6364136223846793005)+1442695040888963407)) 47)) 255))) Y VRes.nil) (Give.int _ _) Y Y (by omega) (by decide)
 show 0≤(Zp .i64 (Yn .i64 (Zb .i64 (IntKind.i64.wrap (IntKind.i64.wrap (ch*6364136223846793005)+1442695040888963407)) 33) (Zb .i64 (IntKind.i64.wrap (IntKind.i64.wrap (ch*6364136223846793005)+1442695040888963407)) 47)) 255)∧(Zp .i64 (Yn .i64 (Zb .i64 (IntKind.i64.wrap (IntKind.i64.wrap (ch*6364136223846793005)+1442695040888963407)) 33) (Zb .i64 (IntKind.i64.wrap (IntKind.i64.wrap (ch*6364136223846793005)+1442695040888963407)) 47)) 255)≤255
 exact QfD _
theorem QU (n:Nat) (code:List Int) (k:Int) (hcl:code.length≤mx):CurE (QA Tryd.prog (n+2)) 31 (rd 1 Qj code) code.length [(tI k)] (fun x:Int=>(k≤0→x=0)∧(0<k→0≤x∧x<k)) (fun x:Int=>(tI x)):=by
 refine CurE.intro (rs:= [ResultVar.tmp 4]) Tryd.func31 Y Y Y (by kernel_rfl) (fun pb nb mb ci ch hci=> ?_)
 obtain ⟨hlim,hmx,hmax⟩:=Zk
 show VRun _ _ _ [(0,(T.op 0 0)),(1,(tI k))] [(0,some (Obj.cells [(T.ex pb nb mb (rd 1 Qj code)),(tN ci),(tI ch)]))] 1 _
 refine sr (fO (OF.assign (VEv.int .i64 0)) (nt (sq (sr (mO (tI k) Y (fO (xle (tv (tI k) Y) (VEv.int .i64 0)) (nt ?_)))))))
 refine cd (k≤0) Y (fun fhc0=> ?_) fun fhc0=> ?_
 ·refine sr ?_
  refine fO (OF.assign (VEv.int .i64 0)) (nt (rt (tr ?_)))
  refine vcur.r 0 0 ci ch ?_ (VRes.tmp (t:=(tN 0)) Y VRes.nil) (Give.int _ _) Y Y (by omega) (by decide)
  show (k≤0→0=0)∧(0<k→0≤0∧0<k)
  first | (exact ⟨fun _=>rfl,fun h=>by omega⟩) | (exact ⟨fun h=>by omega,fun h=>QcH (by omega) h⟩)
 refine sk (tn (sq (sr (mO (tI k) Y (fO (xle (tv (tI k) Y) (VEv.int .i64 256)) (nt ?_))))))
 refine cd (k≤256) Y (fun fhc1=> ?_) fun fhc1=> ?_
 ·refine sr ?_
  refine mO (T.op 0 0) Y ?_
  refine eC (us:= []) (r':=fun x_:Int=>(tI x_)) (objs:=fun x_:Int=> []) (m:=0) (k:=0) ci ch VWant.always (vc (tv (T.op 0 0) Y) vn) Y (by omega) ln (Yg (n+0) code (by first | assumption | omega | (simp only [List.length_cons,List.length_nil];omega))) Y (fun _=>rfl) (fun _=>rfl) fun e13 i13 h13 hs13 hi13=> ?_
  have hs13:0≤e13∧e13≤255:=hs13
  refine mO (tI k) Y (fO (B.rem (n:=(e13.tmod k)) (tv (tI e13) Y) (tv (tI k) Y) (by omega) (by first | rfl | (rw [QB (by omega)];omega) | (rw [QB (by omega)];done))) (aO (tI (e13.tmod k)) Y (nt (rt (tr ?_)))))
  refine vcur.r (e13.tmod k) 0 i13 h13 ?_ (VRes.tmp (t:=(tI (e13.tmod k))) Y VRes.nil) (Give.int _ _) Y Y (by omega) (by decide)
  show (k≤0→(e13.tmod k)=0)∧(0<k→0≤(e13.tmod k)∧(e13.tmod k)<k)
  first | (exact ⟨fun _=>rfl,fun h=>by omega⟩) | (exact ⟨fun h=>by omega,fun h=>QcH (by omega) h⟩)
 refine sk (tn (sr (mO (T.op 0 0) Y ?_)))
 refine eC (us:= []) (r':=fun x_:Int=>(tI x_)) (objs:=fun x_:Int=> []) (m:=0) (k:=0) ci ch VWant.always (vc (tv (T.op 0 0) Y) vn) Y (by omega) ln (Yg (n+0) code (by first | assumption | omega | (simp only [List.length_cons,List.length_nil];omega))) Y (fun _=>rfl) (fun _=>rfl) fun e17 i17 h17 hs17 hi17=> ?_
 have hs17:0≤e17∧e17≤255:=hs17
 refine aO (tI e17) Y (nt (sr (mO (T.op 0 0) Y ?_)))
 refine eC (us:= []) (r':=fun x_:Int=>(tI x_)) (objs:=fun x_:Int=> []) (m:=0) (k:=0) i17 h17 VWant.always (vc (tv (T.op 0 0) Y) vn) Y (by omega) ln (Yg (n+0) code (by first | assumption | omega | (simp only [List.length_cons,List.length_nil];omega))) Y (fun _=>rfl) (fun _=>rfl) fun e19 i19 h19 hs19 hi19=> ?_
 have hs19:0≤e19∧e19≤255:=hs19
 refine aO (tI e19) Y (nt (sr (mO (T.op 0 0) Y ?_)))
 refine eC (us:= []) (r':=fun x_:Int=>(tI x_)) (objs:=fun x_:Int=> []) (m:=0) (k:=0) i19 h19 VWant.always (vc (tv (T.op 0 0) Y) vn) Y (by omega) ln (Yg (n+0) code (by first | assumption | omega | (simp only [List.length_cons,List.length_nil];omega))) Y (fun _=>rfl) (fun _=>rfl) fun e21 i21 h21 hs21 hi21=> ?_
 have hs21:0≤e21∧e21≤255:=hs21
 refine aO (tI e21) Y (nt (sr (mO (tI e17) Y (fO (B.mul (n:=(e17*65536)) (tv (tI e17) Y) (VEv.int .i64 65536) (by first | rfl | (rw [QB (by omega)];omega) | (rw [QB (by omega)];done))) (mO (tI e19) Y (fO (B.mul (n:=(e19*256)) (tv (tI e19) Y) (VEv.int .i64 256) (by first | rfl | (rw [QB (by omega)];omega) | (rw [QB (by omega)];done))) (fO (B.add (n:=((e17*65536)+(e19*256))) (tv (tI (e17*65536)) Y) (tv (tI (e19*256)) Y) (by first | rfl | (rw [QB (by omega)];omega) | (rw [QB (by omega)];done))) (mO (tI e21) Y (fO (B.add (n:=(((e17*65536)+(e19*256))+e21)) (tv (tI ((e17*65536)+(e19*256))) Y) (tv (tI e21) Y) (by first | rfl | (rw [QB (by omega)];omega) | (rw [QB (by omega)];done))) (mO (tI k) Y (fO (B.rem (n:=((((e17*65536)+(e19*256))+e21).tmod k)) (tv (tI (((e17*65536)+(e19*256))+e21)) Y) (tv (tI k) Y) (by omega) (by first | rfl | (rw [QB (by omega)];omega) | (rw [QB (by omega)];done))) ?_)))))))))))
 refine aO (tI ((((e17*65536)+(e19*256))+e21).tmod k)) Y (nt (rt ?_))
 refine vcur.r ((((e17*65536)+(e19*256))+e21).tmod k) 0 i21 h21 ?_ (VRes.tmp (t:=(tI ((((e17*65536)+(e19*256))+e21).tmod k))) Y VRes.nil) (Give.int _ _) Y Y (by omega) (by decide)
 show (k≤0→((((e17*65536)+(e19*256))+e21).tmod k)=0)∧(0<k→0≤((((e17*65536)+(e19*256))+e21).tmod k)∧((((e17*65536)+(e19*256))+e21).tmod k)<k)
 first | (exact ⟨fun _=>rfl,fun h=>by omega⟩) | (exact ⟨fun h=>by omega,fun h=>QcH (by omega) h⟩)
theorem Qb4 (n:Nat) (code:List Int) (k:Int) (hcl:code.length≤mx):CurE (QA Tryd.prog (n+3)) 45 (rd 1 Qj code) code.length [(tI k)] (fun x:Bool=>True) (fun x:Bool=>(tB x)):=by
 refine CurE.intro (rs:= [ResultVar.tmp 4]) Tryd.func45 Y Y Y (by kernel_rfl) (fun pb nb mb ci ch hci=> ?_)
 obtain ⟨hlim,hmx,hmax⟩:=Zk
 show VRun _ _ _ [(0,(T.op 0 0)),(1,(tI k))] [(0,some (Obj.cells [(T.ex pb nb mb (rd 1 Qj code)),(tN ci),(tI ch)]))] 1 _
 refine sr (fO (OF.assign (VEv.bool false)) (nt (sr (mO (T.op 0 0) Y (mO (tI k) Y ?_)))))
 refine eC (us:= [(tI k)]) (r':=fun x_:Int=>(tI x_)) (objs:=fun x_:Int=> []) (m:=0) (k:=0) ci ch VWant.always (vc (tv (T.op 0 0) Y) (vc (tv (tI k) Y) vn)) Y (by omega) (ZO Y) (QU (n+0) code k (by first | assumption | omega | (simp only [List.length_cons,List.length_nil];omega))) Y (fun _=>rfl) (fun _=>rfl) fun e7 i7 h7 hs7 hi7=> ?_
 have hs7:(k≤0→e7=0)∧(0<k→0≤e7∧e7<k):=hs7
 refine fO (xeq (tv (tI e7) Y) (VEv.int .i64 0)) (aO (tB (decide (e7=0))) Y (nt (rt ?_)))
 refine vcur.r (decide (e7=0)) 0 i7 h7 ?_ (VRes.tmp (t:=(tB (decide (e7=0)))) Y VRes.nil) (Give.bool _) Y Y (by omega) (by decide)
 show True
 first | trivial | omega | assumption | (constructor<;>omega)
theorem Yy (n:Nat) (code:List Int) (l:List Int) (hcl:code.length≤mx) (hl:0<l.length) (hl2:l.length≤mx):CurE (QA Tryd.prog (n+3)) 73 (rd 1 Qj code) code.length [(rd 1 Jt l)] (fun x:Int=>x∈l) (fun x:Int=>(tI x)):=by
 refine CurE.intro (rs:= [ResultVar.tmp 4]) Tryd.func73 Y Y Y (by kernel_rfl) (fun pb nb mb ci ch hci=> ?_)
 obtain ⟨hlim,hmx,hmax⟩:=Zk
 show VRun _ _ _ [(0,(T.op 0 0)),(1,(rd 1 Jt l))] [(0,some (Obj.cells [(T.ex pb nb mb (rd 1 Qj code)),(tN ci),(tI ch)]))] 1 _
 refine sr (fO (OF.assign (VEv.int .i64 0)) (nt (sr (mO (rd 1 Jt l) Y (mO (T.op 0 0) Y (mO (rd 1 Jt l) Y (lO (B.lenR (m:=l.length) (tv (rd 1 Jt l) Y) U68 (List.length_map ..)) ?_)))))))
 refine eC (us:= [(tN l.length)]) (r':=fun x_:Int=>(tI x_)) (objs:=fun x_:Int=> []) (m:=0) (k:=0) ci ch VWant.always (vc (tv (T.op 0 0) Y) (vc (tv (tN l.length) Y) vn)) Y (by omega) (ZO Y) (QU (n+0) code ((l.length:Nat):Int) (by first | assumption | omega | (simp only [List.length_cons,List.length_nil];omega))) Y (fun _=>rfl) (fun _=>rfl) fun e9 i9 h9 hs9 hi9=> ?_
 have hs9:(((l.length:Nat):Int)≤0→e9=0)∧(0<((l.length:Nat):Int)→0≤e9∧e9<((l.length:Nat):Int)):=hs9
 obtain ⟨x1,hx1⟩:∃x,l[(Int.toNat e9)]? =some x:=⟨_,List.getElem?_eq_getElem (by omega)⟩
 refine fO (OF.indexAddrR (row:=(Jt false x1)) (i:=(Int.toNat e9)) (tv (rd 1 Jt l) Y) (tv (tI e9) Y) (by omega) (QR _ hx1) U68 sz3 if3) (lO (OL.loadR1 (t:=(tI x1)) (tv (T.rp [(tI x1)]) Y) Y Zo) (aO (tI x1) Y (nt (rt ?_))))
 refine vcur.r x1 0 i9 h9 ?_ (VRes.tmp (t:=(tI x1)) Y VRes.nil) (Give.int _ _) Y Y (by omega) (by decide)
 show x1∈l
 exact List.mem_of_getElem? hx1
theorem Yt (n:Nat) (code:List Int) (l:List ByteArray) (hcl:code.length≤mx) (hl:0<l.length) (hl2:l.length≤mx):CurE (QA Tryd.prog (n+3)) 71 (rd 1 Qj code) code.length [(rd 1 J6 l)] (fun x:ByteArray=>x∈l) (fun x:ByteArray=>(tS x)):=by
 refine CurE.intro (rs:= [ResultVar.tmp 4]) Tryd.func71 Y Y Y (by kernel_rfl) (fun pb nb mb ci ch hci=> ?_)
 obtain ⟨hlim,hmx,hmax⟩:=Zk
 show VRun _ _ _ [(0,(T.op 0 0)),(1,(rd 1 J6 l))] [(0,some (Obj.cells [(T.ex pb nb mb (rd 1 Qj code)),(tN ci),(tI ch)]))] 1 _
 refine sr (fO (OF.assign (VEv.str (⟨#[]⟩:ByteArray))) (nt (sr (mO (rd 1 J6 l) Y (mO (T.op 0 0) Y (mO (rd 1 J6 l) Y (lO (B.lenR (m:=l.length) (tv (rd 1 J6 l) Y) U34 (List.length_map ..)) ?_)))))))
 refine eC (us:= [(tN l.length)]) (r':=fun x_:Int=>(tI x_)) (objs:=fun x_:Int=> []) (m:=0) (k:=0) ci ch VWant.always (vc (tv (T.op 0 0) Y) (vc (tv (tN l.length) Y) vn)) Y (by omega) (ZO Y) (QU (n+0) code ((l.length:Nat):Int) (by first | assumption | omega | (simp only [List.length_cons,List.length_nil];omega))) Y (fun _=>rfl) (fun _=>rfl) fun e9 i9 h9 hs9 hi9=> ?_
 have hs9:(((l.length:Nat):Int)≤0→e9=0)∧(0<((l.length:Nat):Int)→0≤e9∧e9<((l.length:Nat):Int)):=hs9
 obtain ⟨x1,hx1⟩:∃x,l[(Int.toNat e9)]? =some x:=⟨_,List.getElem?_eq_getElem (by omega)⟩
 refine fO (OF.indexAddrR (row:=(J6 false x1)) (i:=(Int.toNat e9)) (tv (rd 1 J6 l) Y) (tv (tI e9) Y) (by omega) (QR _ hx1) U34 sz9 if9) (lO (OL.loadR1 (t:=(tS x1)) (tv (T.rp [(tS x1)]) Y) Y Y7) (aO (tS x1) Y (nt (rt ?_))))
 refine vcur.r x1 0 i9 h9 ?_ (VRes.tmp (t:=(tS x1)) Y VRes.nil) (Give.str _) Y Y (by omega) (by decide)
 show x1∈l
 exact List.mem_of_getElem? hx1
noncomputable section
theorem Qcd : ∀ {a b:List UInt8},Op.bytesLess a b=true∨a=b∨Op.bytesLess b a=true
 | [],[]=> .inr (.inl Y)
 | [],_::_=> .inl (by simp [Op.bytesLess])
 | _::_,[]=> .inr (.inr (by simp [Op.bytesLess]))
 | x::r,y::s=>by
  simp only [Op.bytesLess,Bool.or_eq_true,Bool.and_eq_true,decide_eq_true_eq,beq_iff_eq,UInt8.lt_iff_toNat_lt]
  rcases Nat.lt_trichotomy x.toNat y.toNat with h | h | h
  ·exact .inl (.inl h)
  ·have e:x=y:=UInt8.toNat_inj.1 h
   subst e
   rcases Qcd (a:=r) (b:=s) with h | rfl | h
   ·exact .inl (.inr ⟨rfl,h⟩)
   ·exact .inr (.inl Y)
   ·exact .inr (.inr (.inr ⟨rfl,h⟩))
  ·exact .inr (.inr (.inl h))
theorem Qcp : ∀ {a b:List UInt8},Op.bytesLess a b=true→Op.bytesLess b a=true→False
 | _,[],h,_=>by simp [Op.bytesLess] at h
 | [],_::_,_,h=>by simp [Op.bytesLess] at h
 | x::r,y::s,h,h2=>by
  simp only [Op.bytesLess,Bool.or_eq_true,Bool.and_eq_true,decide_eq_true_eq,beq_iff_eq,UInt8.lt_iff_toNat_lt] at h h2
  rcases h with h | ⟨rfl,h⟩
  ·rcases h2 with h2 | ⟨e,_⟩
   ·omega
   ·rw [e] at h;omega
  ·rcases h2 with h2 | ⟨_,h2⟩
   ·omega
   ·exact Qcp h h2
theorem QfT {a b:ByteArray} (h:a.toList=b.toList):a=b:=by
 have e:=toList_eq (s:=a) (u:=b)
 rw [h,beq_self_eq_true] at e
 exact of_decide_eq_true e.symm
theorem Yx {a b:D.Note} (h:Qf a b=true):Qf b a=false:=by
 unfold Qf at h ⊢
 by_cases h1:a.Tick=b.Tick
 ·rw [if_pos h1] at h
  rw [if_pos h1.symm]
  by_cases h2:a.Who=b.Who
  ·rw [if_pos h2] at h
   rw [if_pos h2.symm]
   simp only [Bool.not_eq_true',Bool.or_eq_false_iff,decide_eq_false_iff_not] at h
   rcases Qcd (a:=a.Letter.toList) (b:=b.Letter.toList) with h3 | h3 | h3
   ·rw [h.1] at h3;cases h3
   ·exact absurd (QfT h3) h.2
   ·simp [h3]
  ·rw [if_neg h2,decide_eq_true_eq] at h
   rw [if_neg (fun e=>h2 e.symm),decide_eq_false_iff_not];omega
 ·rw [if_neg h1,decide_eq_true_eq] at h
  rw [if_neg (fun e=>h1 e.symm),decide_eq_false_iff_not];omega
theorem QH {a b:D.Note} (h:Qf a b=false) (h2:Qf b a=false):a.Tick=b.Tick∧a.Who=b.Who∧a.Letter=b.Letter:=by
 unfold Qf at h h2
 by_cases h1:a.Tick=b.Tick
 ·rw [if_pos h1] at h
  rw [if_pos h1.symm] at h2
  by_cases h3:a.Who=b.Who
  ·rw [if_pos h3] at h
   rw [if_pos h3.symm] at h2
   refine ⟨h1,h3,?_⟩
   simp only [Bool.not_eq_false',Bool.or_eq_true,decide_eq_true_eq] at h h2
   rcases h with h | h
   ·rcases h2 with h2 | h2
    ·exact (Qcp h h2).elim
    ·exact h2.symm
   ·exact h
  ·rw [if_neg h3,decide_eq_false_iff_not] at h
   rw [if_neg (fun e=>h3 e.symm),decide_eq_false_iff_not] at h2
   omega
 ·rw [if_neg h1,decide_eq_false_iff_not] at h
  rw [if_neg (fun e=>h1 e.symm),decide_eq_false_iff_not] at h2
  omega
theorem YN (a:D.Note):Qf a a=false:=by
 cases h:Qf a a with
 | false=>rfl
 | true=>have:=Yx h;rw [h] at this;cases this
theorem Qfw {a b:D.Note} (h0:a.Cell=b.Cell) (h:a.Tick=b.Tick∧a.Who=b.Who∧a.Letter=b.Letter):a=b:=by
 cases a;cases b;simp_all
def vN (x:D.Note):Prop:=(0≤x.Cell∧x.Cell≤35)∧x.Letter.size=1∧ZQ x.Letter∧(0≤x.Tick∧x.Tick≤1000)∧(1≤x.Who∧x.Who≤9)
abbrev Qa0 (l:List D.Note):Prop:=l.Pairwise (fun a b=>a.Cell<b.Cell)
theorem Qeo : ∀ {l:List D.Note},(∀j,0<j→j<l.length→∃x y,l[j]? =some x∧l[j - 1]? =some y∧y.Cell<x.Cell)→Qa0 l
 | [],_=>List.Pairwise.nil
 | [a],_=>by simp [Qa0]
 | a::b::r,h=>by
  have ih:=Qeo (l:=b::r) (fun j h0 hj=>by
   obtain ⟨x,y,h1,h2,h3⟩:=h (j+1) (by omega) (by simpa using hj)
   refine ⟨x,y,by simpa using h1,?_,h3⟩
   obtain ⟨m,rfl⟩:∃m,j=m+1:=⟨j - 1,by omega⟩
   simpa using h2)
  obtain ⟨x,y,h1,h2,h3⟩:=h 1 (by omega) (by simp)
  obtain rfl:b=x:=by simpa using h1
  obtain rfl:a=y:=by simpa using h2
  refine List.Pairwise.cons (fun c hc=> ?_) ih
  rcases List.mem_cons.1 hc with rfl | hc
  ·exact h3
  ·have:=(List.pairwise_cons.1 ih).1 c hc
   omega
theorem Zi {l:List D.Note} (h:Qb l):(∀y∈l,vN y)∧Qa0 l:=by
 refine ⟨fun y hy=> ?_,Qeo (fun j h0 hj=> ?_)⟩
 ·obtain ⟨j,hj⟩:=List.getElem?_of_mem hy
  obtain ⟨x,h1,h2,h3,h4,h5,h6,_⟩:=h.2 j (List.getElem?_eq_some_iff.1 hj).1
  rw [hj] at h1
  cases h1
  exact ⟨h2,h3,h4,h5,h6⟩
 ·obtain ⟨x,h1,_,_,_,_,_,h2⟩:=h.2 j hj
  obtain ⟨y,h3,h4⟩:=h2 h0
  exact ⟨x,y,h1,h3,h4⟩
theorem Qdg : ∀ {l:List D.Note} {m:Int},Qa0 l→(∀y∈l,m≤y.Cell∧y.Cell≤35)→((l.length:Nat):Int)≤max 0 (36 - m)
 | [],m,_,_=>by rw [List.length_nil];omega
 | y::r,m,h,hb=>by
  have h:=List.pairwise_cons.1 h
  have h1:=hb y List.mem_cons_self
  have ih:=Qdg (l:=r) (m:=y.Cell+1) h.2 (fun z hz=>⟨by have:=h.1 z hz;omega,(hb z (List.mem_cons_of_mem _ hz)).2⟩)
  rw [List.length_cons]
  omega
theorem Qdi {l:List D.Note} (h:∀y∈l,vN y) (hs:Qa0 l):Qb l:=by
 have hl:=Qdg (m:=0) hs (fun y hy=>(h y hy).1)
 refine ⟨by omega,fun j hj=> ?_⟩
 obtain ⟨h2,h3,h4,h5,h6⟩:=h _ (List.getElem_mem hj)
 refine ⟨l[j],List.getElem?_eq_getElem hj,h2,h3,h4,h5,h6,fun h0=>⟨l[j - 1],List.getElem?_eq_getElem (by omega),?_⟩⟩
 exact List.pairwise_iff_getElem.1 hs (j - 1) j (by omega) hj (by omega)
def Qal : List D.Note→D.Note→List D.Note
 | [],x=> [x]
 | y::r,x=>if y.Cell<x.Cell then y::Qal r x else if y.Cell=x.Cell then (if Qf x y=true then x::r else y::r) else x::y::r
theorem QeX {y x:D.Note} {r:List D.Note} (h:y.Cell<x.Cell):YS (y::r) x=y::YS r x:=by
 have e:JO (y::r) x=JO r x+1:=by
  unfold JO
  rw [List.takeWhile_cons,if_pos (by simpa using h),List.length_cons]
 unfold YS
 rw [e]
 simp only [List.getElem?_cons_succ,List.take_succ_cons,List.drop_succ_cons,List.cons_append]
 split
 ·split
  ·split<;>rfl
  ·rfl
 ·rfl
theorem Qcl : ∀(l:List D.Note) (x:D.Note),YS l x=Qal l x
 | [],x=>rfl
 | y::r,x=>by
  unfold Qal
  split
  ·rename_i h
   rw [QeX h,Qcl r x]
  ·rename_i h
   have e:JO (y::r) x=0:=by
    unfold JO
    rw [List.takeWhile_cons,if_neg (by simpa using h)]
    rfl
   unfold YS
   rw [e]
   simp only [List.getElem?_cons_zero,List.take_zero,List.drop_zero,List.nil_append,Nat.zero_add,List.drop_succ_cons]
theorem QbB : ∀ {l:List D.Note} {x z:D.Note},z∈Qal l x→z∈l∨z=x
 | [],x,z,h=> .inr (by simpa [Qal] using h)
 | y::r,x,z,h=>by
  unfold Qal at h
  split at h
  ·rcases List.mem_cons.1 h with rfl | h
   ·exact .inl List.mem_cons_self
   ·exact (QbB h).imp (List.mem_cons_of_mem _) id
  ·split at h
   ·split at h
    ·rcases List.mem_cons.1 h with rfl | h
     ·exact .inr Y
     ·exact .inl (List.mem_cons_of_mem _ h)
    ·exact .inl h
   ·rcases List.mem_cons.1 h with rfl | h
    ·exact .inr Y
    ·exact .inl h
theorem Qde : ∀ {l:List D.Note} {x:D.Note},Qa0 l→Qa0 (Qal l x)
 | [],x,_=>by simp [Qal,Qa0]
 | y::r,x,h=>by
  have h0:=List.pairwise_cons.1 h
  unfold Qal
  split
  ·rename_i h1
   refine List.Pairwise.cons (fun z hz=> ?_) (Qde h0.2)
   rcases QbB hz with hz | rfl
   ·exact h0.1 z hz
   ·exact h1
  ·rename_i h1
   split
   ·rename_i h2
    split
    ·exact List.Pairwise.cons (fun z hz=>by have:=h0.1 z hz;omega) h0.2
    ·exact h
   ·rename_i h2
    refine List.Pairwise.cons (fun z hz=> ?_) h
    rcases List.mem_cons.1 hz with rfl | hz
    ·omega
    ·have:=h0.1 z hz;omega
def Yh : List D.Note→Int→Option D.Note
 | [],_=>none
 | y::r,c=>if y.Cell=c then some y else Yh r c
theorem YR : ∀ {l:List D.Note} {c:Int} {y:D.Note},Yh l c=some y→y∈l∧y.Cell=c
 | [],_,_,h=>by cases h
 | z::r,c,y,h=>by
  unfold Yh at h
  split at h
  ·rename_i h1
   cases h
   exact ⟨List.mem_cons_self,h1⟩
  ·exact ⟨List.mem_cons_of_mem _ (YR h).1,(YR h).2⟩
theorem JC : ∀ {l:List D.Note} {c:Int},(∀y∈l,y.Cell≠c)→Yh l c=none
 | [],_,_=>rfl
 | z::r,c,h=>by
  unfold Yh
  rw [if_neg (h z List.mem_cons_self)]
  exact JC (fun y hy=>h y (List.mem_cons_of_mem _ hy))
theorem Qag : ∀ {l:List D.Note} {y:D.Note},Qa0 l→y∈l→Yh l y.Cell=some y
 | [],_,_,h=>nomatch h
 | z::r,y,h,hy=>by
  have h0:=List.pairwise_cons.1 h
  unfold Yh
  rcases List.mem_cons.1 hy with rfl | hy
  ·rw [if_pos Y]
  ·rw [if_neg (by have:=h0.1 y hy;omega)]
   exact Qag h0.2 hy
theorem Qdn : ∀ {a b:List D.Note},Qa0 a→Qa0 b→(∀c,Yh a c=Yh b c)→a=b
 | [],[],_,_,_=>rfl
 | [],z::s,_,_,h=>by
  have:=h z.Cell
  simp [Yh] at this
 | y::r,[],_,_,h=>by
  have:=h y.Cell
  simp [Yh] at this
 | y::r,z::s,ha,hb,h=>by
  have ha0:=List.pairwise_cons.1 ha
  have hb0:=List.pairwise_cons.1 hb
  have h1:=h y.Cell
  have h2:=h z.Cell
  have e1:Yh (y::r) y.Cell=some y:=Qag ha List.mem_cons_self
  have e2:Yh (z::s) z.Cell=some z:=Qag hb List.mem_cons_self
  rw [e1] at h1
  rw [e2] at h2
  have m1:=(YR h1.symm).1
  have m2:=(YR h2).1
  have hzy:z=y:=by
   rcases List.mem_cons.1 m1 with e | m1
   ·exact e.symm
   ·rcases List.mem_cons.1 m2 with e | m2
    ·exact e
    ·have:=hb0.1 y m1
     have:=ha0.1 z m2
     omega
  subst hzy
  rw [Qdn ha0.2 hb0.2 (fun c=> ?_)]
  by_cases hc:z.Cell=c
  ·rw [JC (fun w hw=>by have:=ha0.1 w hw;omega),JC (fun w hw=>by have:=hb0.1 w hw;omega)]
  ·have:=h c
   unfold Yh at this
   rwa [if_neg hc,if_neg hc] at this
def Z0 (y x:D.Note):D.Note:=if Qf x y=true then x else y
def mxN : Option D.Note→Option D.Note→Option D.Note
 | none,o=>o
 | some y,none=>some y
 | some y,some x=>some (Z0 y x)
theorem Qec : ∀ {l:List D.Note} {x:D.Note} {c:Int},Qa0 l→Yh (Qal l x) c=if c=x.Cell then mxN (Yh l c) (some x) else Yh l c
 | [],x,c,_=>by
  unfold Qal
  simp only [Yh,mxN]
  by_cases h:c=x.Cell
  ·rw [if_pos h.symm,if_pos h]
  ·rw [if_neg (fun e=>h e.symm),if_neg h]
 | y::r,x,c,h=>by
  have h0:=List.pairwise_cons.1 h
  unfold Qal
  split
  ·rename_i h1
   unfold Yh
   rw [Qec h0.2]
   by_cases hc:y.Cell=c
   ·rw [if_pos hc,if_pos hc,if_neg (by omega)]
   ·rw [if_neg hc,if_neg hc]
  ·rename_i h1
   split
   ·rename_i h2
    by_cases hc:c=x.Cell
    ·rw [if_pos hc]
     subst hc
     have e:Yh (y::r) x.Cell=some y:=by unfold Yh;rw [if_pos h2]
     rw [e]
     split
     ·rename_i h3
      unfold Yh
      rw [if_pos Y]
      simp only [mxN,Z0,if_pos h3]
     ·rename_i h3
      rw [e]
      simp only [mxN,Z0,if_neg h3]
    ·rw [if_neg hc]
     split
     ·unfold Yh
      rw [if_neg (fun e=>hc e.symm),if_neg (by omega)]
     ·rfl
   ·rename_i h2
    by_cases hc:c=x.Cell
    ·rw [if_pos hc]
     subst hc
     rw [JC (l:=y::r) (fun w hw=>by
      rcases List.mem_cons.1 hw with rfl | hw
      ·exact h2
      ·have:=h0.1 w hw;omega)]
     unfold Yh
     rw [if_pos Y]
     rfl
    ·rw [if_neg hc]
     conv=>lhs;unfold Yh
     rw [if_neg (fun e=>hc e.symm)]
theorem QfB {l:List D.Note} {x:D.Note} (h:Qb l) (hx:vN x):QP l x=Qal l x∧Qb (Qal l x):=by
 obtain ⟨h1,h2⟩:=Zi h
 have h3:Qb (Qal l x):=Qdi (fun y hy=>by
  rcases QbB hy with hy | rfl
  ·exact h1 y hy
  ·exact hx) (Qde h2)
 refine ⟨?_,h3⟩
 unfold QP
 rw [Qcl,if_pos ⟨h,h3⟩]
theorem Qds : ∀ {b a:List D.Note},Qb a→(∀y∈b,vN y)→Qa0 b→Qb (b.foldl QP a)∧∀c,Yh (b.foldl QP a) c=mxN (Yh a c) (Yh b c)
 | [],a,ha,_,_=>⟨ha,fun c=>by cases h:Yh a c<;>simp [Yh,mxN,h]⟩
 | x::r,a,ha,hv,hs=>by
  have hs0:=List.pairwise_cons.1 hs
  obtain ⟨e1,e2⟩:=QfB ha (hv x List.mem_cons_self)
  obtain ⟨h1,h2⟩:=Qds (b:=r) (a:=QP a x) (by rw [e1];exact e2) (fun y hy=>hv y (List.mem_cons_of_mem _ hy)) hs0.2
  refine ⟨h1,fun c=> ?_⟩
  rw [List.foldl_cons,h2 c,e1,Qec (Zi ha).2]
  by_cases hc:c=x.Cell
  ·rw [if_pos hc]
   subst hc
   rw [JC (l:=r) (fun w hw=>by have:=hs0.1 w hw;omega)]
   have e:Yh (x::r) x.Cell=some x:=Qag hs List.mem_cons_self
   rw [e]
   cases Yh a x.Cell<;>rfl
  ·rw [if_neg hc]
   have e:Yh (x::r) c=Yh r c:=by
    conv=>lhs;unfold Yh
    rw [if_neg (fun e=>hc e.symm)]
   rw [e]
theorem QM {a b:List D.Note} (ha:Qb a) (hb:Qb b):Qb (Qc a b)∧∀c,Yh (Qc a b) c=mxN (Yh a c) (Yh b c):=by
 rw [Jm ha hb]
 exact Qds ha (Zi hb).1 (Zi hb).2
theorem QdR {y x:D.Note} (h:y.Cell=x.Cell):Z0 y x=Z0 x y:=by
 unfold Z0
 cases h1:Qf x y with
 | true=>rw [if_pos Y,Yx h1];rfl
 | false =>
  cases h2:Qf y x with
  | true=>rfl
  | false=>exact Qfw h (QH h2 h1)
theorem QfL {a b:List D.Note} {c:Int}:mxN (Yh a c) (Yh b c)=mxN (Yh b c) (Yh a c):=by
 cases h1:Yh a c with
 | none=>cases h2:Yh b c<;>rfl
 | some y =>
  cases h2:Yh b c with
  | none=>rfl
  | some x =>
   show some (Z0 y x)=some (Z0 x y)
   rw [QdR ((YR h1).2.trans (YR h2).2.symm)]
theorem QaR {a b:List D.Note} (ha:Qb a) (hb:Qb b) (h:∀c,Yh a c=Yh b c):a=b:=Qdn (Zi ha).2 (Zi hb).2 h
theorem Qdz (a b:List D.Note):Qc a b=Qc b a:=by
 by_cases ha:Qb a
 ·by_cases hb:Qb b
  ·obtain ⟨h1,h2⟩:=QM ha hb
   obtain ⟨h3,h4⟩:=QM hb ha
   exact QaR h1 h3 (fun c=>by rw [h2,h4,QfL])
  ·rw [Zy (.inr hb),Zy (.inl hb)]
 ·rw [Zy (.inl ha),Zy (.inr ha)]
theorem Qbv (y:D.Note):Z0 y y=y:=by unfold Z0;split<;>rfl
theorem QN {a b:List D.Note} (ha:Qb a) (hb:Qb b):Qc (Qc a b) b=Qc a b:=by
 obtain ⟨h1,h2⟩:=QM ha hb
 obtain ⟨h3,h4⟩:=QM h1 hb
 refine QaR h3 h1 (fun c=> ?_)
 rw [h4,h2]
 cases h5:Yh a c with
 | none=>cases h6:Yh b c with
  | none=>rfl
  | some x=>show some (Z0 x x)=some x;rw [Qbv]
 | some y=>cases h6:Yh b c with
  | none=>rfl
  | some x =>
   show some (Z0 (Z0 y x) x)=some (Z0 y x)
   unfold Z0
   cases h7:Qf x y with
   | true=>simp [YN]
   | false=>simp [h7]
theorem QV {a:List D.Note} (ha:Qb a):Qc a a=a:=by
 obtain ⟨h1,h2⟩:=QM ha ha
 refine QaR h1 ha (fun c=> ?_)
 rw [h2]
 cases h5:Yh a c with
 | none=>rfl
 | some y=>show some (Z0 y y)=some y;rw [Qbv]
theorem Qa5 {a b:List D.Note} {x:D.Note} (ha:Qb a) (hb:Qb b) (hx:x∈a++b):∃z,Yh (Qc a b) x.Cell=some z∧Qf x z=false:=by
 rw [(QM ha hb).2]
 have sa:=(Zi ha).2
 have sb:=(Zi hb).2
 rcases List.mem_append.1 hx with hx | hx
 ·rw [Qag sa hx]
  cases h6:Yh b x.Cell with
  | none=>exact ⟨x,rfl,YN x⟩
  | some w =>
   refine ⟨Z0 x w,rfl,?_⟩
   unfold Z0
   cases h7:Qf w x with
   | true=>exact Yx h7
   | false=>exact YN x
 ·rw [Qag sb hx]
  cases h6:Yh a x.Cell with
  | none=>exact ⟨x,rfl,YN x⟩
  | some w =>
   refine ⟨Z0 w x,rfl,?_⟩
   unfold Z0
   cases h7:Qf x w with
   | true=>exact YN x
   | false=>exact h7
end
end Go.Proofs.YtcglnehpapgfpaaDoor.AE
