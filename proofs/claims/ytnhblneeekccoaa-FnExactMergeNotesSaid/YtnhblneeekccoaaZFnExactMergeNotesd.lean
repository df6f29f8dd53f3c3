/- A part of what the row of FnExactMergeNotes uses. Conditions: as each theorem states. -/
import Derived.Test.YtnhblneeekccoaaZFnExactMergeNotesc
import Derived.Shelf.Spec.SlicesInsertGrow
import Derived.Test.YtnhblneeekccoaaProg
namespace Go.Proofs.Ytnhblneeekccoaa.AE
open Go Go.RowKit
set_option linter.unusedVariables false
set_option linter.unusedSimpArgs false
set_option maxRecDepth 20000
set_option maxHeartbeats 2000000
theorem Qf (n:Nat) (a:List D.Note) (ha:a.length≤2*mx):Pure (QJ Try.prog (n+1)) 30 [(rd 4 Qa a)] (T.sl true 4 (a.map (Qa true))):=by
 refine Pure.intro (rs:= [ResultVar.tmp 2]) Try.func30 Y Y Y (E0:= [(0,(rd 4 Qa a))]) Y ?_
 obtain ⟨hlim,hmx,hmax⟩:=ZS
 refine sr (fO (OF.assign VEv.nils) (nt (sq (sr (mO (rd 4 Qa a) Y ?_)))))
 refine VRunO.nilEq VWant.always (tv (rd 4 Qa a) Y) VEv.nils QD (fun bn1 hbn1=> ?_)
 refine nt ?_
 refine VRun.cond (tv (tB bn1) Y) (fun hc0=> ?_) (fun hc0=> ?_)
 ·have fhc0:bn1=true:=hc0
  have ebn1:=hbn1 hc0
  refine sr (fO (OF.assign VEv.nils) (nt (rt (tr ?_))))
  refine vfin.eq (r':=(T.sl true 4 [])) ?_ (vfin.r (VRes.tmp (t:=T.nils) Y VRes.nil) (Give.nils 4))
  refine congrArg (fun l_=>T.sl true 4 (List.map (Qa true) l_)) (a₁:= []) ?_
  exact (List.map_eq_nil_iff.1 ebn1).symm
 have fhc0:bn1=false:=hc0
 refine sk (tn (sr (kO (OM.slice0 QD QF (by kernel_rfl) Y (by rw [Qg];decide) Qg) (mO (rd 4 Qa a) Y (cO (B.append (rows:= []) (rows2:=(a.map (Qa false))) (rows3:=(a.map (Qa true))) (VDst.own (tv (T.os 4 0 0 0) Y) Y Y) (VSrc.read (tv (rd 4 Qa a) Y) QD (okeNote.okMap _ _)) nofun QD Qg (by decide) QF Y (of_decide_eq_true (by kernel_rfl)) (by first | omega | (simp only [List.length_map];omega) | (simp only [List.length_map,List.length_append,List.length_cons,List.length_nil,List.length_replicate,List.length_set,List.length_drop,List.length_take,QR] at *;omega)) (List.nil_append _)) (aO (T.os 4 1 0 ((a.map (Qa true)).length)) Y (nt (rt ?_))))))))
 refine vfin.eq (r':=(T.sl true 4 (a.map (Qa true)))) ?_ (vfin.r (VRes.tmp (t:=(T.os 4 1 0 ((a.map (Qa true)).length))) Y VRes.nil) (Give.os Y Y (okeNote.cleanMap _)))
 rfl
noncomputable section
def Qaz (l:List D.Note) (x:D.Note):Nat:=(l.takeWhile (fun y=>decide (y.Cell<x.Cell))).length
def Y6 (l:List D.Note) (x:D.Note):List D.Note:=match l[Qaz l x]? with
 | some y=>if y.Cell=x.Cell then (if QQ x y=true then l.take (Qaz l x)++x::l.drop (Qaz l x+1) else l) else l.take (Qaz l x)++x::l.drop (Qaz l x)
 | none=>l.take (Qaz l x)++x::l.drop (Qaz l x)
def Qy (l:List D.Note) (x:D.Note):List D.Note:=if Qb l∧Qb (Y6 l x) then Y6 l x else l
theorem Jm : ∀ {l:List D.Note} {x:D.Note} {k:Nat},k≤l.length→(∀j,j<k→∃y,l[j]? =some y∧y.Cell<x.Cell)→(∀y,l[k]? =some y→¬y.Cell<x.Cell)→Qaz l x=k
 | [],x,k,hk,h,hs=>by
  have:k=0:=by simpa using hk
  subst this
  rfl
 | z::r,x,0,hk,h,hs=>by
  have:=hs z Y
  unfold Qaz
  rw [List.takeWhile_cons,if_neg (by simpa using this)]
  rfl
 | z::r,x,k+1,hk,h,hs=>by
  obtain ⟨y,hy,h1⟩:=h 0 (by omega)
  obtain rfl:z=y:=by simpa using hy
  have ih:=Jm (l:=r) (x:=x) (k:=k) (by simpa using hk) (fun j hj=>by
   obtain ⟨y,hy,h2⟩:=h (j+1) (by omega)
   exact ⟨y,by simpa using hy,h2⟩) (fun y hy=>hs y (by simpa using hy))
  unfold Qaz at ih ⊢
  rw [List.takeWhile_cons,if_pos (by simpa using h1),List.length_cons,ih]
def isLed (l:List D.Note) (x:D.Note) (k:Nat):Prop:=k≤l.length∧∀j,j<k→∃y,l[j]? =some y∧y.Cell<x.Cell
theorem isLed.next {l:List D.Note} {x y:D.Note} {k:Nat} (h:isLed l x k) (hy:l[k]? =some y) (hc:y.Cell<x.Cell):isLed l x (k+1):=by
 have:=(List.getElem?_eq_some_iff.1 hy).1
 refine ⟨this,fun j hj=> ?_⟩
 by_cases e:j=k
 ·subst e;exact ⟨y,hy,hc⟩
 ·exact h.2 j (by omega)
theorem Qq {l:List D.Note} {x:D.Note} {k:Nat} (h:isLed l x k) (hk:¬k<l.length):Y6 l x=l.take k++x::l.drop k:=by
 have hn:l[k]? =none:=List.getElem?_eq_none (by omega)
 have e:=Jm h.1 h.2 (fun y hy=>by rw [hn] at hy;cases hy)
 simp only [Y6,e,hn]
theorem Qr {l:List D.Note} {x y:D.Note} {k:Nat} (h:isLed l x k) (hy:l[k]? =some y) (hc:¬y.Cell<x.Cell) (he:¬y.Cell=x.Cell):Y6 l x=l.take k++x::l.drop k:=by
 have e:=Jm h.1 h.2 (fun z hz=>by rw [hy] at hz;cases hz;exact hc)
 simp only [Y6,e,hy,if_neg he]
theorem Qp {l:List D.Note} {x y:D.Note} {k:Nat} (h:isLed l x k) (hy:l[k]? =some y) (he:y.Cell=x.Cell) (hl:¬QQ x y=true):Y6 l x=l:=by
 have e:=Jm h.1 h.2 (fun z hz=>by rw [hy] at hz;cases hz;omega)
 simp only [Y6,e,hy,if_pos he,if_neg hl]
theorem QI {l:List D.Note} {x y:D.Note} {k:Nat} (h:isLed l x k) (hy:l[k]? =some y) (he:y.Cell=x.Cell) (hl:QQ x y=true):Y6 l x=l.take k++x::l.drop (k+1):=by
 have e:=Jm h.1 h.2 (fun z hz=>by rw [hy] at hz;cases hz;omega)
 simp only [Y6,e,hy,if_pos he,if_pos hl]
theorem QN {l:List D.Note} {x y:D.Note} {k:Nat} (h:isLed l x k) (hy:l[k]? =some y) (he:y.Cell=x.Cell) (hl:QQ x y=true):Y6 l x=l.set k x:=by
 have hk:=(List.getElem?_eq_some_iff.1 hy).1
 rw [QI h hy he hl,List.set_eq_take_append_cons_drop,if_pos hk]
theorem Qba (l:List D.Note) (x:D.Note) (k:Nat):zL Qj (l.take k++x::l.drop k)=zL Qj l+Qj x+1:=by
 have e:zL Qj l=zL Qj (l.take k++l.drop k):=by rw [List.take_append_drop]
 rw [e,Y4,Y4]
 simp only [zL,Z9,List.length_cons];omega
theorem QbZ (l:List D.Note) (x:D.Note) (k:Nat):zL Qj (l.take k++x::l.drop (k+1))≤zL Qj l+Qj x+1:=by
 have e:zL Qj l=zL Qj (l.take k++l.drop k):=by rw [List.take_append_drop]
 have e2:zL Qj (l.drop (k+1))≤zL Qj (l.drop k):=by
  rw [show l.drop (k+1)=(l.drop k).drop 1 from (List.drop_drop ..).symm]
  cases l.drop k with
  | nil=>exact Nat.le_refl _
  | cons y r=>simp only [List.drop_succ_cons,List.drop_zero,zL,Z9,List.length_cons];omega
 rw [e,Y4,Y4]
 simp only [zL,Z9,List.length_cons] at e2 ⊢;omega
theorem Qej (l:List D.Note) (x:D.Note):zL Qj (Y6 l x)≤zL Qj l+Qj x+1:=by
 unfold Y6
 split
 ·split
  ·split
   ·exact QbZ _ _ _
   ·omega
  ·exact Nat.le_of_eq (Qba _ _ _)
 ·exact Nat.le_of_eq (Qba _ _ _)
theorem QL {α:Type} (a:List α) (x:α) (b:List α):a++ [x]++b=a++x::b:=by simp
theorem QdS {l:List D.Note} {x:D.Note} (hz:zL Qj l+Qj x+1≤2*mx) (k:Nat):zL Qj (l.take k++ [x]++l.drop k)≤2*mx:=by
 rw [QL,Qba];exact hz
theorem QdN {l:List D.Note} {x:D.Note} (hz:zL Qj l+Qj x+1≤2*mx) (k:Nat):zL Qj (l.take k++ [x]++(l.drop k).drop 1)≤2*mx:=by
 have:=QbZ l x k
 rw [QL,List.drop_drop]
 exact Nat.le_trans this hz
theorem Qdy {l:List D.Note} {x:D.Note} (hz:zL Qj l+Qj x+1≤2*mx) (k:Nat):zL Qj (l.take k++x::l.drop k)≤2*mx:=by
 rw [Qba];exact hz
theorem Qc3 {l:List D.Note} {x:D.Note} (hz:zL Qj l+Qj x+1≤2*mx) (k:Nat):zL Qj (l.set k x)≤2*mx:=by
 have:=QbZ l x k
 rw [List.set_eq_take_append_cons_drop]
 split
 ·exact Nat.le_trans this hz
 ·omega
theorem Qs {l:List D.Note} {x:D.Note} (h:¬Qb l):Qy l x=l:=if_neg (fun e=>h e.1)
theorem Qc {l q:List D.Note} {x:D.Note} (e:Y6 l x=q) (h:¬Qb q):Qy l x=l:=if_neg (fun e2=>h (e▸e2.2))
theorem Qd {l q:List D.Note} {x:D.Note} (h0:Qb l) (e:Y6 l x=q) (h:Qb q):Qy l x=q:=by
 subst e
 exact if_pos ⟨h0,h⟩
theorem Ql {l:List D.Note} {x:D.Note} (e:Y6 l x=l):Qy l x=l:=by
 unfold Qy
 rw [e]
 split<;>rfl
def Qh (a b:List D.Note):List D.Note:=if Qb a∧Qb b then b.foldl Qy a else []
theorem ZC {a b:List D.Note} (h:Qb a) (h2:Qb b):Qh a b=b.foldl Qy a:=if_pos ⟨h,h2⟩
theorem Q4 {a b:List D.Note} (h:¬Qb a∨¬Qb b):Qh a b= []:=if_neg (fun e=>h.elim (fun h=>h e.1) (fun h=>h e.2))
theorem YB {a b:List D.Note} {x:D.Note} {i:Nat} (h:b[i]? =some x):Qy ((b.take i).foldl Qy a) x=(b.take (i+1)).foldl Qy a:=by
 rw [List.take_add_one,h]
 simp
theorem Qz {α:Type} {l:List α} {k:Nat} {x:α} (h:(l.drop k)[0]? =some x):l[k]? =some x:=by simpa using h
theorem QdI (l:List D.Note) (x:D.Note):zL Qj (Qy l x)≤zL Qj l+Qj x+1:=by
 unfold Qy
 split
 ·exact Qej l x
 ·omega
theorem Jr : ∀(a b:List D.Note),zL Qj (b.foldl Qy a)≤zL Qj a+zL Qj b
 | a,[]=>Nat.le_add_right _ _
 | a,x::r=>by
  have h1:=Jr (Qy a x) r
  have h2:=QdI a x
  simp only [List.foldl_cons,zL,Z9,List.length_cons] at h1 h2 ⊢
  omega
theorem Zc {a b:List D.Note} {x:D.Note} {i:Nat} (hz:zL Qj a+zL Qj b≤2*mx) (h:b[i]? =some x):zL Qj ((b.take i).foldl Qy a)+Qj x+1≤2*mx:=by
 have h1:=Jr a (b.take i)
 have h2:=JN (z:=Qj) h
 have h3:=Jf (z:=Qj) b (i+1)
 have h4:=(List.getElem?_eq_some_iff.1 h).1
 simp only [zL,List.length_take] at h1 h3 hz ⊢
 omega
theorem Qdc (a b:List D.Note):zL Qj (Qh a b)≤zL Qj a+zL Qj b:=by
 unfold Qh
 split
 ·exact Jr a b
 ·exact Nat.zero_le _
end
theorem JX (n:Nat) (l:List D.Note) (x:D.Note) (hz:zL Qj l+Qj x+1≤2*mx):Pure (QJ Try.prog (n+4)) 8 [(rd 4 Qa l),(T.agg (Qa false x))] (T.sl true 4 ((Qy l x).map (Qa true))):=by
 refine Pure.intro (rs:= [ResultVar.tmp 4]) Try.func8 Y Y Y (E0:= [(0,(rd 4 Qa l)),(1,(T.agg (Qa false x)))]) Y ?_
 obtain ⟨hlim,hmx,hmax⟩:=ZS
 have hl:=Z2 (z:=Qj) l
 have hq1:=QdS hz
 have hq2:=QdN hz
 refine sr (kO (B.box (ts:=(Qa false x)) (tv (T.agg (Qa false x)) Y) nofun Y) (fO (OF.assign VEv.nils) (nt (sr (fO (OF.assign (VEv.int .i64 0)) (nt (sq (VRun.block ?_))))))))
 refine VRun.loop (A:=Nat) (fun s_=> [(0,(rd 4 Qa l)),(3,(T.op 0 0)),(4,T.nils),(5,(tN s_))]) (fun s_=>Jz [(0,(Obj.cells (Qa false x)))]) 1 (fun s_=>isLed l x s_) (fun s_=>l.length - s_) (0:Nat) ?_ (Wk.mk (fun k=>k) ?_ ?_ ?_) ?_
 ·exact ⟨Nat.zero_le _,fun j hj=>by omega⟩
 ·exact (b2 (b2 (b2 (b2 bn))))
 ·exact (b3 bn)
 ·exact nd Y
 rintro k (hI':isLed l x k)
 show VRun _ _ _ [(0,(rd 4 Qa l)),(3,(T.op 0 0)),(4,T.nils),(5,(tN k))] (Jz [(0,(Obj.cells (Qa false x)))]) 1 _
 have hI1:=hI'.1
 refine sq (sq (VRun.draw (B:= [[],[],[1],[1,2,0],[0,2,1,3],[3,1,2,0,4],[3,1,2,0,4],[6,4,0,2,1,3,5],[5,3,1,2,0,4,6,7],[7,6,4,0,2,1,3,5,8],[3,1,2,0,4],[4,0,2,1,3,10],[10,11,8,5,3,1,2,0,4,6,7,9],[9,7,6,5,8,11,10,12,3,1,2,0,4]]) (by kernel_rfl) (by kernel_rfl) (mD (tN k) Y Y (mD (rd 4 Qa l) Y Y (lD (B.lenR (m:=l.length) (tv (rd 4 Qa l) Y) QD (List.length_map ..)) Y Y (fD (JG (tv (tN k) Y) (tv (tN l.length) Y)) Y Y (mD (tB (decide (k<l.length))) Y Y ?_)))))))
 refine gw (k<l.length) (fun fhg12_1=> ?_) fun fhg12_1=> ?_
 ·refine VRunD.free Y (VWant.on Y Y (dy fhg12_1)) Y (OF.move (tv (rd 4 Qa l) Y)) ?_
  refine VRunD.free Y (VWant.on Y Y (dy fhg12_1)) Y (OF.move (tv (tN k) Y)) ?_
  obtain ⟨x1,hx1⟩:∃x,l[k]? =some x:=⟨_,List.getElem?_eq_getElem (by first | exact hq1 _ | exact hq2 _ | omega)⟩
  refine VRunD.free Y (VWant.on Y Y (dy fhg12_1)) Y (OF.indexAddrR (row:=(Qa false x1)) (i:=k) (tv (rd 4 Qa l) Y) (tv (tN k) Y) Y (QK _ hx1) QD Qg Q3) (VRunD.free Y (VWant.on Y Y (dy fhg12_1)) Y (B.fieldAddrR (us:=(Qa false x1)) (tv (T.rp (Qa false x1)) Y) (lb Y) QY Y) (VRunD.look Y (VWant.on Y Y (dy fhg12_1)) Y (OL.loadR1 (t:=(tI x1.Cell)) (tv (T.rp (Qa false x1)) Y) Y ZE) (VRunD.free Y (VWant.on Y Y (dy fhg12_1)) Y (OF.fieldAddrO (tv (T.op 0 0) Y) QY) (VRunD.look Y (VWant.on Y Y (dy fhg12_1)) Y (OL.loadO1 (t:=(tI x.Cell)) (tv (T.op 0 0) Y) Y Y ZE) (VRunD.free Y (VWant.on Y Y (dy fhg12_1)) Y (xls (tv (tI x1.Cell) Y) (tv (tI x.Cell) Y)) (fD (OF.pickT (VEv.tmpB Y (dy fhg12_1)) (tv (tB (decide (x1.Cell<x.Cell))) Y)) Y Y (VRunD.nil (tn ?_))))))))
  refine cd (x1.Cell<x.Cell) Y (fun fhc0=> ?_) fun fhc0=> ?_
  ·refine sk ?_
   refine tn (VRun.block (VRun.region (mO (tN k) Y (fO (ZQ (tv (tN k) Y) (VEv.int .i64 1) (by first | exact hq1 _ | exact hq2 _ | omega)) (aO (tN (k+1)) Y (VRunO.nil (vinB.n (tn ?_))))))))
   refine ⟨(k+1:Nat),?_,?_,Wk.mk (fun k=>k) ?_ ?_ ?_⟩
   ·exact hI'.next hx1 (by assumption)
   ·first | omega | (simp only [];omega) | (show _<_;omega) | (simp;omega)
   ·exact (b2 (b2 (b2 (b2 bn))))
   ·exact (b3 bn)
   ·exact nd Y
  refine VRun.exit (vthn.e (vthn.e (vinB.e (tn (sr (mO (rd 4 Qa l) Y (mO (tN k) Y ?_)))))))
  refine lO (show OL _ _ _ _ _ (T.sl false 4 ((l.drop k).map (Qa false))) by rw [show (l.drop k).map (Qa false)=(l.map (Qa false)).drop k from List.map_drop ..];exact (OL.sliceRLo (i:=k) (tv (rd 4 Qa l) Y) (tv (tN k) Y) Y (by first | exact hq1 _ | exact hq2 _ | omega | (simp only [List.length_map];omega) | (simp only [List.length_map,List.length_append,List.length_cons,List.length_nil,List.length_replicate,List.length_set,List.length_drop,List.length_take,QR] at *;omega)) QD Qg Q3)) (aO (rd 4 Qa (l.drop k)) Y (nt (sq (sq (VRun.draw (B:= [[],[0],[0,1],[1,0,2],[2,0,1,3],[3,1,0,2,4],[4,2,0,1,3,5],[5,3,1,0,2,4,6],[2,0,1,3],[3,1,0,2,8],[8,9,6,4,2,0,1,3,5,7],[7,5,4,6,9,8,10,2,0,1,3]]) (by kernel_rfl) (by kernel_rfl) (mD (rd 4 Qa (l.drop k)) Y Y (lD (B.lenR (m:=(l.drop k).length) (tv (rd 4 Qa (l.drop k)) Y) QD (List.length_map ..)) Y Y (fD (B.gtr (c:=(decide (0<(l.drop k).length))) (tv (tN ((l.drop k).length)) Y) (VEv.int .i64 0) (by first | exact hq1 _ | exact hq2 _ | (exact ZH (by omega)))) Y Y (mD (tB (decide (0<(l.drop k).length))) Y Y ?_)))))))))
  refine gw (0<(l.drop k).length) (fun fhg30_2=> ?_) fun fhg30_2=> ?_
  ·refine VRunD.free Y (VWant.on Y Y (dy fhg30_2)) Y (OF.move (tv (rd 4 Qa (l.drop k)) Y)) ?_
   obtain ⟨x2,hx2⟩:∃x,(l.drop k)[0]? =some x:=⟨_,List.getElem?_eq_getElem (by first | exact hq1 _ | exact hq2 _ | omega | (simp only [List.length_map];omega) | (simp only [List.length_map,List.length_append,List.length_cons,List.length_nil,List.length_replicate,List.length_set,List.length_drop,List.length_take,QR] at *;omega))⟩
   refine VRunD.free Y (VWant.on Y Y (dy fhg30_2)) Y (OF.indexAddrR (row:=(Qa false x2)) (i:=0) (tv (rd 4 Qa (l.drop k)) Y) (VEv.int .i64 0) Y (QK _ hx2) QD Qg Q3) (VRunD.free Y (VWant.on Y Y (dy fhg30_2)) Y (B.fieldAddrR (us:=(Qa false x2)) (tv (T.rp (Qa false x2)) Y) (lb Y) QY Y) (VRunD.look Y (VWant.on Y Y (dy fhg30_2)) Y (OL.loadR1 (t:=(tI x2.Cell)) (tv (T.rp (Qa false x2)) Y) Y ZE) (VRunD.free Y (VWant.on Y Y (dy fhg30_2)) Y (OF.fieldAddrO (tv (T.op 0 0) Y) QY) (VRunD.look Y (VWant.on Y Y (dy fhg30_2)) Y (OL.loadO1 (t:=(tI x.Cell)) (tv (T.op 0 0) Y) Y Y ZE) (VRunD.free Y (VWant.on Y Y (dy fhg30_2)) Y (xeq (tv (tI x2.Cell) Y) (tv (tI x.Cell) Y)) (fD (OF.pickT (VEv.tmpB Y (dy fhg30_2)) (tv (tB (decide (x2.Cell=x.Cell))) Y)) Y Y (VRunD.nil (tn ?_))))))))
   refine cd (x2.Cell=x.Cell) Y (fun fhc1=> ?_) fun fhc1=> ?_
   ·refine sq ?_
    refine sq (VRun.draw (B:= [[],[],[1],[1,2],[2,1,3,0],[0,3,1,2,4]]) (by kernel_rfl) (by kernel_rfl) (lD (OL.loadOn (us:=(Qa false x)) (tv (T.op 0 0) Y) Y Zx Qg (lb Y) Y) Y Y (mD (rd 4 Qa (l.drop k)) Y Y (fD (OF.indexAddrR (row:=(Qa false x2)) (i:=0) (tv (rd 4 Qa (l.drop k)) Y) (VEv.int .i64 0) Y (QK _ hx2) QD Qg Q3) Y Y (lD (OL.loadRn (us:=(Qa false x2)) (tv (T.rp (Qa false x2)) Y) Zx Qg (lb Y) Y) Y Y (VRunD.quiet (bi:= [2,1,3,0]) Y VWant.always Y Y Y bn (cS (vc (tv (T.agg (Qa false x)) Y) (vc (tv (T.agg (Qa false x2)) Y) vn)) (LendL.cons (lg okeNote) (LendL.cons (lg okeNote) ln)) (YX (n+2) x x2) Y Y) (fD (QU (tv (tB (QQ x x2)) Y)) Y Y (VRunD.nil (tn ?_)))))))))
    refine VRun.cond (tv (tB (!(QQ x x2))) Y) (fun hc2=> ?_) (fun hc2=> ?_)
    ·have fhc2:(QQ x x2)=false:=QeO hc2
     refine sr (kO (OM.slice0 QD QF (by kernel_rfl) Y (by rw [Qg];decide) Qg) (mO (rd 4 Qa l) Y (cO (B.append (rows:= []) (rows2:=(l.map (Qa false))) (rows3:=(l.map (Qa true))) (VDst.own (tv (T.os 4 1 0 0) Y) Y Y) (VSrc.read (tv (rd 4 Qa l) Y) QD (okeNote.okMap _ _)) nofun QD Qg (by decide) QF Y (of_decide_eq_true (by kernel_rfl)) (by first | exact hq1 _ | exact hq2 _ | omega | (simp only [List.length_map];omega) | (simp only [List.length_map,List.length_append,List.length_cons,List.length_nil,List.length_replicate,List.length_set,List.length_drop,List.length_take,QR] at *;omega)) (List.nil_append _)) (aO (T.os 4 2 0 ((l.map (Qa true)).length)) Y (nt (rt (tr (tr ?_))))))))
     refine vfin.eq (r':=(T.sl true 4 (l.map (Qa true)))) ?_ (vfin.r (VRes.tmp (t:=(T.os 4 2 0 ((l.map (Qa true)).length))) Y VRes.nil) (Give.os Y Y (okeNote.cleanMap _)))
     refine congrArg (fun l_=>T.sl true 4 (List.map (Qa true) l_)) ?_
     first
     | (exfalso;simp only [List.length_drop] at *;omega)
     | (cases Qz hx2▸hx1;exact (Ql (Qp hI' hx1 fhc1 (by rw [fhc2];decide))).symm)
     | (symm;exact Qs ‹¬Qb l›)
     | (cases Qz hx2▸hx1;symm;have e:=QI hI' hx1 fhc1 fhc2;rw [QL,List.drop_drop] at *;first | exact Qc e fhc3 | exact Qd ‹Qb l› e fhc3)
     | (have e:=Qq hI' (by omega);rw [QL] at *;symm;first | exact Qc e fhc3 | exact Qd ‹Qb l› e fhc3)
     | (cases Qz hx2▸hx1;have e:=Qr hI' hx1 fhc0 fhc1;rw [QL] at *;symm;first | exact Qc e fhc3 | exact Qd ‹Qb l› e fhc3)
    have fhc2:(QQ x x2)=true:=QeI hc2
    refine sk (tn (VRun.region (mO (rd 4 Qa (l.drop k)) Y ?_)))
    refine lO (show OL _ _ _ _ _ (T.sl false 4 (((l.drop k).drop 1).map (Qa false))) by rw [show ((l.drop k).drop 1).map (Qa false)=((l.drop k).map (Qa false)).drop 1 from List.map_drop ..];exact (OL.sliceRLo (i:=1) (tv (rd 4 Qa (l.drop k)) Y) (VEv.int .i64 1) Y (by first | exact hq1 _ | exact hq2 _ | omega | (simp only [List.length_map];omega) | (simp only [List.length_map,List.length_append,List.length_cons,List.length_nil,List.length_replicate,List.length_set,List.length_drop,List.length_take,QR] at *;omega)) QD Qg Q3)) (aO (rd 4 Qa ((l.drop k).drop 1)) Y (VRunO.nil (tn (sq (VRun.draw (B:= [[],[],[],[2,1],[1,2,3,0],[],[5],[5,6,0,3,2,1,4],[],[8,4,1,2,3,0,6,5,7],[7,5,6,0,3,2,1,4,8,9]]) (by kernel_rfl) (by kernel_rfl) (VRunD.make Y VWant.always Y (OM.slice0 QD QF (by kernel_rfl) Y (by rw [Qg];decide) Qg) (mD (rd 4 Qa l) Y Y (mD (tN k) Y Y ?_))))))))
    refine lD (show OL _ _ _ _ _ (T.sl false 4 ((l.take k).map (Qa false))) by rw [show (l.take k).map (Qa false)=(l.map (Qa false)).take k from List.map_take ..];exact (OL.sliceRHi (j:=k) (tv (rd 4 Qa l) Y) (tv (tN k) Y) Y (by first | exact hq1 _ | exact hq2 _ | omega | (simp only [List.length_map];omega) | (simp only [List.length_map,List.length_append,List.length_cons,List.length_nil,List.length_replicate,List.length_set,List.length_drop,List.length_take,QR] at *;omega)) QD Qg Q3)) Y Y (VRunD.quiet (bi:= [1,2,3,0]) Y VWant.always Y Y Y (bc (lb Y) bn) (B.append (rows:= []) (rows2:=((l.take k).map (Qa false))) (rows3:=((l.take k).map (Qa true))) (VDst.own (tv (T.os 4 1 0 0) Y) Y Y) (VSrc.read (tv (rd 4 Qa (l.take k)) Y) QD (okeNote.okMap _ _)) nofun QD Qg (by decide) QF Y (of_decide_eq_true (by kernel_rfl)) (by first | exact hq1 _ | exact hq2 _ | omega | (simp only [List.length_map];omega) | (simp only [List.length_map,List.length_append,List.length_cons,List.length_nil,List.length_replicate,List.length_set,List.length_drop,List.length_take,QR] at *;omega)) (List.nil_append _)) (lD (OL.loadOn (us:=(Qa false x)) (tv (T.op 0 0) Y) Y Zx Qg (lb Y) Y) Y Y (VRunD.make Y VWant.always Y (OM.buildSlice (l:= [(T.agg (Qa false x))]) (VEvp.cons (tv (T.agg (Qa false x)) Y) VEvp.nil) Y (by decide) (bc (nofun) bn) (bc ((bc (Y) (bc (Y) (bc (Y) (bc (Y) bn))))) bn) (bc (Y) bn) QD QF (by kernel_rfl) Y (by rw [Qg];decide) Qg (Nat.le_of_ble_eq_true Y)) (VRunD.quiet (bi:= [5,6,0,3,2,1,4]) Y VWant.always Y Y Y (bc (lb Y) (bc (lb Y) bn)) (B.append (rows:=((l.take k).map (Qa true))) (rows2:= [[(tI x.Cell),(tS x.Letter),(tI x.Tick),(tI x.Who)]]) (rows3:=(((l.take k)++ [x]).map (Qa true))) (VDst.own (tv (T.os 4 2 0 (((l.take k).map (Qa true)).length)) Y) Y Y) (VSrc.own (tv (T.os 4 3 0 1) Y) Y Y QD (bc (bc Y (bc Y (bc Y (bc Y bn)))) bn)) (by decide) QD Qg (by decide) QF Y (of_decide_eq_true (by kernel_rfl)) (by first | exact hq1 _ | exact hq2 _ | omega | (simp only [List.length_map];omega) | (simp only [List.length_map,List.length_append,List.length_cons,List.length_nil,List.length_replicate,List.length_set,List.length_drop,List.length_take,QR] at *;omega)) ((List.map_append (f:=Qa true) (l₁:=(l.take k)) (l₂:= [x])).symm)) (mD (rd 4 Qa ((l.drop k).drop 1)) Y Y (VRunD.quiet (bi:= [8,4,1,2,3,0,6,5,7]) Y VWant.always Y Y Y (bc (lb Y) bn) (B.append (rows:=(((l.take k)++ [x]).map (Qa true))) (rows2:=(((l.drop k).drop 1).map (Qa false))) (rows3:=((((l.take k)++ [x])++((l.drop k).drop 1)).map (Qa true))) (VDst.own (tv (T.os 4 4 0 ((((l.take k)++ [x]).map (Qa true)).length)) Y) Y Y) (VSrc.read (tv (rd 4 Qa ((l.drop k).drop 1)) Y) QD (okeNote.okMap _ _)) nofun QD Qg (by decide) QF Y (of_decide_eq_true (by kernel_rfl)) (by first | exact hq1 _ | exact hq2 _ | omega | (simp only [List.length_map];omega) | (simp only [List.length_map,List.length_append,List.length_cons,List.length_nil,List.length_replicate,List.length_set,List.length_drop,List.length_take,QR] at *;omega)) ((List.map_append (f:=Qa true) (l₁:=((l.take k)++ [x])) (l₂:=((l.drop k).drop 1))).symm)) ?_))))))
    refine fD (OF.assign (tv (T.os 4 5 0 (((((l.take k)++ [x])++((l.drop k).drop 1)).map (Qa true)).length)) Y)) Y Y (VRunD.nil (tn (sq (sr (mO (rd 4 Qa l) Y (cO (cS (vc (tv (rd 4 Qa l) Y) vn) (ZM Y) (Qw (n+0) l (by first | exact hq1 _ | exact hq2 _ | assumption | omega)) Y Y) (fO (QU (tv (tB (decide (Qb l))) Y)) (mO (tB (!(decide (Qb l)))) Y ?_))))))))
    refine gn (Qb l) (fun fhg63_3=> ?_) fun fhg63_3=> ?_
    ·refine Ji 3 3 false 63 (ny fhg63_3) Y Y Y ?_
     refine fO (OF.pickT (VEv.tmpB Y (ny fhg63_3)) (VEv.bool true)) (nt (ct Y (sr (kO (OM.slice0 QD QF (by kernel_rfl) Y (by rw [Qg];decide) Qg) (mO (rd 4 Qa l) Y (cO (B.append (rows:= []) (rows2:=(l.map (Qa false))) (rows3:=(l.map (Qa true))) (VDst.own (tv (T.os 4 6 0 0) Y) Y Y) (VSrc.read (tv (rd 4 Qa l) Y) QD (okeNote.okMap _ _)) nofun QD Qg (by decide) QF Y (of_decide_eq_true (by kernel_rfl)) (by first | exact hq1 _ | exact hq2 _ | omega | (simp only [List.length_map];omega) | (simp only [List.length_map,List.length_append,List.length_cons,List.length_nil,List.length_replicate,List.length_set,List.length_drop,List.length_take,QR] at *;omega)) (List.nil_append _)) (aO (T.os 4 7 0 ((l.map (Qa true)).length)) Y (nt (rt (tr ?_))))))))))
     refine vfin.eq (r':=(T.sl true 4 (l.map (Qa true)))) ?_ (vfin.r (VRes.tmp (t:=(T.os 4 7 0 ((l.map (Qa true)).length))) Y VRes.nil) (Give.os Y Y (okeNote.cleanMap _)))
     refine congrArg (fun l_=>T.sl true 4 (List.map (Qa true) l_)) ?_
     first
     | (exfalso;simp only [List.length_drop] at *;omega)
     | (cases Qz hx2▸hx1;exact (Ql (Qp hI' hx1 fhc1 (by rw [fhc2];decide))).symm)
     | (symm;exact Qs ‹¬Qb l›)
     | (cases Qz hx2▸hx1;symm;have e:=QI hI' hx1 fhc1 fhc2;rw [QL,List.drop_drop] at *;first | exact Qc e fhc3 | exact Qd ‹Qb l› e fhc3)
     | (have e:=Qq hI' (by omega);rw [QL] at *;symm;first | exact Qc e fhc3 | exact Qd ‹Qb l› e fhc3)
     | (cases Qz hx2▸hx1;have e:=Qr hI' hx1 fhc0 fhc1;rw [QL] at *;symm;first | exact Qc e fhc3 | exact Qd ‹Qb l› e fhc3)
    refine gF (nz fhg63_3) Y Y (OF.move (tv (T.os 4 5 0 (((((l.take k)++ [x])++((l.drop k).drop 1)).map (Qa true)).length)) Y)) (VRunO.chain (VWant.on Y Y (nz fhg63_3)) (cS (us:= [(rd 4 Qa (((l.take k)++ [x])++((l.drop k).drop 1)))]) (vc (tv (T.os 4 5 0 (((((l.take k)++ [x])++((l.drop k).drop 1)).map (Qa true)).length)) Y) vn) (LendL.cons (Lend.os Y Y (okeNote.fzMap _ _)) ln) (Qw (n+0) (((l.take k)++ [x])++((l.drop k).drop 1)) (by first | exact hq1 _ | exact hq2 _ | assumption | omega)) Y Y) (gF (nz fhg63_3) Y Y (QU (tv (tB (decide (Qb (((l.take k)++ [x])++((l.drop k).drop 1))))) Y)) (fO (OF.pickF (VEv.tmpB Y (nz fhg63_3)) (tv (tB (!(decide (Qb (((l.take k)++ [x])++((l.drop k).drop 1)))))) Y)) (nt ?_))))
    refine cn (Qb (((l.take k)++ [x])++((l.drop k).drop 1))) Y (fun fhc3=> ?_) fun fhc3=> ?_
    ·refine sr ?_
     refine kO (OM.slice0 QD QF (by kernel_rfl) Y (by rw [Qg];decide) Qg) (mO (rd 4 Qa l) Y (cO (B.append (rows:= []) (rows2:=(l.map (Qa false))) (rows3:=(l.map (Qa true))) (VDst.own (tv (T.os 4 6 0 0) Y) Y Y) (VSrc.read (tv (rd 4 Qa l) Y) QD (okeNote.okMap _ _)) nofun QD Qg (by decide) QF Y (of_decide_eq_true (by kernel_rfl)) (by first | exact hq1 _ | exact hq2 _ | omega | (simp only [List.length_map];omega) | (simp only [List.length_map,List.length_append,List.length_cons,List.length_nil,List.length_replicate,List.length_set,List.length_drop,List.length_take,QR] at *;omega)) (List.nil_append _)) (aO (T.os 4 7 0 ((l.map (Qa true)).length)) Y (nt (rt (tr ?_))))))
     refine vfin.eq (r':=(T.sl true 4 (l.map (Qa true)))) ?_ (vfin.r (VRes.tmp (t:=(T.os 4 7 0 ((l.map (Qa true)).length))) Y VRes.nil) (Give.os Y Y (okeNote.cleanMap _)))
     refine congrArg (fun l_=>T.sl true 4 (List.map (Qa true) l_)) ?_
     first
     | (exfalso;simp only [List.length_drop] at *;omega)
     | (cases Qz hx2▸hx1;exact (Ql (Qp hI' hx1 fhc1 (by rw [fhc2];decide))).symm)
     | (symm;exact Qs ‹¬Qb l›)
     | (cases Qz hx2▸hx1;symm;have e:=QI hI' hx1 fhc1 fhc2;rw [QL,List.drop_drop] at *;first | exact Qc e fhc3 | exact Qd ‹Qb l› e fhc3)
     | (have e:=Qq hI' (by omega);rw [QL] at *;symm;first | exact Qc e fhc3 | exact Qd ‹Qb l› e fhc3)
     | (cases Qz hx2▸hx1;have e:=Qr hI' hx1 fhc0 fhc1;rw [QL] at *;symm;first | exact Qc e fhc3 | exact Qd ‹Qb l› e fhc3)
    refine sk (tn (sr (mO (T.os 4 5 0 (((((l.take k)++ [x])++((l.drop k).drop 1)).map (Qa true)).length)) Y (aO (T.os 4 5 0 (((((l.take k)++ [x])++((l.drop k).drop 1)).map (Qa true)).length)) Y (nt (rt ?_))))))
    refine vfin.eq (r':=(T.sl true 4 ((((l.take k)++ [x])++((l.drop k).drop 1)).map (Qa true)))) ?_ (vfin.r (VRes.tmp (t:=(T.os 4 5 0 (((((l.take k)++ [x])++((l.drop k).drop 1)).map (Qa true)).length))) Y VRes.nil) (Give.os Y Y (okeNote.cleanMap _)))
    refine congrArg (fun l_=>T.sl true 4 (List.map (Qa true) l_)) ?_
    first
    | (exfalso;simp only [List.length_drop] at *;omega)
    | (cases Qz hx2▸hx1;exact (Ql (Qp hI' hx1 fhc1 (by rw [fhc2];decide))).symm)
    | (symm;exact Qs ‹¬Qb l›)
    | (cases Qz hx2▸hx1;symm;have e:=QI hI' hx1 fhc1 fhc2;rw [QL,List.drop_drop] at *;first | exact Qc e fhc3 | exact Qd ‹Qb l› e fhc3)
    | (have e:=Qq hI' (by omega);rw [QL] at *;symm;first | exact Qc e fhc3 | exact Qd ‹Qb l› e fhc3)
    | (cases Qz hx2▸hx1;have e:=Qr hI' hx1 fhc0 fhc1;rw [QL] at *;symm;first | exact Qc e fhc3 | exact Qd ‹Qb l› e fhc3)
   refine sk (tn (sq (VRun.draw (B:= [[],[],[],[2,1],[1,2,3,0],[],[5],[5,6,0,3,2,1,4],[],[8,4,1,2,3,0,6,5,7],[7,5,6,0,3,2,1,4,8,9]]) (by kernel_rfl) (by kernel_rfl) (VRunD.make Y VWant.always Y (OM.slice0 QD QF (by kernel_rfl) Y (by rw [Qg];decide) Qg) (mD (rd 4 Qa l) Y Y (mD (tN k) Y Y ?_))))))
   refine lD (show OL _ _ _ _ _ (T.sl false 4 ((l.take k).map (Qa false))) by rw [show (l.take k).map (Qa false)=(l.map (Qa false)).take k from List.map_take ..];exact (OL.sliceRHi (j:=k) (tv (rd 4 Qa l) Y) (tv (tN k) Y) Y (by first | exact hq1 _ | exact hq2 _ | omega | (simp only [List.length_map];omega) | (simp only [List.length_map,List.length_append,List.length_cons,List.length_nil,List.length_replicate,List.length_set,List.length_drop,List.length_take,QR] at *;omega)) QD Qg Q3)) Y Y (VRunD.quiet (bi:= [1,2,3,0]) Y VWant.always Y Y Y (bc (lb Y) bn) (B.append (rows:= []) (rows2:=((l.take k).map (Qa false))) (rows3:=((l.take k).map (Qa true))) (VDst.own (tv (T.os 4 1 0 0) Y) Y Y) (VSrc.read (tv (rd 4 Qa (l.take k)) Y) QD (okeNote.okMap _ _)) nofun QD Qg (by decide) QF Y (of_decide_eq_true (by kernel_rfl)) (by first | exact hq1 _ | exact hq2 _ | omega | (simp only [List.length_map];omega) | (simp only [List.length_map,List.length_append,List.length_cons,List.length_nil,List.length_replicate,List.length_set,List.length_drop,List.length_take,QR] at *;omega)) (List.nil_append _)) (lD (OL.loadOn (us:=(Qa false x)) (tv (T.op 0 0) Y) Y Zx Qg (lb Y) Y) Y Y (VRunD.make Y VWant.always Y (OM.buildSlice (l:= [(T.agg (Qa false x))]) (VEvp.cons (tv (T.agg (Qa false x)) Y) VEvp.nil) Y (by decide) (bc (nofun) bn) (bc ((bc (Y) (bc (Y) (bc (Y) (bc (Y) bn))))) bn) (bc (Y) bn) QD QF (by kernel_rfl) Y (by rw [Qg];decide) Qg (Nat.le_of_ble_eq_true Y)) (VRunD.quiet (bi:= [5,6,0,3,2,1,4]) Y VWant.always Y Y Y (bc (lb Y) (bc (lb Y) bn)) (B.append (rows:=((l.take k).map (Qa true))) (rows2:= [[(tI x.Cell),(tS x.Letter),(tI x.Tick),(tI x.Who)]]) (rows3:=(((l.take k)++ [x]).map (Qa true))) (VDst.own (tv (T.os 4 2 0 (((l.take k).map (Qa true)).length)) Y) Y Y) (VSrc.own (tv (T.os 4 3 0 1) Y) Y Y QD (bc (bc Y (bc Y (bc Y (bc Y bn)))) bn)) (by decide) QD Qg (by decide) QF Y (of_decide_eq_true (by kernel_rfl)) (by first | exact hq1 _ | exact hq2 _ | omega | (simp only [List.length_map];omega) | (simp only [List.length_map,List.length_append,List.length_cons,List.length_nil,List.length_replicate,List.length_set,List.length_drop,List.length_take,QR] at *;omega)) ((List.map_append (f:=Qa true) (l₁:=(l.take k)) (l₂:= [x])).symm)) (mD (rd 4 Qa (l.drop k)) Y Y (VRunD.quiet (bi:= [8,4,1,2,3,0,6,5,7]) Y VWant.always Y Y Y (bc (lb Y) bn) (B.append (rows:=(((l.take k)++ [x]).map (Qa true))) (rows2:=((l.drop k).map (Qa false))) (rows3:=((((l.take k)++ [x])++(l.drop k)).map (Qa true))) (VDst.own (tv (T.os 4 4 0 ((((l.take k)++ [x]).map (Qa true)).length)) Y) Y Y) (VSrc.read (tv (rd 4 Qa (l.drop k)) Y) QD (okeNote.okMap _ _)) nofun QD Qg (by decide) QF Y (of_decide_eq_true (by kernel_rfl)) (by first | exact hq1 _ | exact hq2 _ | omega | (simp only [List.length_map];omega) | (simp only [List.length_map,List.length_append,List.length_cons,List.length_nil,List.length_replicate,List.length_set,List.length_drop,List.length_take,QR] at *;omega)) ((List.map_append (f:=Qa true) (l₁:=((l.take k)++ [x])) (l₂:=(l.drop k))).symm)) ?_))))))
   refine fD (OF.assign (tv (T.os 4 5 0 (((((l.take k)++ [x])++(l.drop k)).map (Qa true)).length)) Y)) Y Y (VRunD.nil (tn (sq (sr (mO (rd 4 Qa l) Y (cO (cS (vc (tv (rd 4 Qa l) Y) vn) (ZM Y) (Qw (n+0) l (by first | exact hq1 _ | exact hq2 _ | assumption | omega)) Y Y) (fO (QU (tv (tB (decide (Qb l))) Y)) (mO (tB (!(decide (Qb l)))) Y ?_))))))))
   refine gn (Qb l) (fun fhg63_4=> ?_) fun fhg63_4=> ?_
   ·refine Ji 3 3 false 63 (ny fhg63_4) Y Y Y ?_
    refine fO (OF.pickT (VEv.tmpB Y (ny fhg63_4)) (VEv.bool true)) (nt (ct Y (sr (kO (OM.slice0 QD QF (by kernel_rfl) Y (by rw [Qg];decide) Qg) (mO (rd 4 Qa l) Y (cO (B.append (rows:= []) (rows2:=(l.map (Qa false))) (rows3:=(l.map (Qa true))) (VDst.own (tv (T.os 4 6 0 0) Y) Y Y) (VSrc.read (tv (rd 4 Qa l) Y) QD (okeNote.okMap _ _)) nofun QD Qg (by decide) QF Y (of_decide_eq_true (by kernel_rfl)) (by first | exact hq1 _ | exact hq2 _ | omega | (simp only [List.length_map];omega) | (simp only [List.length_map,List.length_append,List.length_cons,List.length_nil,List.length_replicate,List.length_set,List.length_drop,List.length_take,QR] at *;omega)) (List.nil_append _)) (aO (T.os 4 7 0 ((l.map (Qa true)).length)) Y (nt (rt (tr ?_))))))))))
    refine vfin.eq (r':=(T.sl true 4 (l.map (Qa true)))) ?_ (vfin.r (VRes.tmp (t:=(T.os 4 7 0 ((l.map (Qa true)).length))) Y VRes.nil) (Give.os Y Y (okeNote.cleanMap _)))
    refine congrArg (fun l_=>T.sl true 4 (List.map (Qa true) l_)) ?_
    first
    | (exfalso;simp only [List.length_drop] at *;omega)
    | (cases Qz hx2▸hx1;exact (Ql (Qp hI' hx1 fhc1 (by rw [fhc2];decide))).symm)
    | (symm;exact Qs ‹¬Qb l›)
    | (cases Qz hx2▸hx1;symm;have e:=QI hI' hx1 fhc1 fhc2;rw [QL,List.drop_drop] at *;first | exact Qc e fhc3 | exact Qd ‹Qb l› e fhc3)
    | (have e:=Qq hI' (by omega);rw [QL] at *;symm;first | exact Qc e fhc3 | exact Qd ‹Qb l› e fhc3)
    | (cases Qz hx2▸hx1;have e:=Qr hI' hx1 fhc0 fhc1;rw [QL] at *;symm;first | exact Qc e fhc3 | exact Qd ‹Qb l› e fhc3)
   refine gF (nz fhg63_4) Y Y (OF.move (tv (T.os 4 5 0 (((((l.take k)++ [x])++(l.drop k)).map (Qa true)).length)) Y)) (VRunO.chain (VWant.on Y Y (nz fhg63_4)) (cS (us:= [(rd 4 Qa (((l.take k)++ [x])++(l.drop k)))]) (vc (tv (T.os 4 5 0 (((((l.take k)++ [x])++(l.drop k)).map (Qa true)).length)) Y) vn) (LendL.cons (Lend.os Y Y (okeNote.fzMap _ _)) ln) (Qw (n+0) (((l.take k)++ [x])++(l.drop k)) (by first | exact hq1 _ | exact hq2 _ | assumption | omega)) Y Y) (gF (nz fhg63_4) Y Y (QU (tv (tB (decide (Qb (((l.take k)++ [x])++(l.drop k))))) Y)) (fO (OF.pickF (VEv.tmpB Y (nz fhg63_4)) (tv (tB (!(decide (Qb (((l.take k)++ [x])++(l.drop k)))))) Y)) (nt ?_))))
   refine cn (Qb (((l.take k)++ [x])++(l.drop k))) Y (fun fhc3=> ?_) fun fhc3=> ?_
   ·refine sr ?_
    refine kO (OM.slice0 QD QF (by kernel_rfl) Y (by rw [Qg];decide) Qg) (mO (rd 4 Qa l) Y (cO (B.append (rows:= []) (rows2:=(l.map (Qa false))) (rows3:=(l.map (Qa true))) (VDst.own (tv (T.os 4 6 0 0) Y) Y Y) (VSrc.read (tv (rd 4 Qa l) Y) QD (okeNote.okMap _ _)) nofun QD Qg (by decide) QF Y (of_decide_eq_true (by kernel_rfl)) (by first | exact hq1 _ | exact hq2 _ | omega | (simp only [List.length_map];omega) | (simp only [List.length_map,List.length_append,List.length_cons,List.length_nil,List.length_replicate,List.length_set,List.length_drop,List.length_take,QR] at *;omega)) (List.nil_append _)) (aO (T.os 4 7 0 ((l.map (Qa true)).length)) Y (nt (rt (tr ?_))))))
    refine vfin.eq (r':=(T.sl true 4 (l.map (Qa true)))) ?_ (vfin.r (VRes.tmp (t:=(T.os 4 7 0 ((l.map (Qa true)).length))) Y VRes.nil) (Give.os Y Y (okeNote.cleanMap _)))
    refine congrArg (fun l_=>T.sl true 4 (List.map (Qa true) l_)) ?_
    first
    | (exfalso;simp only [List.length_drop] at *;omega)
    | (cases Qz hx2▸hx1;exact (Ql (Qp hI' hx1 fhc1 (by rw [fhc2];decide))).symm)
    | (symm;exact Qs ‹¬Qb l›)
    | (cases Qz hx2▸hx1;symm;have e:=QI hI' hx1 fhc1 fhc2;rw [QL,List.drop_drop] at *;first | exact Qc e fhc3 | exact Qd ‹Qb l› e fhc3)
    | (have e:=Qq hI' (by omega);rw [QL] at *;symm;first | exact Qc e fhc3 | exact Qd ‹Qb l› e fhc3)
    | (cases Qz hx2▸hx1;have e:=Qr hI' hx1 fhc0 fhc1;rw [QL] at *;symm;first | exact Qc e fhc3 | exact Qd ‹Qb l› e fhc3)
   refine sk (tn (sr (mO (T.os 4 5 0 (((((l.take k)++ [x])++(l.drop k)).map (Qa true)).length)) Y (aO (T.os 4 5 0 (((((l.take k)++ [x])++(l.drop k)).map (Qa true)).length)) Y (nt (rt ?_))))))
   refine vfin.eq (r':=(T.sl true 4 ((((l.take k)++ [x])++(l.drop k)).map (Qa true)))) ?_ (vfin.r (VRes.tmp (t:=(T.os 4 5 0 (((((l.take k)++ [x])++(l.drop k)).map (Qa true)).length))) Y VRes.nil) (Give.os Y Y (okeNote.cleanMap _)))
   refine congrArg (fun l_=>T.sl true 4 (List.map (Qa true) l_)) ?_
   first
   | (exfalso;simp only [List.length_drop] at *;omega)
   | (cases Qz hx2▸hx1;exact (Ql (Qp hI' hx1 fhc1 (by rw [fhc2];decide))).symm)
   | (symm;exact Qs ‹¬Qb l›)
   | (cases Qz hx2▸hx1;symm;have e:=QI hI' hx1 fhc1 fhc2;rw [QL,List.drop_drop] at *;first | exact Qc e fhc3 | exact Qd ‹Qb l› e fhc3)
   | (have e:=Qq hI' (by omega);rw [QL] at *;symm;first | exact Qc e fhc3 | exact Qd ‹Qb l› e fhc3)
   | (cases Qz hx2▸hx1;have e:=Qr hI' hx1 fhc0 fhc1;rw [QL] at *;symm;first | exact Qc e fhc3 | exact Qd ‹Qb l› e fhc3)
  refine oD Y Y (dz fhg30_2) Y (oD Y Y (dz fhg30_2) Y (oD Y Y (dz fhg30_2) Y (oD Y Y (dz fhg30_2) Y (oD Y Y (dz fhg30_2) Y (oD Y Y (dz fhg30_2) Y (oD Y Y (dz fhg30_2) Y (fD (OF.pickF (VEv.tmpB Y (dz fhg30_2)) (VEv.bool false)) Y Y (VRunD.nil (tn (cf Y (sk ?_)))))))))))
  refine tn (sq (VRun.draw (B:= [[],[],[],[2,1],[1,2,3,0],[],[5],[5,6,0,3,2,1,4],[],[8,4,1,2,3,0,6,5,7],[7,5,6,0,3,2,1,4,8,9]]) (by kernel_rfl) (by kernel_rfl) (VRunD.make Y VWant.always Y (OM.slice0 QD QF (by kernel_rfl) Y (by rw [Qg];decide) Qg) (mD (rd 4 Qa l) Y Y (mD (tN k) Y Y ?_)))))
  refine lD (show OL _ _ _ _ _ (T.sl false 4 ((l.take k).map (Qa false))) by rw [show (l.take k).map (Qa false)=(l.map (Qa false)).take k from List.map_take ..];exact (OL.sliceRHi (j:=k) (tv (rd 4 Qa l) Y) (tv (tN k) Y) Y (by first | exact hq1 _ | exact hq2 _ | omega | (simp only [List.length_map];omega) | (simp only [List.length_map,List.length_append,List.length_cons,List.length_nil,List.length_replicate,List.length_set,List.length_drop,List.length_take,QR] at *;omega)) QD Qg Q3)) Y Y (VRunD.quiet (bi:= [1,2,3,0]) Y VWant.always Y Y Y (bc (lb Y) bn) (B.append (rows:= []) (rows2:=((l.take k).map (Qa false))) (rows3:=((l.take k).map (Qa true))) (VDst.own (tv (T.os 4 1 0 0) Y) Y Y) (VSrc.read (tv (rd 4 Qa (l.take k)) Y) QD (okeNote.okMap _ _)) nofun QD Qg (by decide) QF Y (of_decide_eq_true (by kernel_rfl)) (by first | exact hq1 _ | exact hq2 _ | omega | (simp only [List.length_map];omega) | (simp only [List.length_map,List.length_append,List.length_cons,List.length_nil,List.length_replicate,List.length_set,List.length_drop,List.length_take,QR] at *;omega)) (List.nil_append _)) (lD (OL.loadOn (us:=(Qa false x)) (tv (T.op 0 0) Y) Y Zx Qg (lb Y) Y) Y Y (VRunD.make Y VWant.always Y (OM.buildSlice (l:= [(T.agg (Qa false x))]) (VEvp.cons (tv (T.agg (Qa false x)) Y) VEvp.nil) Y (by decide) (bc (nofun) bn) (bc ((bc (Y) (bc (Y) (bc (Y) (bc (Y) bn))))) bn) (bc (Y) bn) QD QF (by kernel_rfl) Y (by rw [Qg];decide) Qg (Nat.le_of_ble_eq_true Y)) (VRunD.quiet (bi:= [5,6,0,3,2,1,4]) Y VWant.always Y Y Y (bc (lb Y) (bc (lb Y) bn)) (B.append (rows:=((l.take k).map (Qa true))) (rows2:= [[(tI x.Cell),(tS x.Letter),(tI x.Tick),(tI x.Who)]]) (rows3:=(((l.take k)++ [x]).map (Qa true))) (VDst.own (tv (T.os 4 2 0 (((l.take k).map (Qa true)).length)) Y) Y Y) (VSrc.own (tv (T.os 4 3 0 1) Y) Y Y QD (bc (bc Y (bc Y (bc Y (bc Y bn)))) bn)) (by decide) QD Qg (by decide) QF Y (of_decide_eq_true (by kernel_rfl)) (by first | exact hq1 _ | exact hq2 _ | omega | (simp only [List.length_map];omega) | (simp only [List.length_map,List.length_append,List.length_cons,List.length_nil,List.length_replicate,List.length_set,List.length_drop,List.length_take,QR] at *;omega)) ((List.map_append (f:=Qa true) (l₁:=(l.take k)) (l₂:= [x])).symm)) (mD (rd 4 Qa (l.drop k)) Y Y (VRunD.quiet (bi:= [8,4,1,2,3,0,6,5,7]) Y VWant.always Y Y Y (bc (lb Y) bn) (B.append (rows:=(((l.take k)++ [x]).map (Qa true))) (rows2:=((l.drop k).map (Qa false))) (rows3:=((((l.take k)++ [x])++(l.drop k)).map (Qa true))) (VDst.own (tv (T.os 4 4 0 ((((l.take k)++ [x]).map (Qa true)).length)) Y) Y Y) (VSrc.read (tv (rd 4 Qa (l.drop k)) Y) QD (okeNote.okMap _ _)) nofun QD Qg (by decide) QF Y (of_decide_eq_true (by kernel_rfl)) (by first | exact hq1 _ | exact hq2 _ | omega | (simp only [List.length_map];omega) | (simp only [List.length_map,List.length_append,List.length_cons,List.length_nil,List.length_replicate,List.length_set,List.length_drop,List.length_take,QR] at *;omega)) ((List.map_append (f:=Qa true) (l₁:=((l.take k)++ [x])) (l₂:=(l.drop k))).symm)) ?_))))))
  refine fD (OF.assign (tv (T.os 4 5 0 (((((l.take k)++ [x])++(l.drop k)).map (Qa true)).length)) Y)) Y Y (VRunD.nil (tn (sq (sr (mO (rd 4 Qa l) Y (cO (cS (vc (tv (rd 4 Qa l) Y) vn) (ZM Y) (Qw (n+0) l (by first | exact hq1 _ | exact hq2 _ | assumption | omega)) Y Y) (fO (QU (tv (tB (decide (Qb l))) Y)) (mO (tB (!(decide (Qb l)))) Y ?_))))))))
  refine gn (Qb l) (fun fhg63_5=> ?_) fun fhg63_5=> ?_
  ·refine Ji 3 3 false 63 (ny fhg63_5) Y Y Y ?_
   refine fO (OF.pickT (VEv.tmpB Y (ny fhg63_5)) (VEv.bool true)) (nt (ct Y (sr (kO (OM.slice0 QD QF (by kernel_rfl) Y (by rw [Qg];decide) Qg) (mO (rd 4 Qa l) Y (cO (B.append (rows:= []) (rows2:=(l.map (Qa false))) (rows3:=(l.map (Qa true))) (VDst.own (tv (T.os 4 6 0 0) Y) Y Y) (VSrc.read (tv (rd 4 Qa l) Y) QD (okeNote.okMap _ _)) nofun QD Qg (by decide) QF Y (of_decide_eq_true (by kernel_rfl)) (by first | exact hq1 _ | exact hq2 _ | omega | (simp only [List.length_map];omega) | (simp only [List.length_map,List.length_append,List.length_cons,List.length_nil,List.length_replicate,List.length_set,List.length_drop,List.length_take,QR] at *;omega)) (List.nil_append _)) (aO (T.os 4 7 0 ((l.map (Qa true)).length)) Y (nt (rt (tr ?_))))))))))
   refine vfin.eq (r':=(T.sl true 4 (l.map (Qa true)))) ?_ (vfin.r (VRes.tmp (t:=(T.os 4 7 0 ((l.map (Qa true)).length))) Y VRes.nil) (Give.os Y Y (okeNote.cleanMap _)))
   refine congrArg (fun l_=>T.sl true 4 (List.map (Qa true) l_)) ?_
   first
   | (exfalso;simp only [List.length_drop] at *;omega)
   | (cases Qz hx2▸hx1;exact (Ql (Qp hI' hx1 fhc1 (by rw [fhc2];decide))).symm)
   | (symm;exact Qs ‹¬Qb l›)
   | (cases Qz hx2▸hx1;symm;have e:=QI hI' hx1 fhc1 fhc2;rw [QL,List.drop_drop] at *;first | exact Qc e fhc3 | exact Qd ‹Qb l› e fhc3)
   | (have e:=Qq hI' (by omega);rw [QL] at *;symm;first | exact Qc e fhc3 | exact Qd ‹Qb l› e fhc3)
   | (cases Qz hx2▸hx1;have e:=Qr hI' hx1 fhc0 fhc1;rw [QL] at *;symm;first | exact Qc e fhc3 | exact Qd ‹Qb l› e fhc3)
  refine gF (nz fhg63_5) Y Y (OF.move (tv (T.os 4 5 0 (((((l.take k)++ [x])++(l.drop k)).map (Qa true)).length)) Y)) (VRunO.chain (VWant.on Y Y (nz fhg63_5)) (cS (us:= [(rd 4 Qa (((l.take k)++ [x])++(l.drop k)))]) (vc (tv (T.os 4 5 0 (((((l.take k)++ [x])++(l.drop k)).map (Qa true)).length)) Y) vn) (LendL.cons (Lend.os Y Y (okeNote.fzMap _ _)) ln) (Qw (n+0) (((l.take k)++ [x])++(l.drop k)) (by first | exact hq1 _ | exact hq2 _ | assumption | omega)) Y Y) (gF (nz fhg63_5) Y Y (QU (tv (tB (decide (Qb (((l.take k)++ [x])++(l.drop k))))) Y)) (fO (OF.pickF (VEv.tmpB Y (nz fhg63_5)) (tv (tB (!(decide (Qb (((l.take k)++ [x])++(l.drop k)))))) Y)) (nt ?_))))
  refine cn (Qb (((l.take k)++ [x])++(l.drop k))) Y (fun fhc3=> ?_) fun fhc3=> ?_
  ·refine sr ?_
   refine kO (OM.slice0 QD QF (by kernel_rfl) Y (by rw [Qg];decide) Qg) (mO (rd 4 Qa l) Y (cO (B.append (rows:= []) (rows2:=(l.map (Qa false))) (rows3:=(l.map (Qa true))) (VDst.own (tv (T.os 4 6 0 0) Y) Y Y) (VSrc.read (tv (rd 4 Qa l) Y) QD (okeNote.okMap _ _)) nofun QD Qg (by decide) QF Y (of_decide_eq_true (by kernel_rfl)) (by first | exact hq1 _ | exact hq2 _ | omega | (simp only [List.length_map];omega) | (simp only [List.length_map,List.length_append,List.length_cons,List.length_nil,List.length_replicate,List.length_set,List.length_drop,List.length_take,QR] at *;omega)) (List.nil_append _)) (aO (T.os 4 7 0 ((l.map (Qa true)).length)) Y (nt (rt (tr ?_))))))
   refine vfin.eq (r':=(T.sl true 4 (l.map (Qa true)))) ?_ (vfin.r (VRes.tmp (t:=(T.os 4 7 0 ((l.map (Qa true)).length))) Y VRes.nil) (Give.os Y Y (okeNote.cleanMap _)))
   refine congrArg (fun l_=>T.sl true 4 (List.map (Qa true) l_)) ?_
   first
   | (exfalso;simp only [List.length_drop] at *;omega)
   | (cases Qz hx2▸hx1;exact (Ql (Qp hI' hx1 fhc1 (by rw [fhc2];decide))).symm)
   | (symm;exact Qs ‹¬Qb l›)
   | (cases Qz hx2▸hx1;symm;have e:=QI hI' hx1 fhc1 fhc2;rw [QL,List.drop_drop] at *;first | exact Qc e fhc3 | exact Qd ‹Qb l› e fhc3)
   | (have e:=Qq hI' (by omega);rw [QL] at *;symm;first | exact Qc e fhc3 | exact Qd ‹Qb l› e fhc3)
   | (cases Qz hx2▸hx1;have e:=Qr hI' hx1 fhc0 fhc1;rw [QL] at *;symm;first | exact Qc e fhc3 | exact Qd ‹Qb l› e fhc3)
  refine sk (tn (sr (mO (T.os 4 5 0 (((((l.take k)++ [x])++(l.drop k)).map (Qa true)).length)) Y (aO (T.os 4 5 0 (((((l.take k)++ [x])++(l.drop k)).map (Qa true)).length)) Y (nt (rt ?_))))))
  refine vfin.eq (r':=(T.sl true 4 ((((l.take k)++ [x])++(l.drop k)).map (Qa true)))) ?_ (vfin.r (VRes.tmp (t:=(T.os 4 5 0 (((((l.take k)++ [x])++(l.drop k)).map (Qa true)).length))) Y VRes.nil) (Give.os Y Y (okeNote.cleanMap _)))
  refine congrArg (fun l_=>T.sl true 4 (List.map (Qa true) l_)) ?_
  first
  | (exfalso;simp only [List.length_drop] at *;omega)
  | (cases Qz hx2▸hx1;exact (Ql (Qp hI' hx1 fhc1 (by rw [fhc2];decide))).symm)
  | (symm;exact Qs ‹¬Qb l›)
  | (cases Qz hx2▸hx1;symm;have e:=QI hI' hx1 fhc1 fhc2;rw [QL,List.drop_drop] at *;first | exact Qc e fhc3 | exact Qd ‹Qb l› e fhc3)
  | (have e:=Qq hI' (by omega);rw [QL] at *;symm;first | exact Qc e fhc3 | exact Qd ‹Qb l› e fhc3)
  | (cases Qz hx2▸hx1;have e:=Qr hI' hx1 fhc0 fhc1;rw [QL] at *;symm;first | exact Qc e fhc3 | exact Qd ‹Qb l› e fhc3)
 refine oD Y Y (dz fhg12_1) Y (oD Y Y (dz fhg12_1) Y (oD Y Y (dz fhg12_1) Y (oD Y Y (dz fhg12_1) Y (oD Y Y (dz fhg12_1) Y (oD Y Y (dz fhg12_1) Y (oD Y Y (dz fhg12_1) Y (oD Y Y (dz fhg12_1) Y (fD (OF.pickF (VEv.tmpB Y (dz fhg12_1)) (VEv.bool false)) Y Y (VRunD.nil (tn (cf Y ?_)))))))))))
 refine VRun.exit (vthn.e (vthn.e (vinB.e (tn (sr (mO (rd 4 Qa l) Y (mO (tN k) Y ?_)))))))
 refine lO (show OL _ _ _ _ _ (T.sl false 4 ((l.drop k).map (Qa false))) by rw [show (l.drop k).map (Qa false)=(l.map (Qa false)).drop k from List.map_drop ..];exact (OL.sliceRLo (i:=k) (tv (rd 4 Qa l) Y) (tv (tN k) Y) Y (by first | exact hq1 _ | exact hq2 _ | omega | (simp only [List.length_map];omega) | (simp only [List.length_map,List.length_append,List.length_cons,List.length_nil,List.length_replicate,List.length_set,List.length_drop,List.length_take,QR] at *;omega)) QD Qg Q3)) (aO (rd 4 Qa (l.drop k)) Y (nt (sq (sq (VRun.draw (B:= [[],[0],[0,1],[1,0,2],[2,0,1,3],[3,1,0,2,4],[4,2,0,1,3,5],[5,3,1,0,2,4,6],[2,0,1,3],[3,1,0,2,8],[8,9,6,4,2,0,1,3,5,7],[7,5,4,6,9,8,10,2,0,1,3]]) (by kernel_rfl) (by kernel_rfl) (mD (rd 4 Qa (l.drop k)) Y Y (lD (B.lenR (m:=(l.drop k).length) (tv (rd 4 Qa (l.drop k)) Y) QD (List.length_map ..)) Y Y (fD (B.gtr (c:=(decide (0<(l.drop k).length))) (tv (tN ((l.drop k).length)) Y) (VEv.int .i64 0) (by first | exact hq1 _ | exact hq2 _ | (exact ZH (by omega)))) Y Y (mD (tB (decide (0<(l.drop k).length))) Y Y ?_)))))))))
 refine gw (0<(l.drop k).length) (fun fhg30_6=> ?_) fun fhg30_6=> ?_
 ·refine VRunD.free Y (VWant.on Y Y (dy fhg30_6)) Y (OF.move (tv (rd 4 Qa (l.drop k)) Y)) ?_
  obtain ⟨x1,hx1⟩:∃x,(l.drop k)[0]? =some x:=⟨_,List.getElem?_eq_getElem (by first | exact hq1 _ | exact hq2 _ | omega | (simp only [List.length_map];omega) | (simp only [List.length_map,List.length_append,List.length_cons,List.length_nil,List.length_replicate,List.length_set,List.length_drop,List.length_take,QR] at *;omega))⟩
  refine VRunD.free Y (VWant.on Y Y (dy fhg30_6)) Y (OF.indexAddrR (row:=(Qa false x1)) (i:=0) (tv (rd 4 Qa (l.drop k)) Y) (VEv.int .i64 0) Y (QK _ hx1) QD Qg Q3) (VRunD.free Y (VWant.on Y Y (dy fhg30_6)) Y (B.fieldAddrR (us:=(Qa false x1)) (tv (T.rp (Qa false x1)) Y) (lb Y) QY Y) (VRunD.look Y (VWant.on Y Y (dy fhg30_6)) Y (OL.loadR1 (t:=(tI x1.Cell)) (tv (T.rp (Qa false x1)) Y) Y ZE) (VRunD.free Y (VWant.on Y Y (dy fhg30_6)) Y (OF.fieldAddrO (tv (T.op 0 0) Y) QY) (VRunD.look Y (VWant.on Y Y (dy fhg30_6)) Y (OL.loadO1 (t:=(tI x.Cell)) (tv (T.op 0 0) Y) Y Y ZE) (VRunD.free Y (VWant.on Y Y (dy fhg30_6)) Y (xeq (tv (tI x1.Cell) Y) (tv (tI x.Cell) Y)) (fD (OF.pickT (VEv.tmpB Y (dy fhg30_6)) (tv (tB (decide (x1.Cell=x.Cell))) Y)) Y Y (VRunD.nil (tn ?_))))))))
  refine cd (x1.Cell=x.Cell) Y (fun fhc1=> ?_) fun fhc1=> ?_
  ·refine sq ?_
   refine sq (VRun.draw (B:= [[],[],[1],[1,2],[2,1,3,0],[0,3,1,2,4]]) (by kernel_rfl) (by kernel_rfl) (lD (OL.loadOn (us:=(Qa false x)) (tv (T.op 0 0) Y) Y Zx Qg (lb Y) Y) Y Y (mD (rd 4 Qa (l.drop k)) Y Y (fD (OF.indexAddrR (row:=(Qa false x1)) (i:=0) (tv (rd 4 Qa (l.drop k)) Y) (VEv.int .i64 0) Y (QK _ hx1) QD Qg Q3) Y Y (lD (OL.loadRn (us:=(Qa false x1)) (tv (T.rp (Qa false x1)) Y) Zx Qg (lb Y) Y) Y Y (VRunD.quiet (bi:= [2,1,3,0]) Y VWant.always Y Y Y bn (cS (vc (tv (T.agg (Qa false x)) Y) (vc (tv (T.agg (Qa false x1)) Y) vn)) (LendL.cons (lg okeNote) (LendL.cons (lg okeNote) ln)) (YX (n+2) x x1) Y Y) (fD (QU (tv (tB (QQ x x1)) Y)) Y Y (VRunD.nil (tn ?_)))))))))
   refine VRun.cond (tv (tB (!(QQ x x1))) Y) (fun hc2=> ?_) (fun hc2=> ?_)
   ·have fhc2:(QQ x x1)=false:=QeO hc2
    refine sr (kO (OM.slice0 QD QF (by kernel_rfl) Y (by rw [Qg];decide) Qg) (mO (rd 4 Qa l) Y (cO (B.append (rows:= []) (rows2:=(l.map (Qa false))) (rows3:=(l.map (Qa true))) (VDst.own (tv (T.os 4 1 0 0) Y) Y Y) (VSrc.read (tv (rd 4 Qa l) Y) QD (okeNote.okMap _ _)) nofun QD Qg (by decide) QF Y (of_decide_eq_true (by kernel_rfl)) (by first | exact hq1 _ | exact hq2 _ | omega | (simp only [List.length_map];omega) | (simp only [List.length_map,List.length_append,List.length_cons,List.length_nil,List.length_replicate,List.length_set,List.length_drop,List.length_take,QR] at *;omega)) (List.nil_append _)) (aO (T.os 4 2 0 ((l.map (Qa true)).length)) Y (nt (rt (tr (tr ?_))))))))
    refine vfin.eq (r':=(T.sl true 4 (l.map (Qa true)))) ?_ (vfin.r (VRes.tmp (t:=(T.os 4 2 0 ((l.map (Qa true)).length))) Y VRes.nil) (Give.os Y Y (okeNote.cleanMap _)))
    refine congrArg (fun l_=>T.sl true 4 (List.map (Qa true) l_)) ?_
    first
    | (exfalso;simp only [List.length_drop] at *;omega)
    | (cases Qz hx2▸hx1;exact (Ql (Qp hI' hx1 fhc1 (by rw [fhc2];decide))).symm)
    | (symm;exact Qs ‹¬Qb l›)
    | (cases Qz hx2▸hx1;symm;have e:=QI hI' hx1 fhc1 fhc2;rw [QL,List.drop_drop] at *;first | exact Qc e fhc3 | exact Qd ‹Qb l› e fhc3)
    | (have e:=Qq hI' (by omega);rw [QL] at *;symm;first | exact Qc e fhc3 | exact Qd ‹Qb l› e fhc3)
    | (cases Qz hx2▸hx1;have e:=Qr hI' hx1 fhc0 fhc1;rw [QL] at *;symm;first | exact Qc e fhc3 | exact Qd ‹Qb l› e fhc3)
   have fhc2:(QQ x x1)=true:=QeI hc2
   refine sk (tn (VRun.region (mO (rd 4 Qa (l.drop k)) Y ?_)))
   refine lO (show OL _ _ _ _ _ (T.sl false 4 (((l.drop k).drop 1).map (Qa false))) by rw [show ((l.drop k).drop 1).map (Qa false)=((l.drop k).map (Qa false)).drop 1 from List.map_drop ..];exact (OL.sliceRLo (i:=1) (tv (rd 4 Qa (l.drop k)) Y) (VEv.int .i64 1) Y (by first | exact hq1 _ | exact hq2 _ | omega | (simp only [List.length_map];omega) | (simp only [List.length_map,List.length_append,List.length_cons,List.length_nil,List.length_replicate,List.length_set,List.length_drop,List.length_take,QR] at *;omega)) QD Qg Q3)) (aO (rd 4 Qa ((l.drop k).drop 1)) Y (VRunO.nil (tn (sq (VRun.draw (B:= [[],[],[],[2,1],[1,2,3,0],[],[5],[5,6,0,3,2,1,4],[],[8,4,1,2,3,0,6,5,7],[7,5,6,0,3,2,1,4,8,9]]) (by kernel_rfl) (by kernel_rfl) (VRunD.make Y VWant.always Y (OM.slice0 QD QF (by kernel_rfl) Y (by rw [Qg];decide) Qg) (mD (rd 4 Qa l) Y Y (mD (tN k) Y Y ?_))))))))
   refine lD (show OL _ _ _ _ _ (T.sl false 4 ((l.take k).map (Qa false))) by rw [show (l.take k).map (Qa false)=(l.map (Qa false)).take k from List.map_take ..];exact (OL.sliceRHi (j:=k) (tv (rd 4 Qa l) Y) (tv (tN k) Y) Y (by first | exact hq1 _ | exact hq2 _ | omega | (simp only [List.length_map];omega) | (simp only [List.length_map,List.length_append,List.length_cons,List.length_nil,List.length_replicate,List.length_set,List.length_drop,List.length_take,QR] at *;omega)) QD Qg Q3)) Y Y (VRunD.quiet (bi:= [1,2,3,0]) Y VWant.always Y Y Y (bc (lb Y) bn) (B.append (rows:= []) (rows2:=((l.take k).map (Qa false))) (rows3:=((l.take k).map (Qa true))) (VDst.own (tv (T.os 4 1 0 0) Y) Y Y) (VSrc.read (tv (rd 4 Qa (l.take k)) Y) QD (okeNote.okMap _ _)) nofun QD Qg (by decide) QF Y (of_decide_eq_true (by kernel_rfl)) (by first | exact hq1 _ | exact hq2 _ | omega | (simp only [List.length_map];omega) | (simp only [List.length_map,List.length_append,List.length_cons,List.length_nil,List.length_replicate,List.length_set,List.length_drop,List.length_take,QR] at *;omega)) (List.nil_append _)) (lD (OL.loadOn (us:=(Qa false x)) (tv (T.op 0 0) Y) Y Zx Qg (lb Y) Y) Y Y (VRunD.make Y VWant.always Y (OM.buildSlice (l:= [(T.agg (Qa false x))]) (VEvp.cons (tv (T.agg (Qa false x)) Y) VEvp.nil) Y (by decide) (bc (nofun) bn) (bc ((bc (Y) (bc (Y) (bc (Y) (bc (Y) bn))))) bn) (bc (Y) bn) QD QF (by kernel_rfl) Y (by rw [Qg];decide) Qg (Nat.le_of_ble_eq_true Y)) (VRunD.quiet (bi:= [5,6,0,3,2,1,4]) Y VWant.always Y Y Y (bc (lb Y) (bc (lb Y) bn)) (B.append (rows:=((l.take k).map (Qa true))) (rows2:= [[(tI x.Cell),(tS x.Letter),(tI x.Tick),(tI x.Who)]]) (rows3:=(((l.take k)++ [x]).map (Qa true))) (VDst.own (tv (T.os 4 2 0 (((l.take k).map (Qa true)).length)) Y) Y Y) (VSrc.own (tv (T.os 4 3 0 1) Y) Y Y QD (bc (bc Y (bc Y (bc Y (bc Y bn)))) bn)) (by decide) QD Qg (by decide) QF Y (of_decide_eq_true (by kernel_rfl)) (by first | exact hq1 _ | exact hq2 _ | omega | (simp only [List.length_map];omega) | (simp only [List.length_map,List.length_append,List.length_cons,List.length_nil,List.length_replicate,List.length_set,List.length_drop,List.length_take,QR] at *;omega)) ((List.map_append (f:=Qa true) (l₁:=(l.take k)) (l₂:= [x])).symm)) (mD (rd 4 Qa ((l.drop k).drop 1)) Y Y (VRunD.quiet (bi:= [8,4,1,2,3,0,6,5,7]) Y VWant.always Y Y Y (bc (lb Y) bn) (B.append (rows:=(((l.take k)++ [x]).map (Qa true))) (rows2:=(((l.drop k).drop 1).map (Qa false))) (rows3:=((((l.take k)++ [x])++((l.drop k).drop 1)).map (Qa true))) (VDst.own (tv (T.os 4 4 0 ((((l.take k)++ [x]).map (Qa true)).length)) Y) Y Y) (VSrc.read (tv (rd 4 Qa ((l.drop k).drop 1)) Y) QD (okeNote.okMap _ _)) nofun QD Qg (by decide) QF Y (of_decide_eq_true (by kernel_rfl)) (by first | exact hq1 _ | exact hq2 _ | omega | (simp only [List.length_map];omega) | (simp only [List.length_map,List.length_append,List.length_cons,List.length_nil,List.length_replicate,List.length_set,List.length_drop,List.length_take,QR] at *;omega)) ((List.map_append (f:=Qa true) (l₁:=((l.take k)++ [x])) (l₂:=((l.drop k).drop 1))).symm)) ?_))))))
   refine fD (OF.assign (tv (T.os 4 5 0 (((((l.take k)++ [x])++((l.drop k).drop 1)).map (Qa true)).length)) Y)) Y Y (VRunD.nil (tn (sq (sr (mO (rd 4 Qa l) Y (cO (cS (vc (tv (rd 4 Qa l) Y) vn) (ZM Y) (Qw (n+0) l (by first | exact hq1 _ | exact hq2 _ | assumption | omega)) Y Y) (fO (QU (tv (tB (decide (Qb l))) Y)) (mO (tB (!(decide (Qb l)))) Y ?_))))))))
   refine gn (Qb l) (fun fhg63_7=> ?_) fun fhg63_7=> ?_
   ·refine Ji 3 3 false 63 (ny fhg63_7) Y Y Y ?_
    refine fO (OF.pickT (VEv.tmpB Y (ny fhg63_7)) (VEv.bool true)) (nt (ct Y (sr (kO (OM.slice0 QD QF (by kernel_rfl) Y (by rw [Qg];decide) Qg) (mO (rd 4 Qa l) Y (cO (B.append (rows:= []) (rows2:=(l.map (Qa false))) (rows3:=(l.map (Qa true))) (VDst.own (tv (T.os 4 6 0 0) Y) Y Y) (VSrc.read (tv (rd 4 Qa l) Y) QD (okeNote.okMap _ _)) nofun QD Qg (by decide) QF Y (of_decide_eq_true (by kernel_rfl)) (by first | exact hq1 _ | exact hq2 _ | omega | (simp only [List.length_map];omega) | (simp only [List.length_map,List.length_append,List.length_cons,List.length_nil,List.length_replicate,List.length_set,List.length_drop,List.length_take,QR] at *;omega)) (List.nil_append _)) (aO (T.os 4 7 0 ((l.map (Qa true)).length)) Y (nt (rt (tr ?_))))))))))
    refine vfin.eq (r':=(T.sl true 4 (l.map (Qa true)))) ?_ (vfin.r (VRes.tmp (t:=(T.os 4 7 0 ((l.map (Qa true)).length))) Y VRes.nil) (Give.os Y Y (okeNote.cleanMap _)))
    refine congrArg (fun l_=>T.sl true 4 (List.map (Qa true) l_)) ?_
    first
    | (exfalso;simp only [List.length_drop] at *;omega)
    | (cases Qz hx2▸hx1;exact (Ql (Qp hI' hx1 fhc1 (by rw [fhc2];decide))).symm)
    | (symm;exact Qs ‹¬Qb l›)
    | (cases Qz hx2▸hx1;symm;have e:=QI hI' hx1 fhc1 fhc2;rw [QL,List.drop_drop] at *;first | exact Qc e fhc3 | exact Qd ‹Qb l› e fhc3)
    | (have e:=Qq hI' (by omega);rw [QL] at *;symm;first | exact Qc e fhc3 | exact Qd ‹Qb l› e fhc3)
    | (cases Qz hx2▸hx1;have e:=Qr hI' hx1 fhc0 fhc1;rw [QL] at *;symm;first | exact Qc e fhc3 | exact Qd ‹Qb l› e fhc3)
   refine gF (nz fhg63_7) Y Y (OF.move (tv (T.os 4 5 0 (((((l.take k)++ [x])++((l.drop k).drop 1)).map (Qa true)).length)) Y)) (VRunO.chain (VWant.on Y Y (nz fhg63_7)) (cS (us:= [(rd 4 Qa (((l.take k)++ [x])++((l.drop k).drop 1)))]) (vc (tv (T.os 4 5 0 (((((l.take k)++ [x])++((l.drop k).drop 1)).map (Qa true)).length)) Y) vn) (LendL.cons (Lend.os Y Y (okeNote.fzMap _ _)) ln) (Qw (n+0) (((l.take k)++ [x])++((l.drop k).drop 1)) (by first | exact hq1 _ | exact hq2 _ | assumption | omega)) Y Y) (gF (nz fhg63_7) Y Y (QU (tv (tB (decide (Qb (((l.take k)++ [x])++((l.drop k).drop 1))))) Y)) (fO (OF.pickF (VEv.tmpB Y (nz fhg63_7)) (tv (tB (!(decide (Qb (((l.take k)++ [x])++((l.drop k).drop 1)))))) Y)) (nt ?_))))
   refine cn (Qb (((l.take k)++ [x])++((l.drop k).drop 1))) Y (fun fhc3=> ?_) fun fhc3=> ?_
   ·refine sr ?_
    refine kO (OM.slice0 QD QF (by kernel_rfl) Y (by rw [Qg];decide) Qg) (mO (rd 4 Qa l) Y (cO (B.append (rows:= []) (rows2:=(l.map (Qa false))) (rows3:=(l.map (Qa true))) (VDst.own (tv (T.os 4 6 0 0) Y) Y Y) (VSrc.read (tv (rd 4 Qa l) Y) QD (okeNote.okMap _ _)) nofun QD Qg (by decide) QF Y (of_decide_eq_true (by kernel_rfl)) (by first | exact hq1 _ | exact hq2 _ | omega | (simp only [List.length_map];omega) | (simp only [List.length_map,List.length_append,List.length_cons,List.length_nil,List.length_replicate,List.length_set,List.length_drop,List.length_take,QR] at *;omega)) (List.nil_append _)) (aO (T.os 4 7 0 ((l.map (Qa true)).length)) Y (nt (rt (tr ?_))))))
    refine vfin.eq (r':=(T.sl true 4 (l.map (Qa true)))) ?_ (vfin.r (VRes.tmp (t:=(T.os 4 7 0 ((l.map (Qa true)).length))) Y VRes.nil) (Give.os Y Y (okeNote.cleanMap _)))
    refine congrArg (fun l_=>T.sl true 4 (List.map (Qa true) l_)) ?_
    first
    | (exfalso;simp only [List.length_drop] at *;omega)
    | (cases Qz hx2▸hx1;exact (Ql (Qp hI' hx1 fhc1 (by rw [fhc2];decide))).symm)
    | (symm;exact Qs ‹¬Qb l›)
    | (cases Qz hx2▸hx1;symm;have e:=QI hI' hx1 fhc1 fhc2;rw [QL,List.drop_drop] at *;first | exact Qc e fhc3 | exact Qd ‹Qb l› e fhc3)
    | (have e:=Qq hI' (by omega);rw [QL] at *;symm;first | exact Qc e fhc3 | exact Qd ‹Qb l› e fhc3)
    | (cases Qz hx2▸hx1;have e:=Qr hI' hx1 fhc0 fhc1;rw [QL] at *;symm;first | exact Qc e fhc3 | exact Qd ‹Qb l› e fhc3)
   refine sk (tn (sr (mO (T.os 4 5 0 (((((l.take k)++ [x])++((l.drop k).drop 1)).map (Qa true)).length)) Y (aO (T.os 4 5 0 (((((l.take k)++ [x])++((l.drop k).drop 1)).map (Qa true)).length)) Y (nt (rt ?_))))))
   refine vfin.eq (r':=(T.sl true 4 ((((l.take k)++ [x])++((l.drop k).drop 1)).map (Qa true)))) ?_ (vfin.r (VRes.tmp (t:=(T.os 4 5 0 (((((l.take k)++ [x])++((l.drop k).drop 1)).map (Qa true)).length))) Y VRes.nil) (Give.os Y Y (okeNote.cleanMap _)))
   refine congrArg (fun l_=>T.sl true 4 (List.map (Qa true) l_)) ?_
   first
   | (exfalso;simp only [List.length_drop] at *;omega)
   | (cases Qz hx2▸hx1;exact (Ql (Qp hI' hx1 fhc1 (by rw [fhc2];decide))).symm)
   | (symm;exact Qs ‹¬Qb l›)
   | (cases Qz hx2▸hx1;symm;have e:=QI hI' hx1 fhc1 fhc2;rw [QL,List.drop_drop] at *;first | exact Qc e fhc3 | exact Qd ‹Qb l› e fhc3)
   | (have e:=Qq hI' (by omega);rw [QL] at *;symm;first | exact Qc e fhc3 | exact Qd ‹Qb l› e fhc3)
   | (cases Qz hx2▸hx1;have e:=Qr hI' hx1 fhc0 fhc1;rw [QL] at *;symm;first | exact Qc e fhc3 | exact Qd ‹Qb l› e fhc3)
  refine sk (tn (sq (VRun.draw (B:= [[],[],[],[2,1],[1,2,3,0],[],[5],[5,6,0,3,2,1,4],[],[8,4,1,2,3,0,6,5,7],[7,5,6,0,3,2,1,4,8,9]]) (by kernel_rfl) (by kernel_rfl) (VRunD.make Y VWant.always Y (OM.slice0 QD QF (by kernel_rfl) Y (by rw [Qg];decide) Qg) (mD (rd 4 Qa l) Y Y (mD (tN k) Y Y ?_))))))
  refine lD (show OL _ _ _ _ _ (T.sl false 4 ((l.take k).map (Qa false))) by rw [show (l.take k).map (Qa false)=(l.map (Qa false)).take k from List.map_take ..];exact (OL.sliceRHi (j:=k) (tv (rd 4 Qa l) Y) (tv (tN k) Y) Y (by first | exact hq1 _ | exact hq2 _ | omega | (simp only [List.length_map];omega) | (simp only [List.length_map,List.length_append,List.length_cons,List.length_nil,List.length_replicate,List.length_set,List.length_drop,List.length_take,QR] at *;omega)) QD Qg Q3)) Y Y (VRunD.quiet (bi:= [1,2,3,0]) Y VWant.always Y Y Y (bc (lb Y) bn) (B.append (rows:= []) (rows2:=((l.take k).map (Qa false))) (rows3:=((l.take k).map (Qa true))) (VDst.own (tv (T.os 4 1 0 0) Y) Y Y) (VSrc.read (tv (rd 4 Qa (l.take k)) Y) QD (okeNote.okMap _ _)) nofun QD Qg (by decide) QF Y (of_decide_eq_true (by kernel_rfl)) (by first | exact hq1 _ | exact hq2 _ | omega | (simp only [List.length_map];omega) | (simp only [List.length_map,List.length_append,List.length_cons,List.length_nil,List.length_replicate,List.length_set,List.length_drop,List.length_take,QR] at *;omega)) (List.nil_append _)) (lD (OL.loadOn (us:=(Qa false x)) (tv (T.op 0 0) Y) Y Zx Qg (lb Y) Y) Y Y (VRunD.make Y VWant.always Y (OM.buildSlice (l:= [(T.agg (Qa false x))]) (VEvp.cons (tv (T.agg (Qa false x)) Y) VEvp.nil) Y (by decide) (bc (nofun) bn) (bc ((bc (Y) (bc (Y) (bc (Y) (bc (Y) bn))))) bn) (bc (Y) bn) QD QF (by kernel_rfl) Y (by rw [Qg];decide) Qg (Nat.le_of_ble_eq_true Y)) (VRunD.quiet (bi:= [5,6,0,3,2,1,4]) Y VWant.always Y Y Y (bc (lb Y) (bc (lb Y) bn)) (B.append (rows:=((l.take k).map (Qa true))) (rows2:= [[(tI x.Cell),(tS x.Letter),(tI x.Tick),(tI x.Who)]]) (rows3:=(((l.take k)++ [x]).map (Qa true))) (VDst.own (tv (T.os 4 2 0 (((l.take k).map (Qa true)).length)) Y) Y Y) (VSrc.own (tv (T.os 4 3 0 1) Y) Y Y QD (bc (bc Y (bc Y (bc Y (bc Y bn)))) bn)) (by decide) QD Qg (by decide) QF Y (of_decide_eq_true (by kernel_rfl)) (by first | exact hq1 _ | exact hq2 _ | omega | (simp only [List.length_map];omega) | (simp only [List.length_map,List.length_append,List.length_cons,List.length_nil,List.length_replicate,List.length_set,List.length_drop,List.length_take,QR] at *;omega)) ((List.map_append (f:=Qa true) (l₁:=(l.take k)) (l₂:= [x])).symm)) (mD (rd 4 Qa (l.drop k)) Y Y (VRunD.quiet (bi:= [8,4,1,2,3,0,6,5,7]) Y VWant.always Y Y Y (bc (lb Y) bn) (B.append (rows:=(((l.take k)++ [x]).map (Qa true))) (rows2:=((l.drop k).map (Qa false))) (rows3:=((((l.take k)++ [x])++(l.drop k)).map (Qa true))) (VDst.own (tv (T.os 4 4 0 ((((l.take k)++ [x]).map (Qa true)).length)) Y) Y Y) (VSrc.read (tv (rd 4 Qa (l.drop k)) Y) QD (okeNote.okMap _ _)) nofun QD Qg (by decide) QF Y (of_decide_eq_true (by kernel_rfl)) (by first | exact hq1 _ | exact hq2 _ | omega | (simp only [List.length_map];omega) | (simp only [List.length_map,List.length_append,List.length_cons,List.length_nil,List.length_replicate,List.length_set,List.length_drop,List.length_take,QR] at *;omega)) ((List.map_append (f:=Qa true) (l₁:=((l.take k)++ [x])) (l₂:=(l.drop k))).symm)) ?_))))))
  refine fD (OF.assign (tv (T.os 4 5 0 (((((l.take k)++ [x])++(l.drop k)).map (Qa true)).length)) Y)) Y Y (VRunD.nil (tn (sq (sr (mO (rd 4 Qa l) Y (cO (cS (vc (tv (rd 4 Qa l) Y) vn) (ZM Y) (Qw (n+0) l (by first | exact hq1 _ | exact hq2 _ | assumption | omega)) Y Y) (fO (QU (tv (tB (decide (Qb l))) Y)) (mO (tB (!(decide (Qb l)))) Y ?_))))))))
  refine gn (Qb l) (fun fhg63_8=> ?_) fun fhg63_8=> ?_
  ·refine Ji 3 3 false 63 (ny fhg63_8) Y Y Y ?_
   refine fO (OF.pickT (VEv.tmpB Y (ny fhg63_8)) (VEv.bool true)) (nt (ct Y (sr (kO (OM.slice0 QD QF (by kernel_rfl) Y (by rw [Qg];decide) Qg) (mO (rd 4 Qa l) Y (cO (B.append (rows:= []) (rows2:=(l.map (Qa false))) (rows3:=(l.map (Qa true))) (VDst.own (tv (T.os 4 6 0 0) Y) Y Y) (VSrc.read (tv (rd 4 Qa l) Y) QD (okeNote.okMap _ _)) nofun QD Qg (by decide) QF Y (of_decide_eq_true (by kernel_rfl)) (by first | exact hq1 _ | exact hq2 _ | omega | (simp only [List.length_map];omega) | (simp only [List.length_map,List.length_append,List.length_cons,List.length_nil,List.length_replicate,List.length_set,List.length_drop,List.length_take,QR] at *;omega)) (List.nil_append _)) (aO (T.os 4 7 0 ((l.map (Qa true)).length)) Y (nt (rt (tr ?_))))))))))
   refine vfin.eq (r':=(T.sl true 4 (l.map (Qa true)))) ?_ (vfin.r (VRes.tmp (t:=(T.os 4 7 0 ((l.map (Qa true)).length))) Y VRes.nil) (Give.os Y Y (okeNote.cleanMap _)))
   refine congrArg (fun l_=>T.sl true 4 (List.map (Qa true) l_)) ?_
   first
   | (exfalso;simp only [List.length_drop] at *;omega)
   | (cases Qz hx2▸hx1;exact (Ql (Qp hI' hx1 fhc1 (by rw [fhc2];decide))).symm)
   | (symm;exact Qs ‹¬Qb l›)
   | (cases Qz hx2▸hx1;symm;have e:=QI hI' hx1 fhc1 fhc2;rw [QL,List.drop_drop] at *;first | exact Qc e fhc3 | exact Qd ‹Qb l› e fhc3)
   | (have e:=Qq hI' (by omega);rw [QL] at *;symm;first | exact Qc e fhc3 | exact Qd ‹Qb l› e fhc3)
   | (cases Qz hx2▸hx1;have e:=Qr hI' hx1 fhc0 fhc1;rw [QL] at *;symm;first | exact Qc e fhc3 | exact Qd ‹Qb l› e fhc3)
  refine gF (nz fhg63_8) Y Y (OF.move (tv (T.os 4 5 0 (((((l.take k)++ [x])++(l.drop k)).map (Qa true)).length)) Y)) (VRunO.chain (VWant.on Y Y (nz fhg63_8)) (cS (us:= [(rd 4 Qa (((l.take k)++ [x])++(l.drop k)))]) (vc (tv (T.os 4 5 0 (((((l.take k)++ [x])++(l.drop k)).map (Qa true)).length)) Y) vn) (LendL.cons (Lend.os Y Y (okeNote.fzMap _ _)) ln) (Qw (n+0) (((l.take k)++ [x])++(l.drop k)) (by first | exact hq1 _ | exact hq2 _ | assumption | omega)) Y Y) (gF (nz fhg63_8) Y Y (QU (tv (tB (decide (Qb (((l.take k)++ [x])++(l.drop k))))) Y)) (fO (OF.pickF (VEv.tmpB Y (nz fhg63_8)) (tv (tB (!(decide (Qb (((l.take k)++ [x])++(l.drop k)))))) Y)) (nt ?_))))
  refine cn (Qb (((l.take k)++ [x])++(l.drop k))) Y (fun fhc3=> ?_) fun fhc3=> ?_
  ·refine sr ?_
   refine kO (OM.slice0 QD QF (by kernel_rfl) Y (by rw [Qg];decide) Qg) (mO (rd 4 Qa l) Y (cO (B.append (rows:= []) (rows2:=(l.map (Qa false))) (rows3:=(l.map (Qa true))) (VDst.own (tv (T.os 4 6 0 0) Y) Y Y) (VSrc.read (tv (rd 4 Qa l) Y) QD (okeNote.okMap _ _)) nofun QD Qg (by decide) QF Y (of_decide_eq_true (by kernel_rfl)) (by first | exact hq1 _ | exact hq2 _ | omega | (simp only [List.length_map];omega) | (simp only [List.length_map,List.length_append,List.length_cons,List.length_nil,List.length_replicate,List.length_set,List.length_drop,List.length_take,QR] at *;omega)) (List.nil_append _)) (aO (T.os 4 7 0 ((l.map (Qa true)).length)) Y (nt (rt (tr ?_))))))
   refine vfin.eq (r':=(T.sl true 4 (l.map (Qa true)))) ?_ (vfin.r (VRes.tmp (t:=(T.os 4 7 0 ((l.map (Qa true)).length))) Y VRes.nil) (Give.os Y Y (okeNote.cleanMap _)))
   refine congrArg (fun l_=>T.sl true 4 (List.map (Qa true) l_)) ?_
   first
   | (exfalso;simp only [List.length_drop] at *;omega)
   | (cases Qz hx2▸hx1;exact (Ql (Qp hI' hx1 fhc1 (by rw [fhc2];decide))).symm)
   | (symm;exact Qs ‹¬Qb l›)
   | (cases Qz hx2▸hx1;symm;have e:=QI hI' hx1 fhc1 fhc2;rw [QL,List.drop_drop] at *;first | exact Qc e fhc3 | exact Qd ‹Qb l› e fhc3)
   | (have e:=Qq hI' (by omega);rw [QL] at *;symm;first | exact Qc e fhc3 | exact Qd ‹Qb l› e fhc3)
   | (cases Qz hx2▸hx1;have e:=Qr hI' hx1 fhc0 fhc1;rw [QL] at *;symm;first | exact Qc e fhc3 | exact Qd ‹Qb l› e fhc3)
  refine sk (tn (sr (mO (T.os 4 5 0 (((((l.take k)++ [x])++(l.drop k)).map (Qa true)).length)) Y (aO (T.os 4 5 0 (((((l.take k)++ [x])++(l.drop k)).map (Qa true)).length)) Y (nt (rt ?_))))))
  refine vfin.eq (r':=(T.sl true 4 ((((l.take k)++ [x])++(l.drop k)).map (Qa true)))) ?_ (vfin.r (VRes.tmp (t:=(T.os 4 5 0 (((((l.take k)++ [x])++(l.drop k)).map (Qa true)).length))) Y VRes.nil) (Give.os Y Y (okeNote.cleanMap _)))
  refine congrArg (fun l_=>T.sl true 4 (List.map (Qa true) l_)) ?_
  first
  | (exfalso;simp only [List.length_drop] at *;omega)
  | (cases Qz hx2▸hx1;exact (Ql (Qp hI' hx1 fhc1 (by rw [fhc2];decide))).symm)
  | (symm;exact Qs ‹¬Qb l›)
  | (cases Qz hx2▸hx1;symm;have e:=QI hI' hx1 fhc1 fhc2;rw [QL,List.drop_drop] at *;first | exact Qc e fhc3 | exact Qd ‹Qb l› e fhc3)
  | (have e:=Qq hI' (by omega);rw [QL] at *;symm;first | exact Qc e fhc3 | exact Qd ‹Qb l› e fhc3)
  | (cases Qz hx2▸hx1;have e:=Qr hI' hx1 fhc0 fhc1;rw [QL] at *;symm;first | exact Qc e fhc3 | exact Qd ‹Qb l› e fhc3)
 refine oD Y Y (dz fhg30_6) Y (oD Y Y (dz fhg30_6) Y (oD Y Y (dz fhg30_6) Y (oD Y Y (dz fhg30_6) Y (oD Y Y (dz fhg30_6) Y (oD Y Y (dz fhg30_6) Y (oD Y Y (dz fhg30_6) Y (fD (OF.pickF (VEv.tmpB Y (dz fhg30_6)) (VEv.bool false)) Y Y (VRunD.nil (tn (cf Y (sk ?_)))))))))))
 refine tn (sq (VRun.draw (B:= [[],[],[],[2,1],[1,2,3,0],[],[5],[5,6,0,3,2,1,4],[],[8,4,1,2,3,0,6,5,7],[7,5,6,0,3,2,1,4,8,9]]) (by kernel_rfl) (by kernel_rfl) (VRunD.make Y VWant.always Y (OM.slice0 QD QF (by kernel_rfl) Y (by rw [Qg];decide) Qg) (mD (rd 4 Qa l) Y Y (mD (tN k) Y Y ?_)))))
 refine lD (show OL _ _ _ _ _ (T.sl false 4 ((l.take k).map (Qa false))) by rw [show (l.take k).map (Qa false)=(l.map (Qa false)).take k from List.map_take ..];exact (OL.sliceRHi (j:=k) (tv (rd 4 Qa l) Y) (tv (tN k) Y) Y (by first | exact hq1 _ | exact hq2 _ | omega | (simp only [List.length_map];omega) | (simp only [List.length_map,List.length_append,List.length_cons,List.length_nil,List.length_replicate,List.length_set,List.length_drop,List.length_take,QR] at *;omega)) QD Qg Q3)) Y Y (VRunD.quiet (bi:= [1,2,3,0]) Y VWant.always Y Y Y (bc (lb Y) bn) (B.append (rows:= []) (rows2:=((l.take k).map (Qa false))) (rows3:=((l.take k).map (Qa true))) (VDst.own (tv (T.os 4 1 0 0) Y) Y Y) (VSrc.read (tv (rd 4 Qa (l.take k)) Y) QD (okeNote.okMap _ _)) nofun QD Qg (by decide) QF Y (of_decide_eq_true (by kernel_rfl)) (by first | exact hq1 _ | exact hq2 _ | omega | (simp only [List.length_map];omega) | (simp only [List.length_map,List.length_append,List.length_cons,List.length_nil,List.length_replicate,List.length_set,List.length_drop,List.length_take,QR] at *;omega)) (List.nil_append _)) (lD (OL.loadOn (us:=(Qa false x)) (tv (T.op 0 0) Y) Y Zx Qg (lb Y) Y) Y Y (VRunD.make Y VWant.always Y (OM.buildSlice (l:= [(T.agg (Qa false x))]) (VEvp.cons (tv (T.agg (Qa false x)) Y) VEvp.nil) Y (by decide) (bc (nofun) bn) (bc ((bc (Y) (bc (Y) (bc (Y) (bc (Y) bn))))) bn) (bc (Y) bn) QD QF (by kernel_rfl) Y (by rw [Qg];decide) Qg (Nat.le_of_ble_eq_true Y)) (VRunD.quiet (bi:= [5,6,0,3,2,1,4]) Y VWant.always Y Y Y (bc (lb Y) (bc (lb Y) bn)) (B.append (rows:=((l.take k).map (Qa true))) (rows2:= [[(tI x.Cell),(tS x.Letter),(tI x.Tick),(tI x.Who)]]) (rows3:=(((l.take k)++ [x]).map (Qa true))) (VDst.own (tv (T.os 4 2 0 (((l.take k).map (Qa true)).length)) Y) Y Y) (VSrc.own (tv (T.os 4 3 0 1) Y) Y Y QD (bc (bc Y (bc Y (bc Y (bc Y bn)))) bn)) (by decide) QD Qg (by decide) QF Y (of_decide_eq_true (by kernel_rfl)) (by first | exact hq1 _ | exact hq2 _ | omega | (simp only [List.length_map];omega) | (simp only [List.length_map,List.length_append,List.length_cons,List.length_nil,List.length_replicate,List.length_set,List.length_drop,List.length_take,QR] at *;omega)) ((List.map_append (f:=Qa true) (l₁:=(l.take k)) (l₂:= [x])).symm)) (mD (rd 4 Qa (l.drop k)) Y Y (VRunD.quiet (bi:= [8,4,1,2,3,0,6,5,7]) Y VWant.always Y Y Y (bc (lb Y) bn) (B.append (rows:=(((l.take k)++ [x]).map (Qa true))) (rows2:=((l.drop k).map (Qa false))) (rows3:=((((l.take k)++ [x])++(l.drop k)).map (Qa true))) (VDst.own (tv (T.os 4 4 0 ((((l.take k)++ [x]).map (Qa true)).length)) Y) Y Y) (VSrc.read (tv (rd 4 Qa (l.drop k)) Y) QD (okeNote.okMap _ _)) nofun QD Qg (by decide) QF Y (of_decide_eq_true (by kernel_rfl)) (by first | exact hq1 _ | exact hq2 _ | omega | (simp only [List.length_map];omega) | (simp only [List.length_map,List.length_append,List.length_cons,List.length_nil,List.length_replicate,List.length_set,List.length_drop,List.length_take,QR] at *;omega)) ((List.map_append (f:=Qa true) (l₁:=((l.take k)++ [x])) (l₂:=(l.drop k))).symm)) ?_))))))
 refine fD (OF.assign (tv (T.os 4 5 0 (((((l.take k)++ [x])++(l.drop k)).map (Qa true)).length)) Y)) Y Y (VRunD.nil (tn (sq (sr (mO (rd 4 Qa l) Y (cO (cS (vc (tv (rd 4 Qa l) Y) vn) (ZM Y) (Qw (n+0) l (by first | exact hq1 _ | exact hq2 _ | assumption | omega)) Y Y) (fO (QU (tv (tB (decide (Qb l))) Y)) (mO (tB (!(decide (Qb l)))) Y ?_))))))))
 refine gn (Qb l) (fun fhg63_9=> ?_) fun fhg63_9=> ?_
 ·refine Ji 3 3 false 63 (ny fhg63_9) Y Y Y ?_
  refine fO (OF.pickT (VEv.tmpB Y (ny fhg63_9)) (VEv.bool true)) (nt (ct Y (sr (kO (OM.slice0 QD QF (by kernel_rfl) Y (by rw [Qg];decide) Qg) (mO (rd 4 Qa l) Y (cO (B.append (rows:= []) (rows2:=(l.map (Qa false))) (rows3:=(l.map (Qa true))) (VDst.own (tv (T.os 4 6 0 0) Y) Y Y) (VSrc.read (tv (rd 4 Qa l) Y) QD (okeNote.okMap _ _)) nofun QD Qg (by decide) QF Y (of_decide_eq_true (by kernel_rfl)) (by first | exact hq1 _ | exact hq2 _ | omega | (simp only [List.length_map];omega) | (simp only [List.length_map,List.length_append,List.length_cons,List.length_nil,List.length_replicate,List.length_set,List.length_drop,List.length_take,QR] at *;omega)) (List.nil_append _)) (aO (T.os 4 7 0 ((l.map (Qa true)).length)) Y (nt (rt (tr ?_))))))))))
  refine vfin.eq (r':=(T.sl true 4 (l.map (Qa true)))) ?_ (vfin.r (VRes.tmp (t:=(T.os 4 7 0 ((l.map (Qa true)).length))) Y VRes.nil) (Give.os Y Y (okeNote.cleanMap _)))
  refine congrArg (fun l_=>T.sl true 4 (List.map (Qa true) l_)) ?_
  first
  | (exfalso;simp only [List.length_drop] at *;omega)
  | (cases Qz hx2▸hx1;exact (Ql (Qp hI' hx1 fhc1 (by rw [fhc2];decide))).symm)
  | (symm;exact Qs ‹¬Qb l›)
  | (cases Qz hx2▸hx1;symm;have e:=QI hI' hx1 fhc1 fhc2;rw [QL,List.drop_drop] at *;first | exact Qc e fhc3 | exact Qd ‹Qb l› e fhc3)
  | (have e:=Qq hI' (by omega);rw [QL] at *;symm;first | exact Qc e fhc3 | exact Qd ‹Qb l› e fhc3)
  | (cases Qz hx2▸hx1;have e:=Qr hI' hx1 fhc0 fhc1;rw [QL] at *;symm;first | exact Qc e fhc3 | exact Qd ‹Qb l› e fhc3)
 refine gF (nz fhg63_9) Y Y (OF.move (tv (T.os 4 5 0 (((((l.take k)++ [x])++(l.drop k)).map (Qa true)).length)) Y)) (VRunO.chain (VWant.on Y Y (nz fhg63_9)) (cS (us:= [(rd 4 Qa (((l.take k)++ [x])++(l.drop k)))]) (vc (tv (T.os 4 5 0 (((((l.take k)++ [x])++(l.drop k)).map (Qa true)).length)) Y) vn) (LendL.cons (Lend.os Y Y (okeNote.fzMap _ _)) ln) (Qw (n+0) (((l.take k)++ [x])++(l.drop k)) (by first | exact hq1 _ | exact hq2 _ | assumption | omega)) Y Y) (gF (nz fhg63_9) Y Y (QU (tv (tB (decide (Qb (((l.take k)++ [x])++(l.drop k))))) Y)) (fO (OF.pickF (VEv.tmpB Y (nz fhg63_9)) (tv (tB (!(decide (Qb (((l.take k)++ [x])++(l.drop k)))))) Y)) (nt ?_))))
 refine cn (Qb (((l.take k)++ [x])++(l.drop k))) Y (fun fhc3=> ?_) fun fhc3=> ?_
 ·refine sr ?_
  refine kO (OM.slice0 QD QF (by kernel_rfl) Y (by rw [Qg];decide) Qg) (mO (rd 4 Qa l) Y (cO (B.append (rows:= []) (rows2:=(l.map (Qa false))) (rows3:=(l.map (Qa true))) (VDst.own (tv (T.os 4 6 0 0) Y) Y Y) (VSrc.read (tv (rd 4 Qa l) Y) QD (okeNote.okMap _ _)) nofun QD Qg (by decide) QF Y (of_decide_eq_true (by kernel_rfl)) (by first | exact hq1 _ | exact hq2 _ | omega | (simp only [List.length_map];omega) | (simp only [List.length_map,List.length_append,List.length_cons,List.length_nil,List.length_replicate,List.length_set,List.length_drop,List.length_take,QR] at *;omega)) (List.nil_append _)) (aO (T.os 4 7 0 ((l.map (Qa true)).length)) Y (nt (rt (tr ?_))))))
  refine vfin.eq (r':=(T.sl true 4 (l.map (Qa true)))) ?_ (vfin.r (VRes.tmp (t:=(T.os 4 7 0 ((l.map (Qa true)).length))) Y VRes.nil) (Give.os Y Y (okeNote.cleanMap _)))
  refine congrArg (fun l_=>T.sl true 4 (List.map (Qa true) l_)) ?_
  first
  | (exfalso;simp only [List.length_drop] at *;omega)
  | (cases Qz hx2▸hx1;exact (Ql (Qp hI' hx1 fhc1 (by rw [fhc2];decide))).symm)
  | (symm;exact Qs ‹¬Qb l›)
  | (cases Qz hx2▸hx1;symm;have e:=QI hI' hx1 fhc1 fhc2;rw [QL,List.drop_drop] at *;first | exact Qc e fhc3 | exact Qd ‹Qb l› e fhc3)
  | (have e:=Qq hI' (by omega);rw [QL] at *;symm;first | exact Qc e fhc3 | exact Qd ‹Qb l› e fhc3)
  | (cases Qz hx2▸hx1;have e:=Qr hI' hx1 fhc0 fhc1;rw [QL] at *;symm;first | exact Qc e fhc3 | exact Qd ‹Qb l› e fhc3)
 refine sk (tn (sr (mO (T.os 4 5 0 (((((l.take k)++ [x])++(l.drop k)).map (Qa true)).length)) Y (aO (T.os 4 5 0 (((((l.take k)++ [x])++(l.drop k)).map (Qa true)).length)) Y (nt (rt ?_))))))
 refine vfin.eq (r':=(T.sl true 4 ((((l.take k)++ [x])++(l.drop k)).map (Qa true)))) ?_ (vfin.r (VRes.tmp (t:=(T.os 4 5 0 (((((l.take k)++ [x])++(l.drop k)).map (Qa true)).length))) Y VRes.nil) (Give.os Y Y (okeNote.cleanMap _)))
 refine congrArg (fun l_=>T.sl true 4 (List.map (Qa true) l_)) ?_
 first
 | (exfalso;simp only [List.length_drop] at *;omega)
 | (cases Qz hx2▸hx1;exact (Ql (Qp hI' hx1 fhc1 (by rw [fhc2];decide))).symm)
 | (symm;exact Qs ‹¬Qb l›)
 | (cases Qz hx2▸hx1;symm;have e:=QI hI' hx1 fhc1 fhc2;rw [QL,List.drop_drop] at *;first | exact Qc e fhc3 | exact Qd ‹Qb l› e fhc3)
 | (have e:=Qq hI' (by omega);rw [QL] at *;symm;first | exact Qc e fhc3 | exact Qd ‹Qb l› e fhc3)
 | (cases Qz hx2▸hx1;have e:=Qr hI' hx1 fhc0 fhc1;rw [QL] at *;symm;first | exact Qc e fhc3 | exact Qd ‹Qb l› e fhc3)
theorem JW (n:Nat) (l:List D.Note) (x:D.Note) (hz:zL Qj l+Qj x+1≤2*mx):Pure (QJ Try.prog (n+4)) 11 [(rd 4 Qa l),(T.agg (Qa false x))] (T.sl true 4 ((Qy l x).map (Qa true))):=by
 refine Pure.intro (rs:= [ResultVar.tmp 4]) Try.func11 Y Y Y (E0:= [(0,(rd 4 Qa l)),(1,(T.agg (Qa false x)))]) Y ?_
 obtain ⟨hlim,hmx,hmax⟩:=ZS
 have hl:=Z2 (z:=Qj) l
 have hq1:=Qdy hz
 have hq2:=Qc3 hz
 refine sr (kO (B.box (ts:=(Qa false x)) (tv (T.agg (Qa false x)) Y) nofun Y) (fO (OF.assign VEv.nils) (nt (sr (mO (rd 4 Qa l) Y (cO (OC.callF (r':=(T.os 4 1 0 ((l.map (Qa true)).length))) (objs:= [(Obj.rows 4 (l.map (Qa true)))]) Y (vc (tv (rd 4 Qa l) Y) vn) (ZM Y) (Qf (n+2) l (by first | exact hq1 _ | exact hq2 _ | assumption | omega)) Y) (aO (T.os 4 1 0 ((l.map (Qa true)).length)) Y (nt (sr (fO (OF.assign (VEv.int .i64 0)) (nt ?_)))))))))))
 refine sq (VRun.block ?_)
 refine VRun.loop (A:=Nat) (fun s_=> [(0,(rd 4 Qa l)),(3,(T.op 0 0)),(4,T.nils),(5,(T.os 4 1 0 ((l.map (Qa true)).length))),(6,(tN s_))]) (fun s_=>Jz [(0,(Obj.cells (Qa false x))),(1,(Obj.rows 4 (l.map (Qa true))))]) 2 (fun s_=>isLed l x s_) (fun s_=>l.length - s_) (0:Nat) ?_ (Wk.mk (fun k=>k) ?_ ?_ ?_) ?_
 ·exact ⟨Nat.zero_le _,fun j hj=>by omega⟩
 ·exact (b2 (b2 (b2 (b2 (b2 bn)))))
 ·exact (b3 (b3 bn))
 ·exact nd Y
 rintro k (hI':isLed l x k)
 show VRun _ _ _ [(0,(rd 4 Qa l)),(3,(T.op 0 0)),(4,T.nils),(5,(T.os 4 1 0 ((l.map (Qa true)).length))),(6,(tN k))] (Jz [(0,(Obj.cells (Qa false x))),(1,(Obj.rows 4 (l.map (Qa true))))]) 2 _
 have hI1:=hI'.1
 refine sq (sq (VRun.draw (B:= [[],[],[1],[1,2,0],[0,2,1,3],[3,1,2,0,4],[3,1,2,0,4],[6,4,0,2,1,3,5],[5,3,1,2,0,4,6,7],[7,6,4,0,2,1,3,5,8],[3,1,2,0,4],[4,0,2,1,3,10],[10,11,8,5,3,1,2,0,4,6,7,9],[9,7,6,5,8,11,10,12,3,1,2,0,4]]) (by kernel_rfl) (by kernel_rfl) (mD (tN k) Y Y (mD (rd 4 Qa l) Y Y (lD (B.lenR (m:=l.length) (tv (rd 4 Qa l) Y) QD (List.length_map ..)) Y Y (fD (JG (tv (tN k) Y) (tv (tN l.length) Y)) Y Y (mD (tB (decide (k<l.length))) Y Y ?_)))))))
 refine gw (k<l.length) (fun fhg13_1=> ?_) fun fhg13_1=> ?_
 ·refine VRunD.free Y (VWant.on Y Y (dy fhg13_1)) Y (OF.move (tv (rd 4 Qa l) Y)) ?_
  refine VRunD.free Y (VWant.on Y Y (dy fhg13_1)) Y (OF.move (tv (tN k) Y)) ?_
  obtain ⟨x1,hx1⟩:∃x,l[k]? =some x:=⟨_,List.getElem?_eq_getElem (by first | exact hq1 _ | exact hq2 _ | omega)⟩
  refine VRunD.free Y (VWant.on Y Y (dy fhg13_1)) Y (OF.indexAddrR (row:=(Qa false x1)) (i:=k) (tv (rd 4 Qa l) Y) (tv (tN k) Y) Y (QK _ hx1) QD Qg Q3) (VRunD.free Y (VWant.on Y Y (dy fhg13_1)) Y (B.fieldAddrR (us:=(Qa false x1)) (tv (T.rp (Qa false x1)) Y) (lb Y) QY Y) (VRunD.look Y (VWant.on Y Y (dy fhg13_1)) Y (OL.loadR1 (t:=(tI x1.Cell)) (tv (T.rp (Qa false x1)) Y) Y ZE) (VRunD.free Y (VWant.on Y Y (dy fhg13_1)) Y (OF.fieldAddrO (tv (T.op 0 0) Y) QY) (VRunD.look Y (VWant.on Y Y (dy fhg13_1)) Y (OL.loadO1 (t:=(tI x.Cell)) (tv (T.op 0 0) Y) Y Y ZE) (VRunD.free Y (VWant.on Y Y (dy fhg13_1)) Y (xls (tv (tI x1.Cell) Y) (tv (tI x.Cell) Y)) (fD (OF.pickT (VEv.tmpB Y (dy fhg13_1)) (tv (tB (decide (x1.Cell<x.Cell))) Y)) Y Y (VRunD.nil (tn ?_))))))))
  refine cd (x1.Cell<x.Cell) Y (fun fhc0=> ?_) fun fhc0=> ?_
  ·refine sk ?_
   refine tn (VRun.block (VRun.region (mO (tN k) Y (fO (ZQ (tv (tN k) Y) (VEv.int .i64 1) (by first | exact hq1 _ | exact hq2 _ | omega)) (aO (tN (k+1)) Y (VRunO.nil (vinB.n (tn ?_))))))))
   refine ⟨(k+1:Nat),?_,?_,Wk.mk (fun k=>k) ?_ ?_ ?_⟩
   ·exact hI'.next hx1 (by assumption)
   ·first | omega | (simp only [];omega) | (show _<_;omega) | (simp;omega)
   ·exact (b2 (b2 (b2 (b2 (b2 bn)))))
   ·exact (b3 (b3 bn))
   ·exact nd Y
  refine VRun.exit (vthn.e (vthn.e (vinB.e (tn (sq (VRun.block (sr (mO (rd 4 Qa l) Y (cO (cS (vc (tv (rd 4 Qa l) Y) vn) (ZM Y) (Qx (n+0) l (by first | exact hq1 _ | exact hq2 _ | assumption | omega)) Y Y) (fO (QU (tv (tB (decide (Qb l))) Y)) (aO (tB (!(decide (Qb l)))) Y ?_)))))))))))
  refine nt ?_
  refine cn (Qb l) Y (fun fhc1=> ?_) fun fhc1=> ?_
  ·refine sk ?_
   refine vinB.n (tn (sq (sr (mO (T.os 4 1 0 ((l.map (Qa true)).length)) Y (cO (cS (us:= [(rd 4 Qa l)]) (vc (tv (T.os 4 1 0 ((l.map (Qa true)).length)) Y) vn) (LendL.cons (Lend.os Y Y (okeNote.fzMap _ _)) ln) (Qx (n+0) l (by first | exact hq1 _ | exact hq2 _ | assumption | omega)) Y Y) (fO (QU (tv (tB (decide (Qb l))) Y)) (nt (ck (ny fhc1) Y (sr (mO (rd 4 Qa l) Y (cO (OC.callF (r':=(T.os 4 2 0 ((l.map (Qa true)).length))) (objs:= [(Obj.rows 4 (l.map (Qa true)))]) Y (vc (tv (rd 4 Qa l) Y) vn) (ZM Y) (Qf (n+2) l (by first | exact hq1 _ | exact hq2 _ | assumption | omega)) Y) ?_)))))))))))
   refine aO (T.os 4 2 0 ((l.map (Qa true)).length)) Y (nt (rt (tr ?_)))
   refine vfin.eq (r':=(T.sl true 4 (l.map (Qa true)))) ?_ (vfin.r (VRes.tmp (t:=(T.os 4 2 0 ((l.map (Qa true)).length))) Y VRes.nil) (Give.os Y Y (okeNote.cleanMap _)))
   refine congrArg (fun l_=>T.sl true 4 (List.map (Qa true) l_)) ?_
   first
   | (exfalso;omega)
   | (exact (Qs ‹¬Qb l›).symm)
   | (have e:=Qq hI' (by omega);symm;first | exact Qc e fhc4 | exact Qd ‹Qb l› e fhc4)
   | (have e:=Qr hI' hx1 fhc0 fhc2;symm;first | exact Qc e fhc4 | exact Qd ‹Qb l› e fhc4)
   | (have e:=QN hI' hx1 (by omega) fhc3;symm;first | exact Qc e fhc4 | exact Qd ‹Qb l› e fhc4)
   | (exact (Ql (Qp hI' hx1 (by omega) (by rw [fhc3];decide))).symm)
  refine sq (VRun.draw (B:= [[],[],[1],[1,2,0],[0,2,1,3],[3,1,2,0,4],[3,1,2,0,4],[6,4,0,2,1,3,5],[5,3,1,2,0,4,6,7],[7,6,4,0,2,1,3,5,8],[3,1,2,0,4],[4,0,2,1,3,10],[10,11,8,5,3,1,2,0,4,6,7,9],[9,7,6,5,8,11,10,12,3,1,2,0,4],[4,0,2,1,3,12,10,11,8,5,6,7,9,13]]) (by kernel_rfl) (by kernel_rfl) (mD (tN k) Y Y (mD (rd 4 Qa l) Y Y (lD (B.lenR (m:=l.length) (tv (rd 4 Qa l) Y) QD (List.length_map ..)) Y Y (fD (QeB (tv (tN k) Y) (tv (tN l.length) Y)) Y Y (mD (tB (decide (k=l.length))) Y Y ?_))))))
  refine gw (k=l.length) (fun fhg34_2=> ?_) fun fhg34_2=> ?_
  ·refine oD Y Y (dy fhg34_2) Y ?_
   refine oD Y Y (dy fhg34_2) Y (oD Y Y (dy fhg34_2) Y (oD Y Y (dy fhg34_2) Y (oD Y Y (dy fhg34_2) Y (oD Y Y (dy fhg34_2) Y (oD Y Y (dy fhg34_2) Y (oD Y Y (dy fhg34_2) Y (fD (OF.pickT (VEv.tmpB Y (dy fhg34_2)) (VEv.bool true)) Y Y (fD (OF.assign (tv (tB true) Y)) Y Y (VRunD.nil (tn (ct Y ?_)))))))))))
   refine VRun.region (mO (T.os 4 1 0 ((l.map (Qa true)).length)) Y (mO (tN k) Y (lO (OL.loadOn (us:=(Qa false x)) (tv (T.op 0 0) Y) Y Zx Qg (lb Y) Y) (kO (OM.buildSlice (l:= [(T.agg (Qa false x))]) (VEvp.cons (tv (T.agg (Qa false x)) Y) VEvp.nil) Y (by decide) (bc (nofun) bn) (bc ((bc (Y) (bc (Y) (bc (Y) (bc (Y) bn))))) bn) (bc (Y) bn) QD QF (by kernel_rfl) Y (by rw [Qg];decide) Qg (Nat.le_of_ble_eq_true Y)) (cO (B.insert (rows:=(l.map (Qa true))) (r:= [(tI x.Cell),(tS x.Letter),(tI x.Tick),(tI x.Who)]) (rows3:=((l.take k++x::l.drop k).map (Qa true))) (i:=k) Y Y Y (VDst.own (tv (T.os 4 1 0 ((l.map (Qa true)).length)) Y) Y Y) (tv (tN k) Y) Y (VDst.own (tv (T.os 4 2 0 1) Y) Y Y) (by decide) (YG (fun _=>rfl) _) (bc (bc Y (bc Y (bc Y (bc Y bn)))) bn) (okeNote.okMap _ _) (bc Y (bc Y (bc Y (bc Y bn)))) (by decide) (by decide) (by first | exact hq1 _ | exact hq2 _ | omega | (simp only [List.length_map];omega) | (simp only [List.length_map,List.length_append,List.length_cons,List.length_nil,List.length_replicate,List.length_set,List.length_drop,List.length_take,QR] at *;omega)) (by first | exact hq1 _ | exact hq2 _ | omega | (simp only [List.length_map];omega) | (simp only [List.length_map,List.length_append,List.length_cons,List.length_nil,List.length_replicate,List.length_set,List.length_drop,List.length_take,QR] at *;omega)) (by rw [List.map_append,List.map_cons,List.map_take,List.map_drop];rfl)) (aO (T.os 4 3 0 (((l.take k++x::l.drop k).map (Qa true)).length)) Y (VRunO.nil (vinB.n (tn (sq (sr ?_)))))))))))
   refine mO (T.os 4 3 0 (((l.take k++x::l.drop k).map (Qa true)).length)) Y (cO (cS (us:= [(rd 4 Qa (l.take k++x::l.drop k))]) (vc (tv (T.os 4 3 0 (((l.take k++x::l.drop k).map (Qa true)).length)) Y) vn) (LendL.cons (Lend.os Y Y (okeNote.fzMap _ _)) ln) (Qx (n+0) (l.take k++x::l.drop k) (by first | exact hq1 _ | exact hq2 _ | assumption | omega)) Y Y) (fO (QU (tv (tB (decide (Qb (l.take k++x::l.drop k)))) Y)) (nt ?_)))
   refine cn (Qb (l.take k++x::l.drop k)) Y (fun fhc4=> ?_) fun fhc4=> ?_
   ·refine sr ?_
    refine mO (rd 4 Qa l) Y (cO (OC.callF (r':=(T.os 4 4 0 ((l.map (Qa true)).length))) (objs:= [(Obj.rows 4 (l.map (Qa true)))]) Y (vc (tv (rd 4 Qa l) Y) vn) (ZM Y) (Qf (n+2) l (by first | exact hq1 _ | exact hq2 _ | assumption | omega)) Y) (aO (T.os 4 4 0 ((l.map (Qa true)).length)) Y (nt (rt (tr ?_)))))
    refine vfin.eq (r':=(T.sl true 4 (l.map (Qa true)))) ?_ (vfin.r (VRes.tmp (t:=(T.os 4 4 0 ((l.map (Qa true)).length))) Y VRes.nil) (Give.os Y Y (okeNote.cleanMap _)))
    refine congrArg (fun l_=>T.sl true 4 (List.map (Qa true) l_)) ?_
    first
    | (exfalso;omega)
    | (exact (Qs ‹¬Qb l›).symm)
    | (have e:=Qq hI' (by omega);symm;first | exact Qc e fhc4 | exact Qd ‹Qb l› e fhc4)
    | (have e:=Qr hI' hx1 fhc0 fhc2;symm;first | exact Qc e fhc4 | exact Qd ‹Qb l› e fhc4)
    | (have e:=QN hI' hx1 (by omega) fhc3;symm;first | exact Qc e fhc4 | exact Qd ‹Qb l› e fhc4)
    | (exact (Ql (Qp hI' hx1 (by omega) (by rw [fhc3];decide))).symm)
   refine sk (tn (sr (mO (T.os 4 3 0 (((l.take k++x::l.drop k).map (Qa true)).length)) Y (aO (T.os 4 3 0 (((l.take k++x::l.drop k).map (Qa true)).length)) Y (nt (rt ?_))))))
   refine vfin.eq (r':=(T.sl true 4 ((l.take k++x::l.drop k).map (Qa true)))) ?_ (vfin.r (VRes.tmp (t:=(T.os 4 3 0 (((l.take k++x::l.drop k).map (Qa true)).length))) Y VRes.nil) (Give.os Y Y (okeNote.cleanMap _)))
   refine congrArg (fun l_=>T.sl true 4 (List.map (Qa true) l_)) ?_
   first
   | (exfalso;omega)
   | (exact (Qs ‹¬Qb l›).symm)
   | (have e:=Qq hI' (by omega);symm;first | exact Qc e fhc4 | exact Qd ‹Qb l› e fhc4)
   | (have e:=Qr hI' hx1 fhc0 fhc2;symm;first | exact Qc e fhc4 | exact Qd ‹Qb l› e fhc4)
   | (have e:=QN hI' hx1 (by omega) fhc3;symm;first | exact Qc e fhc4 | exact Qd ‹Qb l› e fhc4)
   | (exact (Ql (Qp hI' hx1 (by omega) (by rw [fhc3];decide))).symm)
  refine VRunD.free Y (VWant.on Y Y (dz fhg34_2)) Y (OF.move (tv (rd 4 Qa l) Y)) (VRunD.free Y (VWant.on Y Y (dz fhg34_2)) Y (OF.move (tv (tN k) Y)) (VRunD.free Y (VWant.on Y Y (dz fhg34_2)) Y (OF.indexAddrR (row:=(Qa false x1)) (i:=k) (tv (rd 4 Qa l) Y) (tv (tN k) Y) Y (QK _ hx1) QD Qg Q3) (VRunD.free Y (VWant.on Y Y (dz fhg34_2)) Y (B.fieldAddrR (us:=(Qa false x1)) (tv (T.rp (Qa false x1)) Y) (lb Y) QY Y) (VRunD.look Y (VWant.on Y Y (dz fhg34_2)) Y (OL.loadR1 (t:=(tI x1.Cell)) (tv (T.rp (Qa false x1)) Y) Y ZE) (VRunD.free Y (VWant.on Y Y (dz fhg34_2)) Y (OF.fieldAddrO (tv (T.op 0 0) Y) QY) (VRunD.look Y (VWant.on Y Y (dz fhg34_2)) Y (OL.loadO1 (t:=(tI x.Cell)) (tv (T.op 0 0) Y) Y Y ZE) (VRunD.free Y (VWant.on Y Y (dz fhg34_2)) Y (xne (tv (tI x1.Cell) Y) (tv (tI x.Cell) Y)) (fD (OF.pickF (VEv.tmpB Y (dz fhg34_2)) (tv (tB (!(decide (x1.Cell=x.Cell)))) Y)) Y Y (fD (OF.assign (tv (tB (!(decide (x1.Cell=x.Cell)))) Y)) Y Y (VRunD.nil (tn ?_)))))))))))
  refine cn (x1.Cell=x.Cell) Y (fun fhc2=> ?_) fun fhc2=> ?_
  ·refine VRun.region ?_
   refine mO (T.os 4 1 0 ((l.map (Qa true)).length)) Y (mO (tN k) Y (lO (OL.loadOn (us:=(Qa false x)) (tv (T.op 0 0) Y) Y Zx Qg (lb Y) Y) (kO (OM.buildSlice (l:= [(T.agg (Qa false x))]) (VEvp.cons (tv (T.agg (Qa false x)) Y) VEvp.nil) Y (by decide) (bc (nofun) bn) (bc ((bc (Y) (bc (Y) (bc (Y) (bc (Y) bn))))) bn) (bc (Y) bn) QD QF (by kernel_rfl) Y (by rw [Qg];decide) Qg (Nat.le_of_ble_eq_true Y)) (cO (B.insert (rows:=(l.map (Qa true))) (r:= [(tI x.Cell),(tS x.Letter),(tI x.Tick),(tI x.Who)]) (rows3:=((l.take k++x::l.drop k).map (Qa true))) (i:=k) Y Y Y (VDst.own (tv (T.os 4 1 0 ((l.map (Qa true)).length)) Y) Y Y) (tv (tN k) Y) Y (VDst.own (tv (T.os 4 2 0 1) Y) Y Y) (by decide) (YG (fun _=>rfl) _) (bc (bc Y (bc Y (bc Y (bc Y bn)))) bn) (okeNote.okMap _ _) (bc Y (bc Y (bc Y (bc Y bn)))) (by decide) (by decide) (by first | exact hq1 _ | exact hq2 _ | omega | (simp only [List.length_map];omega) | (simp only [List.length_map,List.length_append,List.length_cons,List.length_nil,List.length_replicate,List.length_set,List.length_drop,List.length_take,QR] at *;omega)) (by first | exact hq1 _ | exact hq2 _ | omega | (simp only [List.length_map];omega) | (simp only [List.length_map,List.length_append,List.length_cons,List.length_nil,List.length_replicate,List.length_set,List.length_drop,List.length_take,QR] at *;omega)) (by rw [List.map_append,List.map_cons,List.map_take,List.map_drop];rfl)) (aO (T.os 4 3 0 (((l.take k++x::l.drop k).map (Qa true)).length)) Y (VRunO.nil (vinB.n (tn (sq (sr (mO (T.os 4 3 0 (((l.take k++x::l.drop k).map (Qa true)).length)) Y ?_)))))))))))
   refine cO (cS (us:= [(rd 4 Qa (l.take k++x::l.drop k))]) (vc (tv (T.os 4 3 0 (((l.take k++x::l.drop k).map (Qa true)).length)) Y) vn) (LendL.cons (Lend.os Y Y (okeNote.fzMap _ _)) ln) (Qx (n+0) (l.take k++x::l.drop k) (by first | exact hq1 _ | exact hq2 _ | assumption | omega)) Y Y) (fO (QU (tv (tB (decide (Qb (l.take k++x::l.drop k)))) Y)) (nt ?_))
   refine cn (Qb (l.take k++x::l.drop k)) Y (fun fhc4=> ?_) fun fhc4=> ?_
   ·refine sr ?_
    refine mO (rd 4 Qa l) Y (cO (OC.callF (r':=(T.os 4 4 0 ((l.map (Qa true)).length))) (objs:= [(Obj.rows 4 (l.map (Qa true)))]) Y (vc (tv (rd 4 Qa l) Y) vn) (ZM Y) (Qf (n+2) l (by first | exact hq1 _ | exact hq2 _ | assumption | omega)) Y) (aO (T.os 4 4 0 ((l.map (Qa true)).length)) Y (nt (rt (tr ?_)))))
    refine vfin.eq (r':=(T.sl true 4 (l.map (Qa true)))) ?_ (vfin.r (VRes.tmp (t:=(T.os 4 4 0 ((l.map (Qa true)).length))) Y VRes.nil) (Give.os Y Y (okeNote.cleanMap _)))
    refine congrArg (fun l_=>T.sl true 4 (List.map (Qa true) l_)) ?_
    first
    | (exfalso;omega)
    | (exact (Qs ‹¬Qb l›).symm)
    | (have e:=Qq hI' (by omega);symm;first | exact Qc e fhc4 | exact Qd ‹Qb l› e fhc4)
    | (have e:=Qr hI' hx1 fhc0 fhc2;symm;first | exact Qc e fhc4 | exact Qd ‹Qb l› e fhc4)
    | (have e:=QN hI' hx1 (by omega) fhc3;symm;first | exact Qc e fhc4 | exact Qd ‹Qb l› e fhc4)
    | (exact (Ql (Qp hI' hx1 (by omega) (by rw [fhc3];decide))).symm)
   refine sk (tn (sr (mO (T.os 4 3 0 (((l.take k++x::l.drop k).map (Qa true)).length)) Y (aO (T.os 4 3 0 (((l.take k++x::l.drop k).map (Qa true)).length)) Y (nt (rt ?_))))))
   refine vfin.eq (r':=(T.sl true 4 ((l.take k++x::l.drop k).map (Qa true)))) ?_ (vfin.r (VRes.tmp (t:=(T.os 4 3 0 (((l.take k++x::l.drop k).map (Qa true)).length))) Y VRes.nil) (Give.os Y Y (okeNote.cleanMap _)))
   refine congrArg (fun l_=>T.sl true 4 (List.map (Qa true) l_)) ?_
   first
   | (exfalso;omega)
   | (exact (Qs ‹¬Qb l›).symm)
   | (have e:=Qq hI' (by omega);symm;first | exact Qc e fhc4 | exact Qd ‹Qb l› e fhc4)
   | (have e:=Qr hI' hx1 fhc0 fhc2;symm;first | exact Qc e fhc4 | exact Qd ‹Qb l› e fhc4)
   | (have e:=QN hI' hx1 (by omega) fhc3;symm;first | exact Qc e fhc4 | exact Qd ‹Qb l› e fhc4)
   | (exact (Ql (Qp hI' hx1 (by omega) (by rw [fhc3];decide))).symm)
  refine sq (VRun.draw (B:= [[],[],[],[2,1],[1,2,3],[3,2,1,4,0],[0,4,1,2,3,5]]) (by kernel_rfl) (by kernel_rfl) (lD (OL.loadOn (us:=(Qa false x)) (tv (T.op 0 0) Y) Y Zx Qg (lb Y) Y) Y Y (mD (rd 4 Qa l) Y Y (mD (tN k) Y Y (fD (OF.indexAddrR (row:=(Qa false x1)) (i:=k) (tv (rd 4 Qa l) Y) (tv (tN k) Y) Y (QK _ hx1) QD Qg Q3) Y Y (lD (OL.loadRn (us:=(Qa false x1)) (tv (T.rp (Qa false x1)) Y) Zx Qg (lb Y) Y) Y Y (VRunD.quiet (bi:= [3,2,1,4,0]) Y VWant.always Y Y Y bn (cS (vc (tv (T.agg (Qa false x)) Y) (vc (tv (T.agg (Qa false x1)) Y) vn)) (LendL.cons (lg okeNote) (LendL.cons (lg okeNote) ln)) (YZ (n+2) x x1) Y Y) (fD (OF.assign (tv (tB (QQ x x1)) Y)) Y Y (VRunD.nil (tn ?_))))))))))
  refine VRun.cond (tv (tB (QQ x x1)) Y) (fun hc3=> ?_) (fun hc3=> ?_)
  ·have fhc3:(QQ x x1)=true:=hc3
   refine VRun.region (mO (T.os 4 1 0 ((l.map (Qa true)).length)) Y (mO (tN k) Y (lO (OL.loadOn (us:=(Qa false x)) (tv (T.op 0 0) Y) Y Zx Qg (lb Y) Y) (fO (B.indexAddrO (i:=k) (tv (T.os 4 1 0 ((l.map (Qa true)).length)) Y) (tv (tN k) Y) Y (by first | exact hq1 _ | exact hq2 _ | omega | (simp only [List.length_map];omega) | (simp only [List.length_map,List.length_append,List.length_cons,List.length_nil,List.length_replicate,List.length_set,List.length_drop,List.length_take,QR] at *;omega)) QD Qg Q3) (cO (B.storeP (us:=(Qa false x)) (rows':=((l.set k x).map (Qa true))) (row:=(Qa true x1)) (tv (T.orp 4 1 k 0) Y) (tv (T.agg (Qa false x)) Y) nofun Y (QK _ hx1) Y (lb Y) Q3 Qg (bc Y (bc Y (bc Y (bc Y bn)))) (by intro r hr t ht;obtain ⟨x,_,rfl⟩:=List.mem_map.1 hr;rw [Jg] at ht;exact ZA (okeNote.pl _ t ht)) (Z6 Y)) (VRunO.nil (vinB.n (tn (sq (sr (mO (T.os 4 1 0 ((l.map (Qa true)).length)) Y ?_)))))))))))
   refine cO (cS (us:= [(rd 4 Qa (l.set k x))]) (vc (tv (T.os 4 1 0 ((l.map (Qa true)).length)) Y) vn) (LendL.cons (Lend.os Y (by simp only [List.length_map,Qk,List.length_set]) (okeNote.fzMap _ _)) ln) (Qx (n+0) (l.set k x) (by first | exact hq1 _ | exact hq2 _ | assumption | omega)) Y Y) (fO (QU (tv (tB (decide (Qb (l.set k x)))) Y)) (nt ?_))
   refine cn (Qb (l.set k x)) Y (fun fhc4=> ?_) fun fhc4=> ?_
   ·refine sr ?_
    refine mO (rd 4 Qa l) Y (cO (OC.callF (r':=(T.os 4 2 0 ((l.map (Qa true)).length))) (objs:= [(Obj.rows 4 (l.map (Qa true)))]) Y (vc (tv (rd 4 Qa l) Y) vn) (ZM Y) (Qf (n+2) l (by first | exact hq1 _ | exact hq2 _ | assumption | omega)) Y) (aO (T.os 4 2 0 ((l.map (Qa true)).length)) Y (nt (rt (tr ?_)))))
    refine vfin.eq (r':=(T.sl true 4 (l.map (Qa true)))) ?_ (vfin.r (VRes.tmp (t:=(T.os 4 2 0 ((l.map (Qa true)).length))) Y VRes.nil) (Give.os Y Y (okeNote.cleanMap _)))
    refine congrArg (fun l_=>T.sl true 4 (List.map (Qa true) l_)) ?_
    first
    | (exfalso;omega)
    | (exact (Qs ‹¬Qb l›).symm)
    | (have e:=Qq hI' (by omega);symm;first | exact Qc e fhc4 | exact Qd ‹Qb l› e fhc4)
    | (have e:=Qr hI' hx1 fhc0 fhc2;symm;first | exact Qc e fhc4 | exact Qd ‹Qb l› e fhc4)
    | (have e:=QN hI' hx1 (by omega) fhc3;symm;first | exact Qc e fhc4 | exact Qd ‹Qb l› e fhc4)
    | (exact (Ql (Qp hI' hx1 (by omega) (by rw [fhc3];decide))).symm)
   refine sk (tn (sr (mO (T.os 4 1 0 ((l.map (Qa true)).length)) Y (aO (T.os 4 1 0 ((l.map (Qa true)).length)) Y (nt (rt ?_))))))
   refine vfin.eq (r':=(T.sl true 4 ((l.set k x).map (Qa true)))) ?_ (vfin.r (VRes.tmp (t:=(T.os 4 1 0 ((l.map (Qa true)).length))) Y VRes.nil) (Give.os Y (by simp only [List.length_map,List.length_set]) (okeNote.cleanMap _)))
   refine congrArg (fun l_=>T.sl true 4 (List.map (Qa true) l_)) ?_
   first
   | (exfalso;omega)
   | (exact (Qs ‹¬Qb l›).symm)
   | (have e:=Qq hI' (by omega);symm;first | exact Qc e fhc4 | exact Qd ‹Qb l› e fhc4)
   | (have e:=Qr hI' hx1 fhc0 fhc2;symm;first | exact Qc e fhc4 | exact Qd ‹Qb l› e fhc4)
   | (have e:=QN hI' hx1 (by omega) fhc3;symm;first | exact Qc e fhc4 | exact Qd ‹Qb l› e fhc4)
   | (exact (Ql (Qp hI' hx1 (by omega) (by rw [fhc3];decide))).symm)
  have fhc3:(QQ x x1)=false:=hc3
  refine sk (vinB.n (tn (sq (sr (mO (T.os 4 1 0 ((l.map (Qa true)).length)) Y (cO (cS (us:= [(rd 4 Qa l)]) (vc (tv (T.os 4 1 0 ((l.map (Qa true)).length)) Y) vn) (LendL.cons (Lend.os Y Y (okeNote.fzMap _ _)) ln) (Qx (n+0) l (by first | exact hq1 _ | exact hq2 _ | assumption | omega)) Y Y) (fO (QU (tv (tB (decide (Qb l))) Y)) (nt (cg (nz fhc1) Y (sk (tn ?_)))))))))))
  refine sr (mO (T.os 4 1 0 ((l.map (Qa true)).length)) Y (aO (T.os 4 1 0 ((l.map (Qa true)).length)) Y (nt (rt ?_))))
  refine vfin.eq (r':=(T.sl true 4 (l.map (Qa true)))) ?_ (vfin.r (VRes.tmp (t:=(T.os 4 1 0 ((l.map (Qa true)).length))) Y VRes.nil) (Give.os Y Y (okeNote.cleanMap _)))
  refine congrArg (fun l_=>T.sl true 4 (List.map (Qa true) l_)) ?_
  first
  | (exfalso;omega)
  | (exact (Qs ‹¬Qb l›).symm)
  | (have e:=Qq hI' (by omega);symm;first | exact Qc e fhc4 | exact Qd ‹Qb l› e fhc4)
  | (have e:=Qr hI' hx1 fhc0 fhc2;symm;first | exact Qc e fhc4 | exact Qd ‹Qb l› e fhc4)
  | (have e:=QN hI' hx1 (by omega) fhc3;symm;first | exact Qc e fhc4 | exact Qd ‹Qb l› e fhc4)
  | (exact (Ql (Qp hI' hx1 (by omega) (by rw [fhc3];decide))).symm)
 refine oD Y Y (dz fhg13_1) Y (oD Y Y (dz fhg13_1) Y (oD Y Y (dz fhg13_1) Y (oD Y Y (dz fhg13_1) Y (oD Y Y (dz fhg13_1) Y (oD Y Y (dz fhg13_1) Y (oD Y Y (dz fhg13_1) Y (oD Y Y (dz fhg13_1) Y (fD (OF.pickF (VEv.tmpB Y (dz fhg13_1)) (VEv.bool false)) Y Y (VRunD.nil (tn (cf Y ?_)))))))))))
 refine VRun.exit (vthn.e (vthn.e (vinB.e (tn (sq (VRun.block (sr (mO (rd 4 Qa l) Y (cO (cS (vc (tv (rd 4 Qa l) Y) vn) (ZM Y) (Qx (n+0) l (by first | exact hq1 _ | exact hq2 _ | assumption | omega)) Y Y) (fO (QU (tv (tB (decide (Qb l))) Y)) (aO (tB (!(decide (Qb l)))) Y ?_)))))))))))
 refine nt ?_
 refine cn (Qb l) Y (fun fhc1=> ?_) fun fhc1=> ?_
 ·refine sk ?_
  refine vinB.n (tn (sq (sr (mO (T.os 4 1 0 ((l.map (Qa true)).length)) Y (cO (cS (us:= [(rd 4 Qa l)]) (vc (tv (T.os 4 1 0 ((l.map (Qa true)).length)) Y) vn) (LendL.cons (Lend.os Y Y (okeNote.fzMap _ _)) ln) (Qx (n+0) l (by first | exact hq1 _ | exact hq2 _ | assumption | omega)) Y Y) (fO (QU (tv (tB (decide (Qb l))) Y)) (nt (ck (ny fhc1) Y (sr (mO (rd 4 Qa l) Y (cO (OC.callF (r':=(T.os 4 2 0 ((l.map (Qa true)).length))) (objs:= [(Obj.rows 4 (l.map (Qa true)))]) Y (vc (tv (rd 4 Qa l) Y) vn) (ZM Y) (Qf (n+2) l (by first | exact hq1 _ | exact hq2 _ | assumption | omega)) Y) ?_)))))))))))
  refine aO (T.os 4 2 0 ((l.map (Qa true)).length)) Y (nt (rt (tr ?_)))
  refine vfin.eq (r':=(T.sl true 4 (l.map (Qa true)))) ?_ (vfin.r (VRes.tmp (t:=(T.os 4 2 0 ((l.map (Qa true)).length))) Y VRes.nil) (Give.os Y Y (okeNote.cleanMap _)))
  refine congrArg (fun l_=>T.sl true 4 (List.map (Qa true) l_)) ?_
  first
  | (exfalso;omega)
  | (exact (Qs ‹¬Qb l›).symm)
  | (have e:=Qq hI' (by omega);symm;first | exact Qc e fhc4 | exact Qd ‹Qb l› e fhc4)
  | (have e:=Qr hI' hx1 fhc0 fhc2;symm;first | exact Qc e fhc4 | exact Qd ‹Qb l› e fhc4)
  | (have e:=QN hI' hx1 (by omega) fhc3;symm;first | exact Qc e fhc4 | exact Qd ‹Qb l› e fhc4)
  | (exact (Ql (Qp hI' hx1 (by omega) (by rw [fhc3];decide))).symm)
 refine sq (VRun.draw (B:= [[],[],[1],[1,2,0],[0,2,1,3],[3,1,2,0,4],[3,1,2,0,4],[6,4,0,2,1,3,5],[5,3,1,2,0,4,6,7],[7,6,4,0,2,1,3,5,8],[3,1,2,0,4],[4,0,2,1,3,10],[10,11,8,5,3,1,2,0,4,6,7,9],[9,7,6,5,8,11,10,12,3,1,2,0,4],[4,0,2,1,3,12,10,11,8,5,6,7,9,13]]) (by kernel_rfl) (by kernel_rfl) (mD (tN k) Y Y (mD (rd 4 Qa l) Y Y (lD (B.lenR (m:=l.length) (tv (rd 4 Qa l) Y) QD (List.length_map ..)) Y Y (fD (QeB (tv (tN k) Y) (tv (tN l.length) Y)) Y Y (mD (tB (decide (k=l.length))) Y Y ?_))))))
 refine gw (k=l.length) (fun fhg34_3=> ?_) fun fhg34_3=> ?_
 ·refine oD Y Y (dy fhg34_3) Y ?_
  refine oD Y Y (dy fhg34_3) Y (oD Y Y (dy fhg34_3) Y (oD Y Y (dy fhg34_3) Y (oD Y Y (dy fhg34_3) Y (oD Y Y (dy fhg34_3) Y (oD Y Y (dy fhg34_3) Y (oD Y Y (dy fhg34_3) Y (fD (OF.pickT (VEv.tmpB Y (dy fhg34_3)) (VEv.bool true)) Y Y (fD (OF.assign (tv (tB true) Y)) Y Y (VRunD.nil (tn (ct Y ?_)))))))))))
  refine VRun.region (mO (T.os 4 1 0 ((l.map (Qa true)).length)) Y (mO (tN k) Y (lO (OL.loadOn (us:=(Qa false x)) (tv (T.op 0 0) Y) Y Zx Qg (lb Y) Y) (kO (OM.buildSlice (l:= [(T.agg (Qa false x))]) (VEvp.cons (tv (T.agg (Qa false x)) Y) VEvp.nil) Y (by decide) (bc (nofun) bn) (bc ((bc (Y) (bc (Y) (bc (Y) (bc (Y) bn))))) bn) (bc (Y) bn) QD QF (by kernel_rfl) Y (by rw [Qg];decide) Qg (Nat.le_of_ble_eq_true Y)) (cO (B.insert (rows:=(l.map (Qa true))) (r:= [(tI x.Cell),(tS x.Letter),(tI x.Tick),(tI x.Who)]) (rows3:=((l.take k++x::l.drop k).map (Qa true))) (i:=k) Y Y Y (VDst.own (tv (T.os 4 1 0 ((l.map (Qa true)).length)) Y) Y Y) (tv (tN k) Y) Y (VDst.own (tv (T.os 4 2 0 1) Y) Y Y) (by decide) (YG (fun _=>rfl) _) (bc (bc Y (bc Y (bc Y (bc Y bn)))) bn) (okeNote.okMap _ _) (bc Y (bc Y (bc Y (bc Y bn)))) (by decide) (by decide) (by first | exact hq1 _ | exact hq2 _ | omega | (simp only [List.length_map];omega) | (simp only [List.length_map,List.length_append,List.length_cons,List.length_nil,List.length_replicate,List.length_set,List.length_drop,List.length_take,QR] at *;omega)) (by first | exact hq1 _ | exact hq2 _ | omega | (simp only [List.length_map];omega) | (simp only [List.length_map,List.length_append,List.length_cons,List.length_nil,List.length_replicate,List.length_set,List.length_drop,List.length_take,QR] at *;omega)) (by rw [List.map_append,List.map_cons,List.map_take,List.map_drop];rfl)) (aO (T.os 4 3 0 (((l.take k++x::l.drop k).map (Qa true)).length)) Y (VRunO.nil (vinB.n (tn (sq (sr ?_)))))))))))
  refine mO (T.os 4 3 0 (((l.take k++x::l.drop k).map (Qa true)).length)) Y (cO (cS (us:= [(rd 4 Qa (l.take k++x::l.drop k))]) (vc (tv (T.os 4 3 0 (((l.take k++x::l.drop k).map (Qa true)).length)) Y) vn) (LendL.cons (Lend.os Y Y (okeNote.fzMap _ _)) ln) (Qx (n+0) (l.take k++x::l.drop k) (by first | exact hq1 _ | exact hq2 _ | assumption | omega)) Y Y) (fO (QU (tv (tB (decide (Qb (l.take k++x::l.drop k)))) Y)) (nt ?_)))
  refine cn (Qb (l.take k++x::l.drop k)) Y (fun fhc4=> ?_) fun fhc4=> ?_
  ·refine sr ?_
   refine mO (rd 4 Qa l) Y (cO (OC.callF (r':=(T.os 4 4 0 ((l.map (Qa true)).length))) (objs:= [(Obj.rows 4 (l.map (Qa true)))]) Y (vc (tv (rd 4 Qa l) Y) vn) (ZM Y) (Qf (n+2) l (by first | exact hq1 _ | exact hq2 _ | assumption | omega)) Y) (aO (T.os 4 4 0 ((l.map (Qa true)).length)) Y (nt (rt (tr ?_)))))
   refine vfin.eq (r':=(T.sl true 4 (l.map (Qa true)))) ?_ (vfin.r (VRes.tmp (t:=(T.os 4 4 0 ((l.map (Qa true)).length))) Y VRes.nil) (Give.os Y Y (okeNote.cleanMap _)))
   refine congrArg (fun l_=>T.sl true 4 (List.map (Qa true) l_)) ?_
   first
   | (exfalso;omega)
   | (exact (Qs ‹¬Qb l›).symm)
   | (have e:=Qq hI' (by omega);symm;first | exact Qc e fhc4 | exact Qd ‹Qb l› e fhc4)
   | (have e:=Qr hI' hx1 fhc0 fhc2;symm;first | exact Qc e fhc4 | exact Qd ‹Qb l› e fhc4)
   | (have e:=QN hI' hx1 (by omega) fhc3;symm;first | exact Qc e fhc4 | exact Qd ‹Qb l› e fhc4)
   | (exact (Ql (Qp hI' hx1 (by omega) (by rw [fhc3];decide))).symm)
  refine sk (tn (sr (mO (T.os 4 3 0 (((l.take k++x::l.drop k).map (Qa true)).length)) Y (aO (T.os 4 3 0 (((l.take k++x::l.drop k).map (Qa true)).length)) Y (nt (rt ?_))))))
  refine vfin.eq (r':=(T.sl true 4 ((l.take k++x::l.drop k).map (Qa true)))) ?_ (vfin.r (VRes.tmp (t:=(T.os 4 3 0 (((l.take k++x::l.drop k).map (Qa true)).length))) Y VRes.nil) (Give.os Y Y (okeNote.cleanMap _)))
  refine congrArg (fun l_=>T.sl true 4 (List.map (Qa true) l_)) ?_
  first
  | (exfalso;omega)
  | (exact (Qs ‹¬Qb l›).symm)
  | (have e:=Qq hI' (by omega);symm;first | exact Qc e fhc4 | exact Qd ‹Qb l› e fhc4)
  | (have e:=Qr hI' hx1 fhc0 fhc2;symm;first | exact Qc e fhc4 | exact Qd ‹Qb l› e fhc4)
  | (have e:=QN hI' hx1 (by omega) fhc3;symm;first | exact Qc e fhc4 | exact Qd ‹Qb l› e fhc4)
  | (exact (Ql (Qp hI' hx1 (by omega) (by rw [fhc3];decide))).symm)
 refine VRunD.free Y (VWant.on Y Y (dz fhg34_3)) Y (OF.move (tv (rd 4 Qa l) Y)) (VRunD.free Y (VWant.on Y Y (dz fhg34_3)) Y (OF.move (tv (tN k) Y)) ?_)
 obtain ⟨x1,hx1⟩:∃x,l[k]? =some x:=⟨_,List.getElem?_eq_getElem (by first | exact hq1 _ | exact hq2 _ | omega)⟩
 refine VRunD.free Y (VWant.on Y Y (dz fhg34_3)) Y (OF.indexAddrR (row:=(Qa false x1)) (i:=k) (tv (rd 4 Qa l) Y) (tv (tN k) Y) Y (QK _ hx1) QD Qg Q3) (VRunD.free Y (VWant.on Y Y (dz fhg34_3)) Y (B.fieldAddrR (us:=(Qa false x1)) (tv (T.rp (Qa false x1)) Y) (lb Y) QY Y) (VRunD.look Y (VWant.on Y Y (dz fhg34_3)) Y (OL.loadR1 (t:=(tI x1.Cell)) (tv (T.rp (Qa false x1)) Y) Y ZE) (VRunD.free Y (VWant.on Y Y (dz fhg34_3)) Y (OF.fieldAddrO (tv (T.op 0 0) Y) QY) (VRunD.look Y (VWant.on Y Y (dz fhg34_3)) Y (OL.loadO1 (t:=(tI x.Cell)) (tv (T.op 0 0) Y) Y Y ZE) (VRunD.free Y (VWant.on Y Y (dz fhg34_3)) Y (xne (tv (tI x1.Cell) Y) (tv (tI x.Cell) Y)) (fD (OF.pickF (VEv.tmpB Y (dz fhg34_3)) (tv (tB (!(decide (x1.Cell=x.Cell)))) Y)) Y Y (fD (OF.assign (tv (tB (!(decide (x1.Cell=x.Cell)))) Y)) Y Y (VRunD.nil (tn ?_)))))))))
 refine cn (x1.Cell=x.Cell) Y (fun fhc2=> ?_) fun fhc2=> ?_
 ·refine VRun.region ?_
  refine mO (T.os 4 1 0 ((l.map (Qa true)).length)) Y (mO (tN k) Y (lO (OL.loadOn (us:=(Qa false x)) (tv (T.op 0 0) Y) Y Zx Qg (lb Y) Y) (kO (OM.buildSlice (l:= [(T.agg (Qa false x))]) (VEvp.cons (tv (T.agg (Qa false x)) Y) VEvp.nil) Y (by decide) (bc (nofun) bn) (bc ((bc (Y) (bc (Y) (bc (Y) (bc (Y) bn))))) bn) (bc (Y) bn) QD QF (by kernel_rfl) Y (by rw [Qg];decide) Qg (Nat.le_of_ble_eq_true Y)) (cO (B.insert (rows:=(l.map (Qa true))) (r:= [(tI x.Cell),(tS x.Letter),(tI x.Tick),(tI x.Who)]) (rows3:=((l.take k++x::l.drop k).map (Qa true))) (i:=k) Y Y Y (VDst.own (tv (T.os 4 1 0 ((l.map (Qa true)).length)) Y) Y Y) (tv (tN k) Y) Y (VDst.own (tv (T.os 4 2 0 1) Y) Y Y) (by decide) (YG (fun _=>rfl) _) (bc (bc Y (bc Y (bc Y (bc Y bn)))) bn) (okeNote.okMap _ _) (bc Y (bc Y (bc Y (bc Y bn)))) (by decide) (by decide) (by first | exact hq1 _ | exact hq2 _ | omega | (simp only [List.length_map];omega) | (simp only [List.length_map,List.length_append,List.length_cons,List.length_nil,List.length_replicate,List.length_set,List.length_drop,List.length_take,QR] at *;omega)) (by first | exact hq1 _ | exact hq2 _ | omega | (simp only [List.length_map];omega) | (simp only [List.length_map,List.length_append,List.length_cons,List.length_nil,List.length_replicate,List.length_set,List.length_drop,List.length_take,QR] at *;omega)) (by rw [List.map_append,List.map_cons,List.map_take,List.map_drop];rfl)) (aO (T.os 4 3 0 (((l.take k++x::l.drop k).map (Qa true)).length)) Y (VRunO.nil (vinB.n (tn (sq (sr (mO (T.os 4 3 0 (((l.take k++x::l.drop k).map (Qa true)).length)) Y ?_)))))))))))
  refine cO (cS (us:= [(rd 4 Qa (l.take k++x::l.drop k))]) (vc (tv (T.os 4 3 0 (((l.take k++x::l.drop k).map (Qa true)).length)) Y) vn) (LendL.cons (Lend.os Y Y (okeNote.fzMap _ _)) ln) (Qx (n+0) (l.take k++x::l.drop k) (by first | exact hq1 _ | exact hq2 _ | assumption | omega)) Y Y) (fO (QU (tv (tB (decide (Qb (l.take k++x::l.drop k)))) Y)) (nt ?_))
  refine cn (Qb (l.take k++x::l.drop k)) Y (fun fhc4=> ?_) fun fhc4=> ?_
  ·refine sr ?_
   refine mO (rd 4 Qa l) Y (cO (OC.callF (r':=(T.os 4 4 0 ((l.map (Qa true)).length))) (objs:= [(Obj.rows 4 (l.map (Qa true)))]) Y (vc (tv (rd 4 Qa l) Y) vn) (ZM Y) (Qf (n+2) l (by first | exact hq1 _ | exact hq2 _ | assumption | omega)) Y) (aO (T.os 4 4 0 ((l.map (Qa true)).length)) Y (nt (rt (tr ?_)))))
   refine vfin.eq (r':=(T.sl true 4 (l.map (Qa true)))) ?_ (vfin.r (VRes.tmp (t:=(T.os 4 4 0 ((l.map (Qa true)).length))) Y VRes.nil) (Give.os Y Y (okeNote.cleanMap _)))
   refine congrArg (fun l_=>T.sl true 4 (List.map (Qa true) l_)) ?_
   first
   | (exfalso;omega)
   | (exact (Qs ‹¬Qb l›).symm)
   | (have e:=Qq hI' (by omega);symm;first | exact Qc e fhc4 | exact Qd ‹Qb l› e fhc4)
   | (have e:=Qr hI' hx1 fhc0 fhc2;symm;first | exact Qc e fhc4 | exact Qd ‹Qb l› e fhc4)
   | (have e:=QN hI' hx1 (by omega) fhc3;symm;first | exact Qc e fhc4 | exact Qd ‹Qb l› e fhc4)
   | (exact (Ql (Qp hI' hx1 (by omega) (by rw [fhc3];decide))).symm)
  refine sk (tn (sr (mO (T.os 4 3 0 (((l.take k++x::l.drop k).map (Qa true)).length)) Y (aO (T.os 4 3 0 (((l.take k++x::l.drop k).map (Qa true)).length)) Y (nt (rt ?_))))))
  refine vfin.eq (r':=(T.sl true 4 ((l.take k++x::l.drop k).map (Qa true)))) ?_ (vfin.r (VRes.tmp (t:=(T.os 4 3 0 (((l.take k++x::l.drop k).map (Qa true)).length))) Y VRes.nil) (Give.os Y Y (okeNote.cleanMap _)))
  refine congrArg (fun l_=>T.sl true 4 (List.map (Qa true) l_)) ?_
  first
  | (exfalso;omega)
  | (exact (Qs ‹¬Qb l›).symm)
  | (have e:=Qq hI' (by omega);symm;first | exact Qc e fhc4 | exact Qd ‹Qb l› e fhc4)
  | (have e:=Qr hI' hx1 fhc0 fhc2;symm;first | exact Qc e fhc4 | exact Qd ‹Qb l› e fhc4)
  | (have e:=QN hI' hx1 (by omega) fhc3;symm;first | exact Qc e fhc4 | exact Qd ‹Qb l› e fhc4)
  | (exact (Ql (Qp hI' hx1 (by omega) (by rw [fhc3];decide))).symm)
 refine sq (VRun.draw (B:= [[],[],[],[2,1],[1,2,3],[3,2,1,4,0],[0,4,1,2,3,5]]) (by kernel_rfl) (by kernel_rfl) (lD (OL.loadOn (us:=(Qa false x)) (tv (T.op 0 0) Y) Y Zx Qg (lb Y) Y) Y Y (mD (rd 4 Qa l) Y Y (mD (tN k) Y Y (fD (OF.indexAddrR (row:=(Qa false x1)) (i:=k) (tv (rd 4 Qa l) Y) (tv (tN k) Y) Y (QK _ hx1) QD Qg Q3) Y Y (lD (OL.loadRn (us:=(Qa false x1)) (tv (T.rp (Qa false x1)) Y) Zx Qg (lb Y) Y) Y Y (VRunD.quiet (bi:= [3,2,1,4,0]) Y VWant.always Y Y Y bn (cS (vc (tv (T.agg (Qa false x)) Y) (vc (tv (T.agg (Qa false x1)) Y) vn)) (LendL.cons (lg okeNote) (LendL.cons (lg okeNote) ln)) (YZ (n+2) x x1) Y Y) (fD (OF.assign (tv (tB (QQ x x1)) Y)) Y Y (VRunD.nil (tn ?_))))))))))
 refine VRun.cond (tv (tB (QQ x x1)) Y) (fun hc3=> ?_) (fun hc3=> ?_)
 ·have fhc3:(QQ x x1)=true:=hc3
  refine VRun.region (mO (T.os 4 1 0 ((l.map (Qa true)).length)) Y (mO (tN k) Y (lO (OL.loadOn (us:=(Qa false x)) (tv (T.op 0 0) Y) Y Zx Qg (lb Y) Y) (fO (B.indexAddrO (i:=k) (tv (T.os 4 1 0 ((l.map (Qa true)).length)) Y) (tv (tN k) Y) Y (by first | exact hq1 _ | exact hq2 _ | omega | (simp only [List.length_map];omega) | (simp only [List.length_map,List.length_append,List.length_cons,List.length_nil,List.length_replicate,List.length_set,List.length_drop,List.length_take,QR] at *;omega)) QD Qg Q3) (cO (B.storeP (us:=(Qa false x)) (rows':=((l.set k x).map (Qa true))) (row:=(Qa true x1)) (tv (T.orp 4 1 k 0) Y) (tv (T.agg (Qa false x)) Y) nofun Y (QK _ hx1) Y (lb Y) Q3 Qg (bc Y (bc Y (bc Y (bc Y bn)))) (by intro r hr t ht;obtain ⟨x,_,rfl⟩:=List.mem_map.1 hr;rw [Jg] at ht;exact ZA (okeNote.pl _ t ht)) (Z6 Y)) (VRunO.nil (vinB.n (tn (sq (sr (mO (T.os 4 1 0 ((l.map (Qa true)).length)) Y ?_)))))))))))
  refine cO (cS (us:= [(rd 4 Qa (l.set k x))]) (vc (tv (T.os 4 1 0 ((l.map (Qa true)).length)) Y) vn) (LendL.cons (Lend.os Y (by simp only [List.length_map,Qk,List.length_set]) (okeNote.fzMap _ _)) ln) (Qx (n+0) (l.set k x) (by first | exact hq1 _ | exact hq2 _ | assumption | omega)) Y Y) (fO (QU (tv (tB (decide (Qb (l.set k x)))) Y)) (nt ?_))
  refine cn (Qb (l.set k x)) Y (fun fhc4=> ?_) fun fhc4=> ?_
  ·refine sr ?_
   refine mO (rd 4 Qa l) Y (cO (OC.callF (r':=(T.os 4 2 0 ((l.map (Qa true)).length))) (objs:= [(Obj.rows 4 (l.map (Qa true)))]) Y (vc (tv (rd 4 Qa l) Y) vn) (ZM Y) (Qf (n+2) l (by first | exact hq1 _ | exact hq2 _ | assumption | omega)) Y) (aO (T.os 4 2 0 ((l.map (Qa true)).length)) Y (nt (rt (tr ?_)))))
   refine vfin.eq (r':=(T.sl true 4 (l.map (Qa true)))) ?_ (vfin.r (VRes.tmp (t:=(T.os 4 2 0 ((l.map (Qa true)).length))) Y VRes.nil) (Give.os Y Y (okeNote.cleanMap _)))
   refine congrArg (fun l_=>T.sl true 4 (List.map (Qa true) l_)) ?_
   first
   | (exfalso;omega)
   | (exact (Qs ‹¬Qb l›).symm)
   | (have e:=Qq hI' (by omega);symm;first | exact Qc e fhc4 | exact Qd ‹Qb l› e fhc4)
   | (have e:=Qr hI' hx1 fhc0 fhc2;symm;first | exact Qc e fhc4 | exact Qd ‹Qb l› e fhc4)
   | (have e:=QN hI' hx1 (by omega) fhc3;symm;first | exact Qc e fhc4 | exact Qd ‹Qb l› e fhc4)
   | (exact (Ql (Qp hI' hx1 (by omega) (by rw [fhc3];decide))).symm)
  refine sk (tn (sr (mO (T.os 4 1 0 ((l.map (Qa true)).length)) Y (aO (T.os 4 1 0 ((l.map (Qa true)).length)) Y (nt (rt ?_))))))
  refine vfin.eq (r':=(T.sl true 4 ((l.set k x).map (Qa true)))) ?_ (vfin.r (VRes.tmp (t:=(T.os 4 1 0 ((l.map (Qa true)).length))) Y VRes.nil) (Give.os Y (by simp only [List.length_map,List.length_set]) (okeNote.cleanMap _)))
  refine congrArg (fun l_=>T.sl true 4 (List.map (Qa true) l_)) ?_
  first
  | (exfalso;omega)
  | (exact (Qs ‹¬Qb l›).symm)
  | (have e:=Qq hI' (by omega);symm;first | exact Qc e fhc4 | exact Qd ‹Qb l› e fhc4)
  | (have e:=Qr hI' hx1 fhc0 fhc2;symm;first | exact Qc e fhc4 | exact Qd ‹Qb l› e fhc4)
  | (have e:=QN hI' hx1 (by omega) fhc3;symm;first | exact Qc e fhc4 | exact Qd ‹Qb l› e fhc4)
  | (exact (Ql (Qp hI' hx1 (by omega) (by rw [fhc3];decide))).symm)
 have fhc3:(QQ x x1)=false:=hc3
 refine sk (vinB.n (tn (sq (sr (mO (T.os 4 1 0 ((l.map (Qa true)).length)) Y (cO (cS (us:= [(rd 4 Qa l)]) (vc (tv (T.os 4 1 0 ((l.map (Qa true)).length)) Y) vn) (LendL.cons (Lend.os Y Y (okeNote.fzMap _ _)) ln) (Qx (n+0) l (by first | exact hq1 _ | exact hq2 _ | assumption | omega)) Y Y) (fO (QU (tv (tB (decide (Qb l))) Y)) (nt (cg (nz fhc1) Y (sk (tn ?_)))))))))))
 refine sr (mO (T.os 4 1 0 ((l.map (Qa true)).length)) Y (aO (T.os 4 1 0 ((l.map (Qa true)).length)) Y (nt (rt ?_))))
 refine vfin.eq (r':=(T.sl true 4 (l.map (Qa true)))) ?_ (vfin.r (VRes.tmp (t:=(T.os 4 1 0 ((l.map (Qa true)).length))) Y VRes.nil) (Give.os Y Y (okeNote.cleanMap _)))
 refine congrArg (fun l_=>T.sl true 4 (List.map (Qa true) l_)) ?_
 first
 | (exfalso;omega)
 | (exact (Qs ‹¬Qb l›).symm)
 | (have e:=Qq hI' (by omega);symm;first | exact Qc e fhc4 | exact Qd ‹Qb l› e fhc4)
 | (have e:=Qr hI' hx1 fhc0 fhc2;symm;first | exact Qc e fhc4 | exact Qd ‹Qb l› e fhc4)
 | (have e:=QN hI' hx1 (by omega) fhc3;symm;first | exact Qc e fhc4 | exact Qd ‹Qb l› e fhc4)
 | (exact (Ql (Qp hI' hx1 (by omega) (by rw [fhc3];decide))).symm)
theorem Jp (n:Nat) (a:List D.Note) (b:List D.Note) (hz:zL Qj a+zL Qj b≤2*mx):Pure (QJ Try.prog (n+5)) 26 [(rd 4 Qa a),(rd 4 Qa b)] (T.sl true 4 ((Qh a b).map (Qa true))):=by
 refine Pure.intro (rs:= [ResultVar.tmp 4]) Try.func26 Y Y Y (E0:= [(0,(rd 4 Qa a)),(1,(rd 4 Qa b))]) Y ?_
 obtain ⟨hlim,hmx,hmax⟩:=ZS
 have hla:=Z2 (z:=Qj) a
 have hlb:=Z2 (z:=Qj) b
 refine sr (fO (OF.assign VEv.nils) (nt (sq (sr (mO (rd 4 Qa a) Y (cO (cS (vc (tv (rd 4 Qa a) Y) vn) (ZM Y) (Qw (n+1) a (by first | exact Zc hz hx1 | assumption | omega)) Y Y) (fO (QU (tv (tB (decide (Qb a))) Y)) (mO (tB (!(decide (Qb a)))) Y ?_))))))))
 refine gn (Qb a) (fun fhg10_1=> ?_) fun fhg10_1=> ?_
 ·refine Ji 3 3 false 10 (ny fhg10_1) Y Y Y ?_
  refine fO (OF.pickT (VEv.tmpB Y (ny fhg10_1)) (VEv.bool true)) (nt (ct Y (sr (kO (OM.slice0 QD QF (by kernel_rfl) Y (by rw [Qg];decide) Qg) (aO (T.os 4 0 0 0) Y (nt (rt (tr ?_))))))))
  refine vfin.eq (r':=(T.sl true 4 [])) ?_ (vfin.r (VRes.tmp (t:=(T.os 4 0 0 0)) Y VRes.nil) (Give.os Y Y bn))
  refine congrArg (fun l_=>T.sl true 4 (List.map (Qa true) l_)) (a₁:= []) ?_
  first | (exact (Q4 (.inl ‹¬Qb a›)).symm) | (exact (Q4 (.inr ‹¬Qb b›)).symm) | (rw [ZC ‹Qb a› ‹Qb b›,List.take_of_length_le (by omega)])
 refine gF (nz fhg10_1) Y Y (OF.move (tv (rd 4 Qa b) Y)) (VRunO.chain (VWant.on Y Y (nz fhg10_1)) (cS (vc (tv (rd 4 Qa b) Y) vn) (ZM Y) (Qw (n+1) b (by first | exact Zc hz hx1 | assumption | omega)) Y Y) (gF (nz fhg10_1) Y Y (QU (tv (tB (decide (Qb b))) Y)) (fO (OF.pickF (VEv.tmpB Y (nz fhg10_1)) (tv (tB (!(decide (Qb b)))) Y)) (nt ?_))))
 refine cn (Qb b) Y (fun fhc0=> ?_) fun fhc0=> ?_
 ·refine sr ?_
  refine kO (OM.slice0 QD QF (by kernel_rfl) Y (by rw [Qg];decide) Qg) (aO (T.os 4 0 0 0) Y (nt (rt (tr ?_))))
  refine vfin.eq (r':=(T.sl true 4 [])) ?_ (vfin.r (VRes.tmp (t:=(T.os 4 0 0 0)) Y VRes.nil) (Give.os Y Y bn))
  refine congrArg (fun l_=>T.sl true 4 (List.map (Qa true) l_)) (a₁:= []) ?_
  first | (exact (Q4 (.inl ‹¬Qb a›)).symm) | (exact (Q4 (.inr ‹¬Qb b›)).symm) | (rw [ZC ‹Qb a› ‹Qb b›,List.take_of_length_le (by omega)])
 refine sk (tn (sr (kO (OM.slice0 QD QF (by kernel_rfl) Y (by rw [Qg];decide) Qg) (mO (rd 4 Qa a) Y (cO (B.append (rows:= []) (rows2:=(a.map (Qa false))) (rows3:=(a.map (Qa true))) (VDst.own (tv (T.os 4 0 0 0) Y) Y Y) (VSrc.read (tv (rd 4 Qa a) Y) QD (okeNote.okMap _ _)) nofun QD Qg (by decide) QF Y (of_decide_eq_true (by kernel_rfl)) (by first | exact Zc hz hx1 | omega | (simp only [List.length_map];omega) | (simp only [List.length_map,List.length_append,List.length_cons,List.length_nil,List.length_replicate,List.length_set,List.length_drop,List.length_take,QR] at *;omega)) (List.nil_append _)) (aO (T.os 4 1 0 ((a.map (Qa true)).length)) Y (nt (sq (sr (fO (OF.assign (VEv.int .i64 0)) (nt ?_)))))))))))
 refine VRun.block ?_
 have he2:a=(b.take 0).foldl Qy a:=by first | rfl | (exact YB hx1) | (simp;done) | omega
 refine VRun.loop (A:=Nat) (fun s_=> [(1,(rd 4 Qa b)),(4,T.nils),(5,(T.os 4 0 0 ((((b.take s_).foldl Qy a).map (Qa true)).length))),(6,(tN s_))]) (fun s_=>Jz [(0,(Obj.rows 4 (((b.take s_).foldl Qy a).map (Qa true))))]) 1 (fun s_=>s_≤b.length) (fun s_=>b.length - s_) (0:Nat) ?_ (Wk.mk (fun k=>if k=0 then 1 else k) ?_ ?_ ?_) ?_
 ·first | trivial | (simp;done) | omega | (constructor<;>simp)
 ·exact (b2 (b2 (bc ⟨(congrArg (fun l_=>T.os 4 1 0 (List.map (Qa true) l_).length) he2),rfl⟩ (b2 bn))))
 ·exact (bc ⟨(congrArg (fun l_=>some (Obj.rows 4 (List.map (Qa true) l_))) he2),(lb Y),rfl⟩ bn)
 ·exact nd Y
 rintro i (hI':i≤b.length)
 show VRun _ _ _ [(1,(rd 4 Qa b)),(4,T.nils),(5,(T.os 4 0 0 ((((b.take i).foldl Qy a).map (Qa true)).length))),(6,(tN i))] (Jz [(0,(Obj.rows 4 (((b.take i).foldl Qy a).map (Qa true))))]) 1 _
 have hI1:=hI'
 have hfz:=Jr a (b.take i)
 have hbz:=Jf (z:=Qj) b i
 refine sq (sr (mO (tN i) Y (mO (rd 4 Qa b) Y (lO (B.lenR (m:=b.length) (tv (rd 4 Qa b) Y) QD (List.length_map ..)) (fO (JG (tv (tN i) Y) (tv (tN b.length) Y)) (nt ?_))))))
 refine cd (i<b.length) Y (fun fhc1=> ?_) fun fhc1=> ?_
 ·refine sk ?_
  refine tn (sq (VRun.block (VRun.region (mO (T.os 4 0 0 ((((b.take i).foldl Qy a).map (Qa true)).length)) Y (mO (rd 4 Qa b) Y (mO (tN i) Y ?_))))))
  obtain ⟨x1,hx1⟩:∃x,b[i]? =some x:=⟨_,List.getElem?_eq_getElem (by first | exact Zc hz hx1 | omega)⟩
  refine fO (OF.indexAddrR (row:=(Qa false x1)) (i:=i) (tv (rd 4 Qa b) Y) (tv (tN i) Y) Y (QK _ hx1) QD Qg Q3) (lO (OL.loadRn (us:=(Qa false x1)) (tv (T.rp (Qa false x1)) Y) Zx Qg (lb Y) Y) (cO (OC.callF (us:= [(rd 4 Qa ((b.take i).foldl Qy a)),(T.agg (Qa false x1))]) (r':=(T.os 4 1 0 (((Qy ((b.take i).foldl Qy a) x1).map (Qa true)).length))) (objs:= [(Obj.rows 4 ((Qy ((b.take i).foldl Qy a) x1).map (Qa true)))]) Y (vc (tv (T.os 4 0 0 ((((b.take i).foldl Qy a).map (Qa true)).length)) Y) (vc (tv (T.agg (Qa false x1)) Y) vn)) (LendL.cons (Lend.os Y Y (okeNote.fzMap _ _)) (LendL.cons (lg okeNote) ln)) (JX (n+0) ((b.take i).foldl Qy a) x1 (by first | exact Zc hz hx1 | assumption | omega)) Y) (aO (T.os 4 1 0 (((Qy ((b.take i).foldl Qy a) x1).map (Qa true)).length)) Y (VRunO.nil (vinB.n (tn (VRun.region (mO (tN i) Y (fO (ZQ (tv (tN i) Y) (VEv.int .i64 1) (by first | exact Zc hz hx1 | omega)) (aO (tN (i+1)) Y (VRunO.nil ?_)))))))))))
  refine tn ?_
  have he3:Qy ((b.take i).foldl Qy a) x1=(b.take (i+1)).foldl Qy a:=by first | rfl | (exact YB hx1) | (simp;done) | omega
  refine ⟨(i+1:Nat),?_,?_,Wk.mk (fun k=>if k=0 then 1 else k) ?_ ?_ ?_⟩
  ·first | trivial | omega | (simp;done) | exact ⟨by omega,hI'.2⟩
  ·first | omega | (simp only [];omega) | (show _<_;omega) | (simp;omega)
  ·exact (b2 (b2 (bc ⟨(congrArg (fun l_=>T.os 4 1 0 (List.map (Qa true) l_).length) he3),rfl⟩ (b2 bn))))
  ·exact (bc ⟨(congrArg (fun l_=>some (Obj.rows 4 (List.map (Qa true) l_))) he3),(lb Y),rfl⟩ bn)
  ·exact nd Y
 refine VRun.exit (vthn.e (vthn.e (vinB.e (tn (sr (mO (T.os 4 0 0 ((((b.take i).foldl Qy a).map (Qa true)).length)) Y (aO (T.os 4 0 0 ((((b.take i).foldl Qy a).map (Qa true)).length)) Y (nt (rt ?_)))))))))
 refine vfin.eq (r':=(T.sl true 4 (((b.take i).foldl Qy a).map (Qa true)))) ?_ (vfin.r (VRes.tmp (t:=(T.os 4 0 0 ((((b.take i).foldl Qy a).map (Qa true)).length))) Y VRes.nil) (Give.os Y Y (okeNote.cleanMap _)))
 refine congrArg (fun l_=>T.sl true 4 (List.map (Qa true) l_)) ?_
 first | (exact (Q4 (.inl ‹¬Qb a›)).symm) | (exact (Q4 (.inr ‹¬Qb b›)).symm) | (rw [ZC ‹Qb a› ‹Qb b›,List.take_of_length_le (by omega)])
theorem Yf (n:Nat) (a:List D.Note) (b:List D.Note) (hz:zL Qj a+zL Qj b≤2*mx):Pure (QJ Try.prog (n+5)) 27 [(rd 4 Qa a),(rd 4 Qa b)] (T.sl true 4 ((Qh a b).map (Qa true))):=by
 refine Pure.intro (rs:= [ResultVar.tmp 4]) Try.func27 Y Y Y (E0:= [(0,(rd 4 Qa a)),(1,(rd 4 Qa b))]) Y ?_
 obtain ⟨hlim,hmx,hmax⟩:=ZS
 have hla:=Z2 (z:=Qj) a
 have hlb:=Z2 (z:=Qj) b
 refine sr (fO (OF.assign VEv.nils) (nt (sq (sr (mO (rd 4 Qa a) Y (cO (cS (vc (tv (rd 4 Qa a) Y) vn) (ZM Y) (Qx (n+1) a (by first | exact Zc hz hx1 | assumption | omega)) Y Y) (fO (QU (tv (tB (decide (Qb a))) Y)) (mO (tB (!(decide (Qb a)))) Y ?_))))))))
 refine gn (Qb a) (fun fhg11_1=> ?_) fun fhg11_1=> ?_
 ·refine Ji 3 3 false 11 (ny fhg11_1) Y Y Y ?_
  refine fO (OF.pickT (VEv.tmpB Y (ny fhg11_1)) (VEv.bool true)) (nt (ct Y (sr (fO (OF.assign VEv.nils) (nt (rt (tr ?_)))))))
  refine vfin.eq (r':=(T.sl true 4 [])) ?_ (vfin.r (VRes.tmp (t:=T.nils) Y VRes.nil) (Give.nils 4))
  refine congrArg (fun l_=>T.sl true 4 (List.map (Qa true) l_)) (a₁:= []) ?_
  first | (exact (Q4 (.inl ‹¬Qb a›)).symm) | (exact (Q4 (.inr ‹¬Qb b›)).symm) | (rw [ZC ‹Qb a› ‹Qb b›,List.take_of_length_le (by omega)])
 refine gF (nz fhg11_1) Y Y (OF.move (tv (rd 4 Qa b) Y)) (VRunO.chain (VWant.on Y Y (nz fhg11_1)) (cS (vc (tv (rd 4 Qa b) Y) vn) (ZM Y) (Qx (n+1) b (by first | exact Zc hz hx1 | assumption | omega)) Y Y) (gF (nz fhg11_1) Y Y (QU (tv (tB (decide (Qb b))) Y)) (fO (OF.pickF (VEv.tmpB Y (nz fhg11_1)) (tv (tB (!(decide (Qb b)))) Y)) (nt ?_))))
 refine cn (Qb b) Y (fun fhc0=> ?_) fun fhc0=> ?_
 ·refine sr ?_
  refine fO (OF.assign VEv.nils) (nt (rt (tr ?_)))
  refine vfin.eq (r':=(T.sl true 4 [])) ?_ (vfin.r (VRes.tmp (t:=T.nils) Y VRes.nil) (Give.nils 4))
  refine congrArg (fun l_=>T.sl true 4 (List.map (Qa true) l_)) (a₁:= []) ?_
  first | (exact (Q4 (.inl ‹¬Qb a›)).symm) | (exact (Q4 (.inr ‹¬Qb b›)).symm) | (rw [ZC ‹Qb a› ‹Qb b›,List.take_of_length_le (by omega)])
 refine sk (tn (sr (mO (rd 4 Qa a) Y (cO (OC.callF (r':=(T.os 4 0 0 ((a.map (Qa true)).length))) (objs:= [(Obj.rows 4 (a.map (Qa true)))]) Y (vc (tv (rd 4 Qa a) Y) vn) (ZM Y) (Qf (n+3) a (by first | exact Zc hz hx1 | assumption | omega)) Y) (aO (T.os 4 0 0 ((a.map (Qa true)).length)) Y (nt (sq (sr (mO (rd 4 Qa b) Y (lO (B.lenR (m:=b.length) (tv (rd 4 Qa b) Y) QD (List.length_map ..)) (fO (OF.move (VEv.int .i64 0)) ?_)))))))))))
 refine nt (VRun.block ?_)
 have he2:a=(b.take 0).foldl Qy a:=by first | rfl | (exact YB hx1) | (simp;done) | omega
 refine VRun.loop (A:=Nat) (fun s_=> [(4,T.nils),(5,(T.os 4 0 0 ((((b.take s_).foldl Qy a).map (Qa true)).length))),(18,(rd 4 Qa b)),(19,(tN b.length)),(20,(tN s_))]) (fun s_=>Jz [(0,(Obj.rows 4 (((b.take s_).foldl Qy a).map (Qa true))))]) 1 (fun s_=>s_≤b.length) (fun s_=>b.length - s_) (0:Nat) ?_ (Wk.mk (fun k=>k) ?_ ?_ ?_) ?_
 ·first | trivial | (simp;done) | omega | (constructor<;>simp)
 ·exact (b2 (bc ⟨(congrArg (fun l_=>T.os 4 0 0 (List.map (Qa true) l_).length) he2),rfl⟩ (b2 (b2 (b2 bn)))))
 ·exact (bc ⟨(congrArg (fun l_=>some (Obj.rows 4 (List.map (Qa true) l_))) he2),(lb Y),rfl⟩ bn)
 ·exact nd Y
 rintro i (hI':i≤b.length)
 show VRun _ _ _ [(4,T.nils),(5,(T.os 4 0 0 ((((b.take i).foldl Qy a).map (Qa true)).length))),(18,(rd 4 Qa b)),(19,(tN b.length)),(20,(tN i))] (Jz [(0,(Obj.rows 4 (((b.take i).foldl Qy a).map (Qa true))))]) 1 _
 have hI1:=hI'
 have hfz:=Jr a (b.take i)
 have hbz:=Jf (z:=Qj) b i
 refine sr (fO (JG (tv (tN i) Y) (tv (tN b.length) Y)) (nt (sq ?_)))
 refine cd (i<b.length) Y (fun fhc1=> ?_) fun fhc1=> ?_
 ·refine sk ?_
  refine tn (sq (VRun.block (sr ?_)))
  obtain ⟨x1,hx1⟩:∃x,b[i]? =some x:=⟨_,List.getElem?_eq_getElem (by first | exact Zc hz hx1 | omega)⟩
  refine fO (OF.indexAddrR (row:=(Qa false x1)) (i:=i) (tv (rd 4 Qa b) Y) (tv (tN i) Y) Y (QK _ hx1) QD Qg Q3) (lO (OL.loadRn (us:=(Qa false x1)) (tv (T.rp (Qa false x1)) Y) Zx Qg (lb Y) Y) (kO (B.alloc (t:=(T.agg [(tN 0),(tS ByteArray.empty),(tN 0),(tN 0)])) (ts:= [(tN 0),(tS ByteArray.empty),(tN 0),(tN 0)]) QF QcK nofun (fun _=> .agg _ _ Y (Qa0 (RL.cons (.int _ _) (RL.cons (.str _) (RL.cons (.int _ _) (RL.cons (.int _ _) (RL.nil _))))))) Y) (cO (B.storeW (us:=(Qa false x1)) (tv (T.op 1 0) Y) (tv (T.agg (Qa false x1)) Y) nofun Y Y Y Q3 Qg (bc Y (bc Y (bc Y (bc Y bn))))) (nt (VRun.region (mO (T.os 4 0 0 ((((b.take i).foldl Qy a).map (Qa true)).length)) Y (lO (OL.loadOn (us:=(Qa false x1)) (tv (T.op 1 0) Y) Y Zx Qg (lb Y) Y) (cO (OC.callF (us:= [(rd 4 Qa ((b.take i).foldl Qy a)),(T.agg (Qa false x1))]) (r':=(T.os 4 2 0 (((Qy ((b.take i).foldl Qy a) x1).map (Qa true)).length))) (objs:= [(Obj.rows 4 ((Qy ((b.take i).foldl Qy a) x1).map (Qa true)))]) Y (vc (tv (T.os 4 0 0 ((((b.take i).foldl Qy a).map (Qa true)).length)) Y) (vc (tv (T.agg (Qa false x1)) Y) vn)) (LendL.cons (Lend.os Y Y (okeNote.fzMap _ _)) (LendL.cons (lg okeNote) ln)) (JW (n+0) ((b.take i).foldl Qy a) x1 (by first | exact Zc hz hx1 | assumption | omega)) Y) (aO (T.os 4 2 0 (((Qy ((b.take i).foldl Qy a) x1).map (Qa true)).length)) Y (VRunO.nil (vinB.n ?_)))))))))))
  refine tn (VRun.region (fO (ZQ (tv (tN i) Y) (VEv.int .i64 1) (by first | exact Zc hz hx1 | omega)) (mO (tN (i+1)) Y (VRunO.nil (tn ?_)))))
  have he3:Qy ((b.take i).foldl Qy a) x1=(b.take (i+1)).foldl Qy a:=by first | rfl | (exact YB hx1) | (simp;done) | omega
  refine ⟨(i+1:Nat),?_,?_,Wk.mk (fun k=>if k=0 then 2 else k) ?_ ?_ ?_⟩
  ·first | trivial | omega | (simp;done) | exact ⟨by omega,hI'.2⟩
  ·first | omega | (simp only [];omega) | (show _<_;omega) | (simp;omega)
  ·exact (b2 (bc ⟨(congrArg (fun l_=>T.os 4 2 0 (List.map (Qa true) l_).length) he3),rfl⟩ (b2 (b2 (b2 bn)))))
  ·exact (bc ⟨(congrArg (fun l_=>some (Obj.rows 4 (List.map (Qa true) l_))) he3),(lb Y),rfl⟩ bn)
  ·exact nd Y
 refine VRun.exit (vthn.e (vthn.e (vinB.e (tn (sr (mO (T.os 4 0 0 ((((b.take i).foldl Qy a).map (Qa true)).length)) Y (aO (T.os 4 0 0 ((((b.take i).foldl Qy a).map (Qa true)).length)) Y (nt (rt ?_)))))))))
 refine vfin.eq (r':=(T.sl true 4 (((b.take i).foldl Qy a).map (Qa true)))) ?_ (vfin.r (VRes.tmp (t:=(T.os 4 0 0 ((((b.take i).foldl Qy a).map (Qa true)).length))) Y VRes.nil) (Give.os Y Y (okeNote.cleanMap _)))
 refine congrArg (fun l_=>T.sl true 4 (List.map (Qa true) l_)) ?_
 first | (exact (Q4 (.inl ‹¬Qb a›)).symm) | (exact (Q4 (.inr ‹¬Qb b›)).symm) | (rw [ZC ‹Qb a› ‹Qb b›,List.take_of_length_le (by omega)])
theorem Yk (n:Nat) (a0:List D.Note) (a1:List D.Note) (g0:(a0.length≤maxLen∧∀y∈a0,QbS y)) (g1:(a1.length≤maxLen∧∀y∈a1,QbS y)):Pure (QJ Try.prog (n+6)) 5 [(rd 4 Qa a0),(rd 4 Qa a1)] (tB true):=by
 refine Pure.intro (rs:= [ResultVar.tmp 4]) Try.func5 Y Y Y (E0:= [(0,(rd 4 Qa a0)),(1,(rd 4 Qa a1))]) Y ?_
 obtain ⟨hlim,hmx,hmax⟩:=ZS
 have hl0:=Z2 (z:=Qj) a0
 have hl1:=Z2 (z:=Qj) a1
 have hx:=Qdc a0 a1
 have hx2:=Z2 (z:=Qj) (Qh a0 a1)
 refine sr (fO (OF.assign (VEv.bool false)) (nt (sr (fO (OF.assign (VEv.int .i64 1048576)) (nt (sr (mO (rd 4 Qa a0) Y (mO (tN 1048576) Y (cO (cS (vc (tv (rd 4 Qa a0) Y) (vc (tv (tN 1048576) Y) vn)) (ZM Y) (YM (n+3) a0 1048576 (by first | exact g0.2 | exact g1.2 | exact Qo _ _ _ _ | (simp only [Qk];omega) | assumption | omega | (simp only [List.length_map];omega) | (simp only [List.length_map,List.length_append,List.length_cons,List.length_nil,List.length_replicate,List.length_set,List.length_drop,List.length_take,QR] at *;omega)) (by first | exact g0.2 | exact g1.2 | exact Qo _ _ _ _ | (simp only [Qk];omega) | assumption | omega | (simp only [List.length_map];omega) | (simp only [List.length_map,List.length_append,List.length_cons,List.length_nil,List.length_replicate,List.length_set,List.length_drop,List.length_take,QR] at *;omega)) (by first | exact g0.2 | exact g1.2 | exact Qo _ _ _ _ | (simp only [Qk];omega) | assumption | omega | (simp only [List.length_map];omega) | (simp only [List.length_map,List.length_append,List.length_cons,List.length_nil,List.length_replicate,List.length_set,List.length_drop,List.length_take,QR] at *;omega))) Y Y) (aO (tI (YJ (zL Qj a0) 1048576)) Y (nt ?_)))))))))))
 refine sq (sr (mO (tI (YJ (zL Qj a0) 1048576)) Y (fO (xls (tv (tI (YJ (zL Qj a0) 1048576)) Y) (VEv.int .i64 0)) (nt ?_))))
 refine cd (YJ (zL Qj a0) 1048576<0) Y (fun fhc0=> ?_) fun fhc0=> ?_
 ·refine sr ?_
  refine fO (OF.assign (VEv.bool true)) (nt (rt (tr ?_)))
  exact vb Y Y
 first | (have hz0:=Yh fhc0) | skip
 refine sk (tn (sr (mO (rd 4 Qa a1) Y (mO (tI (YJ (zL Qj a0) 1048576)) Y (cO (cS (vc (tv (rd 4 Qa a1) Y) (vc (tv (tI (YJ (zL Qj a0) 1048576)) Y) vn)) (ZM Y) (YM (n+3) a1 (YJ (zL Qj a0) 1048576) (by first | exact g0.2 | exact g1.2 | exact Qo _ _ _ _ | (simp only [Qk];omega) | assumption | omega | (simp only [List.length_map];omega) | (simp only [List.length_map,List.length_append,List.length_cons,List.length_nil,List.length_replicate,List.length_set,List.length_drop,List.length_take,QR] at *;omega)) (by first | exact g0.2 | exact g1.2 | exact Qo _ _ _ _ | (simp only [Qk];omega) | assumption | omega | (simp only [List.length_map];omega) | (simp only [List.length_map,List.length_append,List.length_cons,List.length_nil,List.length_replicate,List.length_set,List.length_drop,List.length_take,QR] at *;omega)) (by first | exact g0.2 | exact g1.2 | exact Qo _ _ _ _ | (simp only [Qk];omega) | assumption | omega | (simp only [List.length_map];omega) | (simp only [List.length_map,List.length_append,List.length_cons,List.length_nil,List.length_replicate,List.length_set,List.length_drop,List.length_take,QR] at *;omega))) Y Y) (aO (tI (YJ (zL Qj a1) (YJ (zL Qj a0) 1048576))) Y (nt (sq (sr (mO (tI (YJ (zL Qj a1) (YJ (zL Qj a0) 1048576))) Y (fO (xls (tv (tI (YJ (zL Qj a1) (YJ (zL Qj a0) 1048576))) Y) (VEv.int .i64 0)) ?_)))))))))))
 refine nt ?_
 refine cd (YJ (zL Qj a1) (YJ (zL Qj a0) 1048576)<0) Y (fun fhc1=> ?_) fun fhc1=> ?_
 ·refine sr ?_
  refine fO (OF.assign (VEv.bool true)) (nt (rt (tr ?_)))
  exact vb Y Y
 first | (have hz1:=Yh fhc1) | skip
 refine sk (tn (sr (mO (rd 4 Qa a0) Y (cO (OC.callF (r':=(T.os 4 0 0 ((a0.map (Qa true)).length))) (objs:= [(Obj.rows 4 (a0.map (Qa true)))]) Y (vc (tv (rd 4 Qa a0) Y) vn) (ZM Y) (QW (n+3) a0 (by first | exact g0.2 | exact g1.2 | exact Qo _ _ _ _ | (simp only [Qk];omega) | assumption | omega | (simp only [List.length_map];omega) | (simp only [List.length_map,List.length_append,List.length_cons,List.length_nil,List.length_replicate,List.length_set,List.length_drop,List.length_take,QR] at *;omega))) Y) (mO (rd 4 Qa a1) Y (cO (OC.callF (r':=(T.os 4 1 0 ((a1.map (Qa true)).length))) (objs:= [(Obj.rows 4 (a1.map (Qa true)))]) Y (vc (tv (rd 4 Qa a1) Y) vn) (ZM Y) (QW (n+3) a1 (by first | exact g0.2 | exact g1.2 | exact Qo _ _ _ _ | (simp only [Qk];omega) | assumption | omega | (simp only [List.length_map];omega) | (simp only [List.length_map,List.length_append,List.length_cons,List.length_nil,List.length_replicate,List.length_set,List.length_drop,List.length_take,QR] at *;omega))) Y) (cO (OC.callF (us:= [(rd 4 Qa a0),(rd 4 Qa a1)]) (r':=(T.os 4 2 0 (((Qh a0 a1).map (Qa true)).length))) (objs:= [(Obj.rows 4 ((Qh a0 a1).map (Qa true)))]) Y (vc (tv (T.os 4 0 0 ((a0.map (Qa true)).length)) Y) (vc (tv (T.os 4 1 0 ((a1.map (Qa true)).length)) Y) vn)) (LendL.cons (Lend.os Y Y (okeNote.fzMap _ _)) (LendL.cons (Lend.os Y Y (okeNote.fzMap _ _)) ln)) (Jp (n+0) a0 a1 (by first | exact g0.2 | exact g1.2 | exact Qo _ _ _ _ | (simp only [Qk];omega) | assumption | omega | (simp only [List.length_map];omega) | (simp only [List.length_map,List.length_append,List.length_cons,List.length_nil,List.length_replicate,List.length_set,List.length_drop,List.length_take,QR] at *;omega))) Y) (aO (T.os 4 2 0 (((Qh a0 a1).map (Qa true)).length)) Y (nt (sr (mO (rd 4 Qa a0) Y ?_)))))))))))
 refine cO (OC.callF (r':=(T.os 4 3 0 ((a0.map (Qa true)).length))) (objs:= [(Obj.rows 4 (a0.map (Qa true)))]) Y (vc (tv (rd 4 Qa a0) Y) vn) (ZM Y) (QW (n+3) a0 (by first | exact g0.2 | exact g1.2 | exact Qo _ _ _ _ | (simp only [Qk];omega) | assumption | omega | (simp only [List.length_map];omega) | (simp only [List.length_map,List.length_append,List.length_cons,List.length_nil,List.length_replicate,List.length_set,List.length_drop,List.length_take,QR] at *;omega))) Y) (aO (T.os 4 3 0 ((a0.map (Qa true)).length)) Y (nt (sr (mO (rd 4 Qa a1) Y (cO (OC.callF (r':=(T.os 4 4 0 ((a1.map (Qa true)).length))) (objs:= [(Obj.rows 4 (a1.map (Qa true)))]) Y (vc (tv (rd 4 Qa a1) Y) vn) (ZM Y) (QW (n+3) a1 (by first | exact g0.2 | exact g1.2 | exact Qo _ _ _ _ | (simp only [Qk];omega) | assumption | omega | (simp only [List.length_map];omega) | (simp only [List.length_map,List.length_append,List.length_cons,List.length_nil,List.length_replicate,List.length_set,List.length_drop,List.length_take,QR] at *;omega))) Y) (aO (T.os 4 4 0 ((a1.map (Qa true)).length)) Y (nt (sr (mO (T.os 4 3 0 ((a0.map (Qa true)).length)) Y (mO (T.os 4 4 0 ((a1.map (Qa true)).length)) Y (cO (OC.callF (us:= [(rd 4 Qa a0),(rd 4 Qa a1)]) (r':=(T.os 4 5 0 (((Qh a0 a1).map (Qa true)).length))) (objs:= [(Obj.rows 4 ((Qh a0 a1).map (Qa true)))]) Y (vc (tv (T.os 4 3 0 ((a0.map (Qa true)).length)) Y) (vc (tv (T.os 4 4 0 ((a1.map (Qa true)).length)) Y) vn)) (LendL.cons (Lend.os Y Y (okeNote.fzMap _ _)) (LendL.cons (Lend.os Y Y (okeNote.fzMap _ _)) ln)) (Yf (n+0) a0 a1 (by first | exact g0.2 | exact g1.2 | exact Qo _ _ _ _ | (simp only [Qk];omega) | assumption | omega | (simp only [List.length_map];omega) | (simp only [List.length_map,List.length_append,List.length_cons,List.length_nil,List.length_replicate,List.length_set,List.length_drop,List.length_take,QR] at *;omega))) Y) ?_)))))))))))
 refine aO (T.os 4 5 0 (((Qh a0 a1).map (Qa true)).length)) Y (nt (sq (sr (mO (T.os 4 5 0 (((Qh a0 a1).map (Qa true)).length)) Y (mO (T.os 4 2 0 (((Qh a0 a1).map (Qa true)).length)) Y (cO (cS (us:= [(rd 4 Qa (Qh a0 a1)),(rd 4 Qa (Qh a0 a1))]) (vc (tv (T.os 4 5 0 (((Qh a0 a1).map (Qa true)).length)) Y) (vc (tv (T.os 4 2 0 (((Qh a0 a1).map (Qa true)).length)) Y) vn)) (LendL.cons (Lend.os Y Y (okeNote.fzMap _ _)) (LendL.cons (Lend.os Y Y (okeNote.fzMap _ _)) ln)) (Zh (n+3) (Qh a0 a1) (Qh a0 a1) (by first | exact g0.2 | exact g1.2 | exact Qo _ _ _ _ | (simp only [Qk];omega) | assumption | omega | (simp only [List.length_map];omega) | (simp only [List.length_map,List.length_append,List.length_cons,List.length_nil,List.length_replicate,List.length_set,List.length_drop,List.length_take,QR] at *;omega)) (by first | exact g0.2 | exact g1.2 | exact Qo _ _ _ _ | (simp only [Qk];omega) | assumption | omega | (simp only [List.length_map];omega) | (simp only [List.length_map,List.length_append,List.length_cons,List.length_nil,List.length_replicate,List.length_set,List.length_drop,List.length_take,QR] at *;omega))) Y Y) (fO (QU (tv (tB (decide ((Qh a0 a1)=(Qh a0 a1)))) Y)) (nt ?_))))))))
 refine cn ((Qh a0 a1)=(Qh a0 a1)) Y (fun fhc2=> ?_) fun fhc2=> ?_
 ·refine sr ?_
  refine fO (OF.assign (VEv.bool false)) (nt (rt (tr (vb (b':=false) Y ?_))))
  first | rfl | (exfalso;omega) | (exfalso;(simp only [Qk] at* <;>omega)) | (exfalso;simp only [Qk,not_true_eq_false] at *;done) | (exfalso;simp_all;done)
 first | (have hz2:=Yh fhc2) | skip
 refine sk (tn (sq (sr (mO (T.os 4 3 0 ((a0.map (Qa true)).length)) Y (mO (rd 4 Qa a0) Y (cO (OC.callF (r':=(T.os 4 6 0 ((a0.map (Qa true)).length))) (objs:= [(Obj.rows 4 (a0.map (Qa true)))]) Y (vc (tv (rd 4 Qa a0) Y) vn) (ZM Y) (QW (n+3) a0 (by first | exact g0.2 | exact g1.2 | exact Qo _ _ _ _ | (simp only [Qk];omega) | assumption | omega | (simp only [List.length_map];omega) | (simp only [List.length_map,List.length_append,List.length_cons,List.length_nil,List.length_replicate,List.length_set,List.length_drop,List.length_take,QR] at *;omega))) Y) (cO (cS (us:= [(rd 4 Qa a0),(rd 4 Qa a0)]) (vc (tv (T.os 4 3 0 ((a0.map (Qa true)).length)) Y) (vc (tv (T.os 4 6 0 ((a0.map (Qa true)).length)) Y) vn)) (LendL.cons (Lend.os Y Y (okeNote.fzMap _ _)) (LendL.cons (Lend.os Y Y (okeNote.fzMap _ _)) ln)) (Zh (n+3) a0 a0 (by first | exact g0.2 | exact g1.2 | exact Qo _ _ _ _ | (simp only [Qk];omega) | assumption | omega | (simp only [List.length_map];omega) | (simp only [List.length_map,List.length_append,List.length_cons,List.length_nil,List.length_replicate,List.length_set,List.length_drop,List.length_take,QR] at *;omega)) (by first | exact g0.2 | exact g1.2 | exact Qo _ _ _ _ | (simp only [Qk];omega) | assumption | omega | (simp only [List.length_map];omega) | (simp only [List.length_map,List.length_append,List.length_cons,List.length_nil,List.length_replicate,List.length_set,List.length_drop,List.length_take,QR] at *;omega))) Y Y) (fO (QU (tv (tB (decide (a0=a0))) Y)) (nt ?_)))))))))
 refine cn (a0=a0) Y (fun fhc3=> ?_) fun fhc3=> ?_
 ·refine sr ?_
  refine fO (OF.assign (VEv.bool false)) (nt (rt (tr (vb (b':=false) Y ?_))))
  first | rfl | (exfalso;omega) | (exfalso;(simp only [Qk] at* <;>omega)) | (exfalso;simp only [Qk,not_true_eq_false] at *;done) | (exfalso;simp_all;done)
 first | (have hz3:=Yh fhc3) | skip
 refine sk (tn (sq (sr (mO (T.os 4 4 0 ((a1.map (Qa true)).length)) Y (mO (rd 4 Qa a1) Y (cO (OC.callF (r':=(T.os 4 7 0 ((a1.map (Qa true)).length))) (objs:= [(Obj.rows 4 (a1.map (Qa true)))]) Y (vc (tv (rd 4 Qa a1) Y) vn) (ZM Y) (QW (n+3) a1 (by first | exact g0.2 | exact g1.2 | exact Qo _ _ _ _ | (simp only [Qk];omega) | assumption | omega | (simp only [List.length_map];omega) | (simp only [List.length_map,List.length_append,List.length_cons,List.length_nil,List.length_replicate,List.length_set,List.length_drop,List.length_take,QR] at *;omega))) Y) (cO (cS (us:= [(rd 4 Qa a1),(rd 4 Qa a1)]) (vc (tv (T.os 4 4 0 ((a1.map (Qa true)).length)) Y) (vc (tv (T.os 4 7 0 ((a1.map (Qa true)).length)) Y) vn)) (LendL.cons (Lend.os Y Y (okeNote.fzMap _ _)) (LendL.cons (Lend.os Y Y (okeNote.fzMap _ _)) ln)) (Zh (n+3) a1 a1 (by first | exact g0.2 | exact g1.2 | exact Qo _ _ _ _ | (simp only [Qk];omega) | assumption | omega | (simp only [List.length_map];omega) | (simp only [List.length_map,List.length_append,List.length_cons,List.length_nil,List.length_replicate,List.length_set,List.length_drop,List.length_take,QR] at *;omega)) (by first | exact g0.2 | exact g1.2 | exact Qo _ _ _ _ | (simp only [Qk];omega) | assumption | omega | (simp only [List.length_map];omega) | (simp only [List.length_map,List.length_append,List.length_cons,List.length_nil,List.length_replicate,List.length_set,List.length_drop,List.length_take,QR] at *;omega))) Y Y) (fO (QU (tv (tB (decide (a1=a1))) Y)) (nt ?_)))))))))
 refine cn (a1=a1) Y (fun fhc4=> ?_) fun fhc4=> ?_
 ·refine sr ?_
  refine fO (OF.assign (VEv.bool false)) (nt (rt (tr (vb (b':=false) Y ?_))))
  first | rfl | (exfalso;omega) | (exfalso;(simp only [Qk] at* <;>omega)) | (exfalso;simp only [Qk,not_true_eq_false] at *;done) | (exfalso;simp_all;done)
 first | (have hz4:=Yh fhc4) | skip
 refine sk (tn (sr (fO (OF.assign (VEv.int .i64 1)) (nt (sr (mO (T.os 4 3 0 ((a0.map (Qa true)).length)) Y (mO (tN 1) Y (cO (OC.callMut (rows:=(a0.map (Qa true))) (rows':=((Y0 QA 4 1 a0.length).map (Qa true))) Y (vc (tv (T.os 4 3 0 ((a0.map (Qa true)).length)) Y) (vc (tv (tN 1) Y) vn)) Y Y (bc Y bn) (YG (fun _=>rfl) _) (YG (fun _=>rfl) _) (ZF (n+3) a0 1 (by first | exact g0.2 | exact g1.2 | exact Qo _ _ _ _ | (simp only [Qk];omega) | assumption | omega))) (aO (tN (1+4*a0.length)) Y (nt (sr ?_)))))))))))
 refine mO (T.os 4 4 0 ((a1.map (Qa true)).length)) Y (mO (tN (1+4*a0.length)) Y (cO (OC.callMut (rows:=(a1.map (Qa true))) (rows':=((Y0 QA 4 (1+4*a0.length) a1.length).map (Qa true))) Y (vc (tv (T.os 4 4 0 ((a1.map (Qa true)).length)) Y) (vc (tv (tN (1+4*a0.length)) Y) vn)) Y Y (bc Y bn) (YG (fun _=>rfl) _) (YG (fun _=>rfl) _) (ZF (n+3) a1 (1+4*a0.length) (by first | exact g0.2 | exact g1.2 | exact Qo _ _ _ _ | (simp only [Qk];omega) | assumption | omega))) (aO (tN ((1+4*a0.length)+4*a1.length)) Y (nt (sq (sr (mO (tN ((1+4*a0.length)+4*a1.length)) Y (fO (B.lss (c:=(decide ((1+4*a0.length)+4*a1.length<0))) (tv (tN ((1+4*a0.length)+4*a1.length)) Y) (VEv.int .i64 0) (by first | exact g0.2 | exact g1.2 | exact Qo _ _ _ _ | (simp only [Qk];omega) | (exact ZH (by omega)))) (mO (tB (decide ((1+4*a0.length)+4*a1.length<0))) Y ?_)))))))))
 refine gw ((1+4*a0.length)+4*a1.length<0) (fun fhg58_1=> ?_) fun fhg58_1=> ?_
 ·refine Ji 4 2 false 58 (dy fhg58_1) Y Y Y ?_
  refine fO (OF.pickT (VEv.tmpB Y (dy fhg58_1)) (VEv.bool true)) (nt (ct Y (sr (fO (OF.assign (VEv.bool false)) (nt (rt (tr (vb (b':=false) Y ?_))))))))
  first | rfl | (exfalso;omega) | (exfalso;(simp only [Qk] at* <;>omega)) | (exfalso;simp only [Qk,not_true_eq_false] at *;done) | (exfalso;simp_all;done)
 refine gF (dz fhg58_1) Y Y (OF.move (tv (T.os 4 5 0 (((Qh a0 a1).map (Qa true)).length)) Y)) (gF (dz fhg58_1) Y Y (OF.move (tv (T.os 4 2 0 (((Qh a0 a1).map (Qa true)).length)) Y)) (VRunO.chain (VWant.on Y Y (dz fhg58_1)) (cS (us:= [(rd 4 Qa (Qh a0 a1)),(rd 4 Qa (Qh a0 a1))]) (vc (tv (T.os 4 5 0 (((Qh a0 a1).map (Qa true)).length)) Y) (vc (tv (T.os 4 2 0 (((Qh a0 a1).map (Qa true)).length)) Y) vn)) (LendL.cons (Lend.os Y Y (okeNote.fzMap _ _)) (LendL.cons (Lend.os Y Y (okeNote.fzMap _ _)) ln)) (Zh (n+3) (Qh a0 a1) (Qh a0 a1) (by first | exact g0.2 | exact g1.2 | exact Qo _ _ _ _ | (simp only [Qk];omega) | assumption | omega | (simp only [List.length_map];omega) | (simp only [List.length_map,List.length_append,List.length_cons,List.length_nil,List.length_replicate,List.length_set,List.length_drop,List.length_take,QR] at *;omega)) (by first | exact g0.2 | exact g1.2 | exact Qo _ _ _ _ | (simp only [Qk];omega) | assumption | omega | (simp only [List.length_map];omega) | (simp only [List.length_map,List.length_append,List.length_cons,List.length_nil,List.length_replicate,List.length_set,List.length_drop,List.length_take,QR] at *;omega))) Y Y) (gF (dz fhg58_1) Y Y (QU (tv (tB (decide ((Qh a0 a1)=(Qh a0 a1)))) Y)) (fO (OF.pickF (VEv.tmpB Y (dz fhg58_1)) (tv (tB (!(decide ((Qh a0 a1)=(Qh a0 a1))))) Y)) (nt (cg (nz fhc2) Y (sk (tn (sr (fO (OF.assign (VEv.int .i64 1)) (nt ?_)))))))))))
 refine sr (mO (T.os 4 5 0 (((Qh a0 a1).map (Qa true)).length)) Y (mO (tN 1) Y (cO (OC.callMut (rows:=((Qh a0 a1).map (Qa true))) (rows':=((Y0 QA 4 1 (Qh a0 a1).length).map (Qa true))) Y (vc (tv (T.os 4 5 0 (((Qh a0 a1).map (Qa true)).length)) Y) (vc (tv (tN 1) Y) vn)) Y Y (bc Y bn) (YG (fun _=>rfl) _) (YG (fun _=>rfl) _) (ZF (n+3) (Qh a0 a1) 1 (by first | exact g0.2 | exact g1.2 | exact Qo _ _ _ _ | (simp only [Qk];omega) | assumption | omega))) (aO (tN (1+4*(Qh a0 a1).length)) Y (nt (sr (fO (OF.assign (VEv.int .i64 1)) (nt (sr (mO (T.os 4 5 0 (((Qh a0 a1).map (Qa true)).length)) Y (mO (tN 1) Y ?_)))))))))))
 refine cO (cS (us:= [(rd 4 Qa (Y0 QA 4 1 (Qh a0 a1).length)),(tN 1)]) (vc (tv (T.os 4 5 0 (((Qh a0 a1).map (Qa true)).length)) Y) (vc (tv (tN 1) Y) vn)) (LendL.cons (Lend.os Y (by simp only [List.length_map,Qk,List.length_set]) (okeNote.fzMap _ _)) (lp Y ln)) (Yq (n+3) (Y0 QA 4 1 (Qh a0 a1).length) 1 (by first | exact g0.2 | exact g1.2 | exact Qo _ _ _ _ | (simp only [Qk];omega) | assumption | omega | (simp only [List.length_map];omega) | (simp only [List.length_map,List.length_append,List.length_cons,List.length_nil,List.length_replicate,List.length_set,List.length_drop,List.length_take,QR] at *;omega)) (by first | exact g0.2 | exact g1.2 | exact Qo _ _ _ _ | (simp only [Qk];omega) | assumption | omega | (simp only [List.length_map];omega) | (simp only [List.length_map,List.length_append,List.length_cons,List.length_nil,List.length_replicate,List.length_set,List.length_drop,List.length_take,QR] at *;omega))) Y Y) (aO (tN (1+4*(Y0 QA 4 1 (Qh a0 a1).length).length)) Y (nt (sq (sr (mO (tN (1+4*(Y0 QA 4 1 (Qh a0 a1).length).length)) Y (fO (B.lss (c:=(decide (1+4*(Y0 QA 4 1 (Qh a0 a1).length).length<0))) (tv (tN (1+4*(Y0 QA 4 1 (Qh a0 a1).length).length)) Y) (VEv.int .i64 0) (by first | exact g0.2 | exact g1.2 | exact Qo _ _ _ _ | (simp only [Qk];omega) | (exact ZH (by omega)))) (nt ?_)))))))
 refine cd (1+4*(Y0 QA 4 1 (Qh a0 a1).length).length<0) Y (fun fhc6=> ?_) fun fhc6=> ?_
 ·refine sr ?_
  refine fO (OF.assign (VEv.bool false)) (nt (rt (tr (vb (b':=false) Y ?_))))
  first | rfl | (exfalso;omega) | (exfalso;(simp only [Qk] at* <;>omega)) | (exfalso;simp only [Qk,not_true_eq_false] at *;done) | (exfalso;simp_all;done)
 first | (have hz6:=Yh fhc6) | skip
 refine sk (tn (sq (sr (mO (tN (1+4*(Y0 QA 4 1 (Qh a0 a1).length).length)) Y (mO (tN (1+4*(Qh a0 a1).length)) Y (fO (Qee (tv (tN (1+4*(Y0 QA 4 1 (Qh a0 a1).length).length)) Y) (tv (tN (1+4*(Qh a0 a1).length)) Y)) (nt ?_)))))))
 refine cn (1+4*(Y0 QA 4 1 (Qh a0 a1).length).length=1+4*(Qh a0 a1).length) Y (fun fhc7=> ?_) fun fhc7=> ?_
 ·refine sr ?_
  refine fO (OF.assign (VEv.bool false)) (nt (rt (tr (vb (b':=false) Y ?_))))
  first | rfl | (exfalso;omega) | (exfalso;(simp only [Qk] at* <;>omega)) | (exfalso;simp only [Qk,not_true_eq_false] at *;done) | (exfalso;simp_all;done)
 first | (have hz7:=Yh fhc7) | skip
 refine sk (tn (sr (mO (rd 4 Qa a0) Y (cO (OC.callF (r':=(T.os 4 8 0 ((a0.map (Qa true)).length))) (objs:= [(Obj.rows 4 (a0.map (Qa true)))]) Y (vc (tv (rd 4 Qa a0) Y) vn) (ZM Y) (QW (n+3) a0 (by first | exact g0.2 | exact g1.2 | exact Qo _ _ _ _ | (simp only [Qk];omega) | assumption | omega | (simp only [List.length_map];omega) | (simp only [List.length_map,List.length_append,List.length_cons,List.length_nil,List.length_replicate,List.length_set,List.length_drop,List.length_take,QR] at *;omega))) Y) (mO (rd 4 Qa a1) Y (cO (OC.callF (r':=(T.os 4 9 0 ((a1.map (Qa true)).length))) (objs:= [(Obj.rows 4 (a1.map (Qa true)))]) Y (vc (tv (rd 4 Qa a1) Y) vn) (ZM Y) (QW (n+3) a1 (by first | exact g0.2 | exact g1.2 | exact Qo _ _ _ _ | (simp only [Qk];omega) | assumption | omega | (simp only [List.length_map];omega) | (simp only [List.length_map,List.length_append,List.length_cons,List.length_nil,List.length_replicate,List.length_set,List.length_drop,List.length_take,QR] at *;omega))) Y) (cO (OC.callF (us:= [(rd 4 Qa a0),(rd 4 Qa a1)]) (r':=(T.os 4 10 0 (((Qh a0 a1).map (Qa true)).length))) (objs:= [(Obj.rows 4 ((Qh a0 a1).map (Qa true)))]) Y (vc (tv (T.os 4 8 0 ((a0.map (Qa true)).length)) Y) (vc (tv (T.os 4 9 0 ((a1.map (Qa true)).length)) Y) vn)) (LendL.cons (Lend.os Y Y (okeNote.fzMap _ _)) (LendL.cons (Lend.os Y Y (okeNote.fzMap _ _)) ln)) (Yf (n+0) a0 a1 (by first | exact g0.2 | exact g1.2 | exact Qo _ _ _ _ | (simp only [Qk];omega) | assumption | omega | (simp only [List.length_map];omega) | (simp only [List.length_map,List.length_append,List.length_cons,List.length_nil,List.length_replicate,List.length_set,List.length_drop,List.length_take,QR] at *;omega))) Y) (aO (T.os 4 10 0 (((Qh a0 a1).map (Qa true)).length)) Y (nt (sq (sr ?_)))))))))))
 refine mO (T.os 4 10 0 (((Qh a0 a1).map (Qa true)).length)) Y (mO (T.os 4 2 0 (((Qh a0 a1).map (Qa true)).length)) Y (cO (cS (us:= [(rd 4 Qa (Qh a0 a1)),(rd 4 Qa (Qh a0 a1))]) (vc (tv (T.os 4 10 0 (((Qh a0 a1).map (Qa true)).length)) Y) (vc (tv (T.os 4 2 0 (((Qh a0 a1).map (Qa true)).length)) Y) vn)) (LendL.cons (Lend.os Y Y (okeNote.fzMap _ _)) (LendL.cons (Lend.os Y Y (okeNote.fzMap _ _)) ln)) (Zh (n+3) (Qh a0 a1) (Qh a0 a1) (by first | exact g0.2 | exact g1.2 | exact Qo _ _ _ _ | (simp only [Qk];omega) | assumption | omega | (simp only [List.length_map];omega) | (simp only [List.length_map,List.length_append,List.length_cons,List.length_nil,List.length_replicate,List.length_set,List.length_drop,List.length_take,QR] at *;omega)) (by first | exact g0.2 | exact g1.2 | exact Qo _ _ _ _ | (simp only [Qk];omega) | assumption | omega | (simp only [List.length_map];omega) | (simp only [List.length_map,List.length_append,List.length_cons,List.length_nil,List.length_replicate,List.length_set,List.length_drop,List.length_take,QR] at *;omega))) Y Y) (fO (QU (tv (tB (decide ((Qh a0 a1)=(Qh a0 a1)))) Y)) (nt (cg (nz fhc2) Y (sk (tn (sr (fO (OF.assign (VEv.int .i64 1)) (nt (sr ?_)))))))))))
 refine mO (T.os 4 5 0 (((Qh a0 a1).map (Qa true)).length)) Y (mO (tN 1) Y (cO (cS (us:= [(rd 4 Qa (Y0 QA 4 1 (Qh a0 a1).length)),(tN 1)]) (vc (tv (T.os 4 5 0 (((Qh a0 a1).map (Qa true)).length)) Y) (vc (tv (tN 1) Y) vn)) (LendL.cons (Lend.os Y (by simp only [List.length_map,Qk,List.length_set]) (okeNote.fzMap _ _)) (lp Y ln)) (Yq (n+3) (Y0 QA 4 1 (Qh a0 a1).length) 1 (by first | exact g0.2 | exact g1.2 | exact Qo _ _ _ _ | (simp only [Qk];omega) | assumption | omega | (simp only [List.length_map];omega) | (simp only [List.length_map,List.length_append,List.length_cons,List.length_nil,List.length_replicate,List.length_set,List.length_drop,List.length_take,QR] at *;omega)) (by first | exact g0.2 | exact g1.2 | exact Qo _ _ _ _ | (simp only [Qk];omega) | assumption | omega | (simp only [List.length_map];omega) | (simp only [List.length_map,List.length_append,List.length_cons,List.length_nil,List.length_replicate,List.length_set,List.length_drop,List.length_take,QR] at *;omega))) Y Y) (aO (tN (1+4*(Y0 QA 4 1 (Qh a0 a1).length).length)) Y (nt (sq (sr (mO (tN (1+4*(Y0 QA 4 1 (Qh a0 a1).length).length)) Y (fO (B.lss (c:=(decide (1+4*(Y0 QA 4 1 (Qh a0 a1).length).length<0))) (tv (tN (1+4*(Y0 QA 4 1 (Qh a0 a1).length).length)) Y) (VEv.int .i64 0) (by first | exact g0.2 | exact g1.2 | exact Qo _ _ _ _ | (simp only [Qk];omega) | (exact ZH (by omega)))) (nt (cg (dz fhc6) Y (sk ?_)))))))))))
 refine tn (sq (sr (mO (tN (1+4*(Y0 QA 4 1 (Qh a0 a1).length).length)) Y (mO (tN (1+4*(Qh a0 a1).length)) Y (fO (Qee (tv (tN (1+4*(Y0 QA 4 1 (Qh a0 a1).length).length)) Y) (tv (tN (1+4*(Qh a0 a1).length)) Y)) (nt (cg (nz fhc7) Y (sk (tn (sr (fO (OF.assign (VEv.bool true)) ?_)))))))))))
 refine nt (rt ?_)
 exact vb Y Y
theorem Qb2 (a:Option Addr) (n c:Nat):(Qb0 (.slice a n c)).cells.toList= [Qb0 (.slice a n c)]:=by cases a<;>rfl
theorem Qeo {α:Type} {d:AK α} {e:Bool→α→List T} {x:α} {t:T} {h:AH} {v:Value} (hk:RK d e) (he:e false x= [t]) (hr:d.R h x [v]):R h t v:=by
 have h1:=hk h x _ hr
 rw [he] at h1
 exact h1.tail.1
theorem Qbp {α:Type} {d:AK α} {e:Bool→α→List T} {x:α} {t:T} {h:AH} {a:Option Addr} {n c:Nat} (hk:RK d e) (he:e false x= [t]) (hr:d.R h x (Qb0 (.slice a n c)).cells.toList):R h t (Qb0 (.slice a n c)):=by
 rw [Qb2] at hr
 exact Qeo hk he hr
theorem Pure.bool {call:QE} {f:FuncId} {ts:List T} {b:Bool} (hp:Pure call f ts (.bool b)) {h:AH} {vs:List Value} (hfr:Fr 1 h) (hr:RL h ts vs):CallS call f vs h 1 (fun v _=>v= .bool b):=by
 refine (hp h 1 vs hfr hr).mono ?_
 rintro v h' ⟨_,N,hs,_⟩
 cases hs with
 | fz hr=>cases hr;rfl
open Go Go.RowKit Go.Shelf Go.Lib Go.Proofs
set_option maxHeartbeats 4000000
set_option maxRecDepth 100000
theorem QZ {P:Program} (w:World) (dT sT ty elem:TypeId) {size:Nat} (b o dLen dCap:Nat) (a:Addr) (sLen sCap:Nat) (cs:List Value)
  (hu:P.underlying dT=some (.slice elem)) (hs:∀w,(Go.sizeOf elem).run P w= .ok size w) (hn:cs.length=Nat.min sLen dLen*size)
  (hsrc:∀j v,cs[j]? =some v→w.cell? (a.add j)=some v) (hc:∀j,j<cs.length→(w.cell? ⟨b,o+j,none⟩).isSome=true) (hf:∀j,j<cs.length→w.frozen? ⟨b,o+j,none⟩=false) (h1:∀v∈cs,v.oneCell'=true) :
  (Builtin.copy_ #[dT,sT] ty #[.slice (some ⟨b,o,none⟩) dLen dCap, .slice (some a) sLen sCap]).run P w= .ok (goInt (Nat.min sLen dLen)) (w.setCells b o cs):=by
 have hl:=run_loadCells_list (P:=P) w a cs hsrc
 have hst:=run_storeCells_cells (P:=P) b o cs 0 w (by simpa using hc) (by simpa using hf) h1
 simp [Builtin.copy_,run_underlying hu,Builtin.lenOf,Builtin.firstCells,hs,← hn,hl,hst]
theorem QcJ (base:Option Addr) (n c vb voff vc:Nat) (w:World) {v':Value} {W':World} (hn:base=none→n=0∧c=0) (hnc:n≤c)
  (hrun:(Builtin.append_ #[27,27] 27 #[.slice base n c, .slice (some ⟨vb,voff,none⟩) 1 vc]).run Try.prog w= .ok v' W') :
  Calls Try.prog 32 #[.slice base n c, .int .i64 n, .slice (some ⟨vb,voff,none⟩) 1 vc] w fun e w'=>e= .returned v'∧w'=W':=by
 have t0:=Try.underlying0;have u0:=run_underlying Try.underlying0
 have t3:=Try.underlying3;have u3:=run_underlying Try.underlying3
 have t4:=Try.underlying4;have u4:=run_underlying Try.underlying4
 have t27:=Try.underlying27;have u27:=run_underlying Try.underlying27
 have t30:=Try.underlying30;have u30:=run_underlying Try.underlying30
 have z0:∀w,(Go.sizeOf 0).run Try.prog w= .ok 1 w:=fun _=>by kernel_rfl
 have z3:∀w,(Go.sizeOf 3).run Try.prog w= .ok 1 w:=fun _=>by kernel_rfl
 have z4:∀w,(Go.sizeOf 4).run Try.prog w= .ok 1 w:=fun _=>by kernel_rfl
 have z27:∀w,(Go.sizeOf 27).run Try.prog w= .ok 1 w:=fun _=>by kernel_rfl
 have z30:∀w,(Go.sizeOf 30).run Try.prog w= .ok 4 w:=fun _=>by kernel_rfl
 have a0:∀w,(isAgg 0).run Try.prog w= .ok false w:=fun _=>by kernel_rfl
 have a3:∀w,(isAgg 3).run Try.prog w= .ok false w:=fun _=>by kernel_rfl
 have a4:∀w,(isAgg 4).run Try.prog w= .ok false w:=fun _=>by kernel_rfl
 have a27:∀w,(isAgg 27).run Try.prog w= .ok false w:=fun _=>by kernel_rfl
 have v27:∀w,(zeroValue 27).run Try.prog w= .ok (Value.slice none 0 0) w:=fun _=>by kernel_rfl
 have v3:∀w,(zeroValue 3).run Try.prog w= .ok (Value.int IntKind.i64 0) w:=fun _=>by kernel_rfl
 have mixed:Try.prog.follows .mixedOrders=true:=by kernel_rfl
 have hz1:¬((1:Int)=0):=by omega
 go_enter Try.func32,Try.ntmps32
 cases base with
 | none =>
  obtain ⟨h0,h1⟩:=hn Y
  subst h0
  subst h1
  go_wp2_with (at_builtin;refine Lib.wpList_append_run _ Y _ _ _ _ Y _ _ Y Y _ _ hrun ?_)
  go_ret
  exact ⟨rfl,rfl⟩
 | some a =>
  obtain ⟨ab,ao,asp⟩:=a
  go_wp2_with (at_builtin;refine Lib.wpList_append_run _ Y _ _ _ _ Y _ _ Y Y _ _ hrun ?_)
  all_goals (go_ret;exact ⟨rfl,rfl⟩)
theorem QbK (b off n c i vb voff vc:Nat) (cs vs:List Value) (w:World) (hi:i<n) (hroom:n+1≤c) (hn63:n<9223372036854775807) (hvb:vb≠b)
    (hcl:cs.length=n*4) (hvl:vs.length=4)
    (hcs:∀j v,cs[j]? =some v→w.cell? ⟨b,off+j,none⟩=some v) (hsp:∀j,j<(n+1)*4→(w.cell? ⟨b,off+j,none⟩).isSome=true) (hfz:∀j,j<(n+1)*4→w.frozen? ⟨b,off+j,none⟩=false)
    (hvs:∀j v,vs[j]? =some v→w.cell? ⟨vb,voff+j,none⟩=some v) (h1c:∀v∈cs,v.oneCell'=true) (h1v:∀v∈vs,v.oneCell'=true)
    (tA tB:TypeId) (kA kB:Nat) (hsa:w.shape? vb=some (tA,kA)) (hsb:w.shape? b=some (tB,kB)) (hkB:kB≠0) (hfa:w.frozen? ⟨vb,voff,none⟩=false) (hfe:w.frozen? ⟨vb,kA,none⟩=false) :
    Calls Try.prog 32 #[.slice (some ⟨b,off,none⟩) n c, .int .i64 i, .slice (some ⟨vb,voff,none⟩) 1 vc] w fun e w' =>
      e= .returned (.slice (some ⟨b,off,none⟩) (n+1) c)∧w'=(w.drew.setCells b (off+(i+1)*4) (cs.drop (i*4))).setCells b (off+i*4) vs:=by
  have t0:=Try.underlying0;have u0:=run_underlying Try.underlying0
  have t3:=Try.underlying3;have u3:=run_underlying Try.underlying3
  have t4:=Try.underlying4;have u4:=run_underlying Try.underlying4
  have t27:=Try.underlying27;have u27:=run_underlying Try.underlying27
  have t30:=Try.underlying30;have u30:=run_underlying Try.underlying30
  have z0:∀w,(Go.sizeOf 0).run Try.prog w= .ok 1 w:=fun _=>by kernel_rfl
  have z3:∀w,(Go.sizeOf 3).run Try.prog w= .ok 1 w:=fun _=>by kernel_rfl
  have z4:∀w,(Go.sizeOf 4).run Try.prog w= .ok 1 w:=fun _=>by kernel_rfl
  have z27:∀w,(Go.sizeOf 27).run Try.prog w= .ok 1 w:=fun _=>by kernel_rfl
  have z30:∀w,(Go.sizeOf 30).run Try.prog w= .ok 4 w:=fun _=>by kernel_rfl
  have a0:∀w,(isAgg 0).run Try.prog w= .ok false w:=fun _=>by kernel_rfl
  have a3:∀w,(isAgg 3).run Try.prog w= .ok false w:=fun _=>by kernel_rfl
  have a4:∀w,(isAgg 4).run Try.prog w= .ok false w:=fun _=>by kernel_rfl
  have a27:∀w,(isAgg 27).run Try.prog w= .ok false w:=fun _=>by kernel_rfl
  have v27:∀w,(zeroValue 27).run Try.prog w= .ok (Value.slice none 0 0) w:=fun _=>by kernel_rfl
  have v3:∀w,(zeroValue 3).run Try.prog w= .ok (Value.int IntKind.i64 0) w:=fun _=>by kernel_rfl
  have mixed:Try.prog.follows .mixedOrders=true:=by kernel_rfl
  have hz1:¬((1:Int)=0):=by omega
  have hz2:¬((i:Int)=(n:Int)):=by omega
  have hov:∀lb cb,(callFunc 49 #[.slice (some ⟨vb,voff,none⟩) 1 vc, .slice (some ⟨b,off+(i+1)*4,none⟩) lb cb]).run Try.prog w= .ok (.value (.bool false)) w:=fun lb cb=>by
    rw [run_callFunc_extern Try.func49 (by kernel_rfl) (by kernel_rfl) (by kernel_rfl) (e:=Extern.SlicesOverlaps.overlaps #[27,27] #[4]) (by kernel_rfl),
      Lib.run_overlaps_apart w 27 4 30 Try.underlying27 4 z30 ⟨vb,voff,none⟩ ⟨b,off+(i+1)*4,none⟩ 1 vc lb cb hvb tA tB kA kB hsa hsb hkB hfa hfe]
    rfl
  have hdl:(cs.drop (i*4)).length=(n - i)*4:=by rw [List.length_drop,hcl];omega
  have hw1:IntKind.i64.wrap ((i:Int)+1)=(i:Int)+1:=by rw [IntKind.wrap_i64];omega
  have hw2:IntKind.i64.wrap ((n:Int)+1)=(n:Int)+1:=by rw [IntKind.wrap_i64];omega
  have hb1:(0:Int)≤(i:Int)+1:=by omega
  have hin:i≤n:=by omega
  have htn:((i:Int)+1).toNat=i+1:=by omega
  have hb2:¬(c=i+1):=by omega
  have hb3:(i:Int)≤(n:Int)+1:=by omega
  have hb4:¬(c=i):=by omega
  have hcp1:∀ty dc sc,(Builtin.copy_ #[27,27] ty #[.slice (some ⟨b,off+(i+1)*4,none⟩) (n - i) dc, .slice (some ⟨b,off+i*4,none⟩) (n+1 - i) sc]).run Try.prog w.drew= .ok (goInt (Nat.min (n+1 - i) (n - i))) (w.drew.setCells b (off+(i+1)*4) (cs.drop (i*4))):=fun ty dc sc =>
    QZ w.drew _ _ ty 30 b (off+(i+1)*4) (n - i) dc ⟨b,off+i*4,none⟩ (n+1 - i) sc (cs.drop (i*4)) Try.underlying27 z30 (by rw [hdl];simp only [Nat.min_def];split<;>omega)
      (fun j v hj=>by rw [Addr.add_lit,Nat.add_assoc];exact hcs (i*4+j) v (by rwa [List.getElem?_drop] at hj))
      (fun j hj=>by rw [Nat.add_assoc];exact hsp _ (by omega)) (fun j hj=>by rw [Nat.add_assoc];exact hfz _ (by omega)) (fun v hv=>h1c v (List.mem_of_mem_drop hv))
  obtain ⟨W1,hW1⟩:∃W1,W1=w.drew.setCells b (off+(i+1)*4) (cs.drop (i*4)):=⟨_,rfl⟩
  have hsp1:∀k,k<(n+1)*4→(W1.cell? ⟨b,off+k,none⟩).isSome=true:=fun k hk=>by
    rw [hW1]
    exact isSome_setCells b _ _ _ (fun j hj=>by rw [Nat.add_assoc];exact hsp _ (by omega)) _ (hsp k hk)
  have hcp2:∀(W:World),(∀x,W.cell? x=W1.cell? x)→(∀x,W.frozen? x=W1.frozen? x)→∀ty dc,(Builtin.copy_ #[27,27] ty #[.slice (some ⟨b,off+i*4,none⟩) (n+1 - i) dc, .slice (some ⟨vb,voff,none⟩) 1 vc]).run Try.prog W= .ok (goInt (Nat.min 1 (n+1 - i))) (W.setCells b (off+i*4) vs):=fun W hWc hWf ty dc =>
    QZ W _ _ ty 30 b (off+i*4) (n+1 - i) dc ⟨vb,voff,none⟩ 1 vc vs Try.underlying27 z30 (by rw [hvl];simp only [Nat.min_def];split<;>omega)
      (fun j v hj=>by
        rw [Addr.add_lit,hWc,hW1,World.cell?_setCells_out b _ _ _ _ (fun h _=>absurd h hvb)]
        exact hvs j v hj)
      (fun j hj=>by rw [hWc,Nat.add_assoc];exact hsp1 _ (by omega)) (fun j hj=>by rw [hWf,hW1,World.frozen?_setCells,Nat.add_assoc];exact hfz _ (by omega)) h1v
  rw [← hW1] at hcp1
  go_enter Try.func32,Try.ntmps32
  go_wp2_with (simp only [hov])
  go_region_law_o (refine step_copy_runI Y _ _ 27 27 Y _ _ (by simp [Act.eval,Act.put]) (by simp [Act.eval,Act.put]) (hcp1 _ _ _) ?_)
  go_wp2_with (at_builtin;refine wpList_copy_runI _ Y _ _ 27 27 Y _ _ Y Y (hcp2 _ (fun _=>rfl) (fun _=>rfl) _ _) ?_)
  go_ret
  first | exact ⟨rfl,rfl⟩ | exact ⟨rfl,by rw [hW1]⟩
theorem Qcb (b off n i vb voff vc:Nat) (cs vs:List Value) (w:World) (hi:i<n) (hn63:n<4611686018427387904) {i0:TypeInfo} {z:Value} (hi0:Try.prog.info? 30=some i0) (hz0:i0.zero=some z) (hzs:i0.size=4) (hzc:z.cells.size=4) (hbig:2*(n+1)*i0.bytes≤281474976710656)
    (hcl:cs.length=n*4) (hvl:vs.length=4)
    (hcs:∀j v,cs[j]? =some v→w.cell? ⟨b,off+j,none⟩=some v)
    (hvs:∀j v,vs[j]? =some v→w.cell? ⟨vb,voff+j,none⟩=some v) (h1c:∀v∈cs,v.oneCell'=true) (h1v:∀v∈vs,v.oneCell'=true) :
    Calls Try.prog 32 #[.slice (some ⟨b,off,none⟩) n n, .int .i64 i, .slice (some ⟨vb,voff,none⟩) 1 vc] w fun e w' =>
      e= .returned (.slice (some ⟨w.heap.size,0,none⟩) (n+1) (grownCap w (n+1) n 30)) ∧
      w'=(((w.alloc (.cells ((cs.take (i*4)).toArray++Builtin.zeroCells z.cells (n+1 - i)++Builtin.zeroCells z.cells (grownCap w (n+1) n 30 - (n+1))) 30)).drew.setCells w.heap.size (i*4) vs).drew).setCells w.heap.size ((i+1)*4) (cs.drop (i*4)):=by
  have t0:=Try.underlying0;have u0:=run_underlying Try.underlying0
  have t3:=Try.underlying3;have u3:=run_underlying Try.underlying3
  have t4:=Try.underlying4;have u4:=run_underlying Try.underlying4
  have t27:=Try.underlying27;have u27:=run_underlying Try.underlying27
  have t30:=Try.underlying30;have u30:=run_underlying Try.underlying30
  have z0:∀w,(Go.sizeOf 0).run Try.prog w= .ok 1 w:=fun _=>by kernel_rfl
  have z3:∀w,(Go.sizeOf 3).run Try.prog w= .ok 1 w:=fun _=>by kernel_rfl
  have z4:∀w,(Go.sizeOf 4).run Try.prog w= .ok 1 w:=fun _=>by kernel_rfl
  have z27:∀w,(Go.sizeOf 27).run Try.prog w= .ok 1 w:=fun _=>by kernel_rfl
  have z30:∀w,(Go.sizeOf 30).run Try.prog w= .ok 4 w:=fun _=>by kernel_rfl
  have a0:∀w,(isAgg 0).run Try.prog w= .ok false w:=fun _=>by kernel_rfl
  have a3:∀w,(isAgg 3).run Try.prog w= .ok false w:=fun _=>by kernel_rfl
  have a4:∀w,(isAgg 4).run Try.prog w= .ok false w:=fun _=>by kernel_rfl
  have a27:∀w,(isAgg 27).run Try.prog w= .ok false w:=fun _=>by kernel_rfl
  have v27:∀w,(zeroValue 27).run Try.prog w= .ok (Value.slice none 0 0) w:=fun _=>by kernel_rfl
  have v3:∀w,(zeroValue 3).run Try.prog w= .ok (Value.int IntKind.i64 0) w:=fun _=>by kernel_rfl
  have mixed:Try.prog.follows .mixedOrders=true:=by kernel_rfl
  have hz1:¬((1:Int)=0):=by omega
  have hz2:¬((i:Int)=(n:Int)):=by omega
  have hz3:(n:Int)<(n:Int)+1:=by omega
  have hbw:b<w.heap.size:=block_lt_of_cell (hcs 0 _ (List.getElem?_eq_getElem (by omega)))
  have hvw:vb<w.heap.size:=block_lt_of_cell (hvs 0 _ (List.getElem?_eq_getElem (by omega)))
  have hkk:(n:Int)+1 - (i:Int)=((n+1 - i:Nat):Int):=by omega
  have hik:i+(n+1 - i)=n+1:=by omega
  have hold:(Builtin.firstCells i0.size i (.slice (some ⟨b,off,none⟩) i n)).run Try.prog w.drew= .ok (cs.take (i*4)).toArray w.drew:=by
    rw [hzs]
    exact run_firstCells_some w.drew 4 i ⟨b,off,none⟩ i n (cs.take (i*4)) (by rw [List.length_take];omega) (fun j v hj=>by
      rw [Addr.add_lit]
      rw [List.getElem?_take] at hj
      split at hj
      · exact hcs j v hj
      · cases hj)
  have hbi:(n+1 - i)*i0.bytes≤281474976710656:=Nat.le_trans (Nat.mul_le_mul_right _ (by omega)) hbig
  have hfit:Builtin.nextslicecap (n+1) n*i0.bytes≤281474976710656:=Nat.le_trans (Nat.mul_le_mul_right _ (nextslicecap_le (by omega))) hbig
  have hrz:∀ty,(Builtin.append_ #[27,3] ty #[.slice (some ⟨b,off,none⟩) i n, .int .i64 ((n:Int)+1 - (i:Int))]).run Try.prog w =
      .ok (.slice (some ⟨w.heap.size,0,none⟩) (n+1) (grownCap w (n+1) n 30)) (w.drew.alloc (.cells ((cs.take (i*4)).toArray++Builtin.zeroCells z.cells (n+1 - i)++Builtin.zeroCells z.cells (grownCap w (n+1) n 30 - (n+1))) 30)):=fun ty=>by
    have h:=Lib.run_append_grow_zeros w 27 3 ty 30 i0 _ .i64 .i64 Try.underlying27 Try.underlying3 hi0 hz0 (some ⟨b,off,none⟩) i n (cs.take (i*4)) hold (n+1 - i) (by omega) (by omega) (by omega) (by omega) hbi (by rw [hik];exact hfit)
    rw [hik] at h
    rw [hkk]
    exact h
  obtain ⟨G,hG⟩:∃G,G=grownCap w (n+1) n 30:=⟨_,rfl⟩
  obtain ⟨ROW,hROW⟩:∃ROW:Array Value,ROW=(cs.take (i*4)).toArray++Builtin.zeroCells z.cells (n+1 - i)++Builtin.zeroCells z.cells (G - (n+1)):=⟨_,rfl⟩
  rw [← hG] at hrz ⊢
  rw [← hROW] at hrz ⊢
  have hRl:(n+1)*4≤ROW.size:=by
    rw [hROW]
    have hq:∀k,(Builtin.zeroCells z.cells k).size=k*z.cells.size:=fun k=>by simp [Builtin.zeroCells]
    rw [Array.size_append,Array.size_append,hq,hq,hzc,List.size_toArray,List.length_take,hcl]
    omega
  obtain ⟨W1,hW1⟩:∃W1,W1=w.drew.alloc (.cells ROW 30):=⟨_,rfl⟩
  rw [← hW1] at hrz
  have hN:∀j,j<(n+1)*4→(W1.cell? ⟨w.heap.size,j,none⟩).isSome=true:=fun j hj=>by
    rw [hW1,World.cell?_alloc_at (w:=w.drew) ROW _ w.heap.size j Y,Array.getElem?_eq_getElem (by omega)];rfl
  have hNf:∀j,W1.frozen? ⟨w.heap.size,j,none⟩=false:=fun j=>by rw [hW1];exact World.frozen?_alloc_at (w:=w.drew) ROW _ w.heap.size j Y
  have hOb:∀j v,w.cell? ⟨b,j,none⟩=some v→W1.cell? ⟨b,j,none⟩=some v:=fun j v h=>by rw [hW1,World.cell?_alloc_past (w:=w.drew) _ b j hbw];exact h
  have hOv:∀j v,w.cell? ⟨vb,j,none⟩=some v→W1.cell? ⟨vb,j,none⟩=some v:=fun j v h=>by rw [hW1,World.cell?_alloc_past (w:=w.drew) _ vb j hvw];exact h
  have hcpA:∀(W:World),(∀x,W.cell? x=W1.cell? x)→(∀x,W.frozen? x=W1.frozen? x)→∀ty dc,(Builtin.copy_ #[27,27] ty #[.slice (some ⟨w.heap.size,i*4,none⟩) (n+1 - i) dc, .slice (some ⟨vb,voff,none⟩) 1 vc]).run Try.prog W= .ok (goInt (Nat.min 1 (n+1 - i))) (W.setCells w.heap.size (i*4) vs):=fun W hWc hWf ty dc =>
    QZ W _ _ ty 30 w.heap.size (i*4) (n+1 - i) dc ⟨vb,voff,none⟩ 1 vc vs Try.underlying27 z30 (by rw [hvl];simp only [Nat.min_def];split<;>omega)
      (fun j v hj=>by rw [Addr.add_lit,hWc];exact hOv _ v (hvs j v hj))
      (fun j hj=>by rw [hWc];exact hN _ (by omega)) (fun j hj=>by rw [hWf];exact hNf _) h1v
  have hGn:n+1≤G:=by rw [hG];exact ZL w _ _ _
  have hGi:¬(G=i):=by omega
  have hGim:¬(G=i+1):=by omega
  have hci:¬(n=i):=by omega
  have hbN:b≠w.heap.size:=by omega
  have hdl:(cs.drop (i*4)).length=(n - i)*4:=by rw [List.length_drop,hcl];omega
  have hcpB:∀(W:World),(∀x,W.cell? x=(W1.setCells w.heap.size (i*4) vs).cell? x)→(∀x,W.frozen? x=(W1.setCells w.heap.size (i*4) vs).frozen? x)→∀ty dc sc,(Builtin.copy_ #[27,27] ty #[.slice (some ⟨w.heap.size,(i+1)*4,none⟩) (n - i) dc, .slice (some ⟨b,off+i*4,none⟩) (n - i) sc]).run Try.prog W= .ok (goInt (Nat.min (n - i) (n - i))) (W.setCells w.heap.size ((i+1)*4) (cs.drop (i*4))):=fun W hWc hWf ty dc sc =>
    QZ W _ _ ty 30 w.heap.size ((i+1)*4) (n - i) dc ⟨b,off+i*4,none⟩ (n - i) sc (cs.drop (i*4)) Try.underlying27 z30 (by rw [hdl];simp only [Nat.min_def];split<;>omega)
      (fun j v hj=>by
        rw [Addr.add_lit,hWc,World.cell?_setCells_out _ _ _ _ _ (fun h _=>absurd h hbN),Nat.add_assoc]
        exact hOb _ v (hcs (i*4+j) v (by rwa [List.getElem?_drop] at hj)))
      (fun j hj=>by rw [hWc];exact isSome_setCells _ _ _ _ (fun t ht=>hN _ (by omega)) _ (hN _ (by omega)))
      (fun j hj=>by rw [hWf,World.frozen?_setCells];exact hNf _) (fun v hv=>h1c v (List.mem_of_mem_drop hv))
  subst hW1
  have hE1:∀x,((w.alloc (.cells ROW 30)).drew).cell? x=(w.drew.alloc (.cells ROW 30)).cell? x:=fun x=>rfl
  have hE2:∀x,((w.alloc (.cells ROW 30)).drew).frozen? x=(w.drew.alloc (.cells ROW 30)).frozen? x:=fun x=>rfl
  have hF1:∀x,(((w.alloc (.cells ROW 30)).drew.setCells w.heap.size (i*4) vs).drew).cell? x=((w.drew.alloc (.cells ROW 30)).setCells w.heap.size (i*4) vs).cell? x:=fun x=>rfl
  have hF2:∀x,(((w.alloc (.cells ROW 30)).drew.setCells w.heap.size (i*4) vs).drew).frozen? x=((w.drew.alloc (.cells ROW 30)).setCells w.heap.size (i*4) vs).frozen? x:=fun x=>rfl
  have hw1:IntKind.i64.wrap ((i:Int)+1)=(i:Int)+1:=by rw [IntKind.wrap_i64];omega
  have hw2:IntKind.i64.wrap ((n:Int)+1)=(n:Int)+1:=by rw [IntKind.wrap_i64];omega
  have hw3:IntKind.i64.wrap ((n:Int)+1 - (i:Int))=(n:Int)+1 - (i:Int):=by rw [IntKind.wrap_i64];omega
  have hb1:(0:Int)≤(i:Int)+1:=by omega
  have hin:i≤n:=by omega
  have htn:((i:Int)+1).toNat=i+1:=by omega
  have hb3:(i:Int)≤(n:Int):=by omega
  clear hkk hik hold hROW hG hRl
  go_enter Try.func32,Try.ntmps32
  go_wp2_with (first
    | (at_builtin;refine Lib.wpList_append_run _ Y _ _ _ _ Y _ _ Y Y _ _ (hrz _) ?_)
    | (at_builtin;refine wpList_copy_runI _ Y _ _ 27 27 Y _ _ Y Y (hcpA _ hE1 hE2 _ _) ?_)
    | (at_builtin;refine wpList_copy_runI _ Y _ _ 27 27 Y _ _ Y Y (hcpB _ (fun _=>rfl) (fun _=>rfl) _ _ _) ?_))
  go_region_law_o (refine step_copy_runI Y _ _ 27 27 Y (.slice (some ⟨w.heap.size,(i+1)*4,none⟩) (n - i) (G - (i+1))) (.slice (some ⟨b,off+i*4,none⟩) (n - i) (n - i)) (by simp [Act.eval,Act.put]) (by simp [Act.eval,Act.put]) (hcpB _ hF1 hF2 3 (G - (i+1)) (n - i)) ?_)
  go_wp2
  go_ret
  exact ⟨rfl,rfl⟩
theorem QdU : QcX Try.prog 32 27 30 4 40 where
 ut:=Try.underlying27
 info:=⟨_,_,rfl,rfl,rfl,rfl,rfl⟩
 wide:=by decide
 fin base n c vb voff vc w _ _ h1 h2 h3:=QcJ base n c vb voff vc w h1 h2 h3
 shift b off n c i vb voff vc cs vs w h1 h2 h3 h4 h5 h6 h7 h8 h9 h10 h11 h12 tA tB kA kB h13 h14 h15 h16 h17:=QbK b off n c i vb voff vc cs vs w h1 h2 h3 h4 h5 h6 h7 h8 h9 h10 h11 h12 tA tB kA kB h13 h14 h15 h16 h17
 grow b off n i vb voff vc cs vs w h1 h2 _ _ h3 h4 h5 h6 h7 h8 h9 h10 h11 h12 h13:=Qcb b off n i vb voff vc cs vs w h1 h2 h3 h4 h5 h6 h7 h8 h9 h10 h11 h12 h13
theorem QcB (base:Option Addr) (n c vb voff vc:Nat) (w:World) {v':Value} {W':World} (hn:base=none→n=0∧c=0) (hnc:n≤c)
  (hrun:(Builtin.append_ #[39,39] 39 #[.slice base n c, .slice (some ⟨vb,voff,none⟩) 1 vc]).run Try.prog w= .ok v' W') :
  Calls Try.prog 42 #[.slice base n c, .int .i64 n, .slice (some ⟨vb,voff,none⟩) 1 vc] w fun e w'=>e= .returned v'∧w'=W':=by
 have t0:=Try.underlying0;have u0:=run_underlying Try.underlying0
 have t3:=Try.underlying3;have u3:=run_underlying Try.underlying3
 have t4:=Try.underlying4;have u4:=run_underlying Try.underlying4
 have t39:=Try.underlying39;have u39:=run_underlying Try.underlying39
 have t58:=Try.underlying58;have u58:=run_underlying Try.underlying58
 have z0:∀w,(Go.sizeOf 0).run Try.prog w= .ok 1 w:=fun _=>by kernel_rfl
 have z3:∀w,(Go.sizeOf 3).run Try.prog w= .ok 1 w:=fun _=>by kernel_rfl
 have z4:∀w,(Go.sizeOf 4).run Try.prog w= .ok 1 w:=fun _=>by kernel_rfl
 have z39:∀w,(Go.sizeOf 39).run Try.prog w= .ok 1 w:=fun _=>by kernel_rfl
 have z58:∀w,(Go.sizeOf 58).run Try.prog w= .ok 2 w:=fun _=>by kernel_rfl
 have a0:∀w,(isAgg 0).run Try.prog w= .ok false w:=fun _=>by kernel_rfl
 have a3:∀w,(isAgg 3).run Try.prog w= .ok false w:=fun _=>by kernel_rfl
 have a4:∀w,(isAgg 4).run Try.prog w= .ok false w:=fun _=>by kernel_rfl
 have a39:∀w,(isAgg 39).run Try.prog w= .ok false w:=fun _=>by kernel_rfl
 have v39:∀w,(zeroValue 39).run Try.prog w= .ok (Value.slice none 0 0) w:=fun _=>by kernel_rfl
 have v3:∀w,(zeroValue 3).run Try.prog w= .ok (Value.int IntKind.i64 0) w:=fun _=>by kernel_rfl
 have mixed:Try.prog.follows .mixedOrders=true:=by kernel_rfl
 have hz1:¬((1:Int)=0):=by omega
 go_enter Try.func42,Try.ntmps42
 cases base with
 | none =>
  obtain ⟨h0,h1⟩:=hn Y
  subst h0
  subst h1
  go_wp2_with (at_builtin;refine Lib.wpList_append_run _ Y _ _ _ _ Y _ _ Y Y _ _ hrun ?_)
  go_ret
  exact ⟨rfl,rfl⟩
 | some a =>
  obtain ⟨ab,ao,asp⟩:=a
  go_wp2_with (at_builtin;refine Lib.wpList_append_run _ Y _ _ _ _ Y _ _ Y Y _ _ hrun ?_)
  all_goals (go_ret;exact ⟨rfl,rfl⟩)
theorem QbN (b off n c i vb voff vc:Nat) (cs vs:List Value) (w:World) (hi:i<n) (hroom:n+1≤c) (hn63:n<9223372036854775807) (hvb:vb≠b)
    (hcl:cs.length=n*2) (hvl:vs.length=2)
    (hcs:∀j v,cs[j]? =some v→w.cell? ⟨b,off+j,none⟩=some v) (hsp:∀j,j<(n+1)*2→(w.cell? ⟨b,off+j,none⟩).isSome=true) (hfz:∀j,j<(n+1)*2→w.frozen? ⟨b,off+j,none⟩=false)
    (hvs:∀j v,vs[j]? =some v→w.cell? ⟨vb,voff+j,none⟩=some v) (h1c:∀v∈cs,v.oneCell'=true) (h1v:∀v∈vs,v.oneCell'=true)
    (tA tB:TypeId) (kA kB:Nat) (hsa:w.shape? vb=some (tA,kA)) (hsb:w.shape? b=some (tB,kB)) (hkB:kB≠0) (hfa:w.frozen? ⟨vb,voff,none⟩=false) (hfe:w.frozen? ⟨vb,kA,none⟩=false) :
    Calls Try.prog 42 #[.slice (some ⟨b,off,none⟩) n c, .int .i64 i, .slice (some ⟨vb,voff,none⟩) 1 vc] w fun e w' =>
      e= .returned (.slice (some ⟨b,off,none⟩) (n+1) c)∧w'=(w.drew.setCells b (off+(i+1)*2) (cs.drop (i*2))).setCells b (off+i*2) vs:=by
  have t0:=Try.underlying0;have u0:=run_underlying Try.underlying0
  have t3:=Try.underlying3;have u3:=run_underlying Try.underlying3
  have t4:=Try.underlying4;have u4:=run_underlying Try.underlying4
  have t39:=Try.underlying39;have u39:=run_underlying Try.underlying39
  have t58:=Try.underlying58;have u58:=run_underlying Try.underlying58
  have z0:∀w,(Go.sizeOf 0).run Try.prog w= .ok 1 w:=fun _=>by kernel_rfl
  have z3:∀w,(Go.sizeOf 3).run Try.prog w= .ok 1 w:=fun _=>by kernel_rfl
  have z4:∀w,(Go.sizeOf 4).run Try.prog w= .ok 1 w:=fun _=>by kernel_rfl
  have z39:∀w,(Go.sizeOf 39).run Try.prog w= .ok 1 w:=fun _=>by kernel_rfl
  have z58:∀w,(Go.sizeOf 58).run Try.prog w= .ok 2 w:=fun _=>by kernel_rfl
  have a0:∀w,(isAgg 0).run Try.prog w= .ok false w:=fun _=>by kernel_rfl
  have a3:∀w,(isAgg 3).run Try.prog w= .ok false w:=fun _=>by kernel_rfl
  have a4:∀w,(isAgg 4).run Try.prog w= .ok false w:=fun _=>by kernel_rfl
  have a39:∀w,(isAgg 39).run Try.prog w= .ok false w:=fun _=>by kernel_rfl
  have v39:∀w,(zeroValue 39).run Try.prog w= .ok (Value.slice none 0 0) w:=fun _=>by kernel_rfl
  have v3:∀w,(zeroValue 3).run Try.prog w= .ok (Value.int IntKind.i64 0) w:=fun _=>by kernel_rfl
  have mixed:Try.prog.follows .mixedOrders=true:=by kernel_rfl
  have hz1:¬((1:Int)=0):=by omega
  have hz2:¬((i:Int)=(n:Int)):=by omega
  have hov:∀lb cb,(callFunc 54 #[.slice (some ⟨vb,voff,none⟩) 1 vc, .slice (some ⟨b,off+(i+1)*2,none⟩) lb cb]).run Try.prog w= .ok (.value (.bool false)) w:=fun lb cb=>by
    rw [run_callFunc_extern Try.func54 (by kernel_rfl) (by kernel_rfl) (by kernel_rfl) (e:=Extern.SlicesOverlaps.overlaps #[39,39] #[4]) (by kernel_rfl),
      Lib.run_overlaps_apart w 39 4 58 Try.underlying39 2 z58 ⟨vb,voff,none⟩ ⟨b,off+(i+1)*2,none⟩ 1 vc lb cb hvb tA tB kA kB hsa hsb hkB hfa hfe]
    rfl
  have hdl:(cs.drop (i*2)).length=(n - i)*2:=by rw [List.length_drop,hcl];omega
  have hw1:IntKind.i64.wrap ((i:Int)+1)=(i:Int)+1:=by rw [IntKind.wrap_i64];omega
  have hw2:IntKind.i64.wrap ((n:Int)+1)=(n:Int)+1:=by rw [IntKind.wrap_i64];omega
  have hb1:(0:Int)≤(i:Int)+1:=by omega
  have hin:i≤n:=by omega
  have htn:((i:Int)+1).toNat=i+1:=by omega
  have hb2:¬(c=i+1):=by omega
  have hb3:(i:Int)≤(n:Int)+1:=by omega
  have hb4:¬(c=i):=by omega
  have hcp1:∀ty dc sc,(Builtin.copy_ #[39,39] ty #[.slice (some ⟨b,off+(i+1)*2,none⟩) (n - i) dc, .slice (some ⟨b,off+i*2,none⟩) (n+1 - i) sc]).run Try.prog w.drew= .ok (goInt (Nat.min (n+1 - i) (n - i))) (w.drew.setCells b (off+(i+1)*2) (cs.drop (i*2))):=fun ty dc sc =>
    QZ w.drew _ _ ty 58 b (off+(i+1)*2) (n - i) dc ⟨b,off+i*2,none⟩ (n+1 - i) sc (cs.drop (i*2)) Try.underlying39 z58 (by rw [hdl];simp only [Nat.min_def];split<;>omega)
      (fun j v hj=>by rw [Addr.add_lit,Nat.add_assoc];exact hcs (i*2+j) v (by rwa [List.getElem?_drop] at hj))
      (fun j hj=>by rw [Nat.add_assoc];exact hsp _ (by omega)) (fun j hj=>by rw [Nat.add_assoc];exact hfz _ (by omega)) (fun v hv=>h1c v (List.mem_of_mem_drop hv))
  obtain ⟨W1,hW1⟩:∃W1,W1=w.drew.setCells b (off+(i+1)*2) (cs.drop (i*2)):=⟨_,rfl⟩
  have hsp1:∀k,k<(n+1)*2→(W1.cell? ⟨b,off+k,none⟩).isSome=true:=fun k hk=>by
    rw [hW1]
    exact isSome_setCells b _ _ _ (fun j hj=>by rw [Nat.add_assoc];exact hsp _ (by omega)) _ (hsp k hk)
  have hcp2:∀(W:World),(∀x,W.cell? x=W1.cell? x)→(∀x,W.frozen? x=W1.frozen? x)→∀ty dc,(Builtin.copy_ #[39,39] ty #[.slice (some ⟨b,off+i*2,none⟩) (n+1 - i) dc, .slice (some ⟨vb,voff,none⟩) 1 vc]).run Try.prog W= .ok (goInt (Nat.min 1 (n+1 - i))) (W.setCells b (off+i*2) vs):=fun W hWc hWf ty dc =>
    QZ W _ _ ty 58 b (off+i*2) (n+1 - i) dc ⟨vb,voff,none⟩ 1 vc vs Try.underlying39 z58 (by rw [hvl];simp only [Nat.min_def];split<;>omega)
      (fun j v hj=>by
        rw [Addr.add_lit,hWc,hW1,World.cell?_setCells_out b _ _ _ _ (fun h _=>absurd h hvb)]
        exact hvs j v hj)
      (fun j hj=>by rw [hWc,Nat.add_assoc];exact hsp1 _ (by omega)) (fun j hj=>by rw [hWf,hW1,World.frozen?_setCells,Nat.add_assoc];exact hfz _ (by omega)) h1v
  rw [← hW1] at hcp1
  go_enter Try.func42,Try.ntmps42
  go_wp2_with (simp only [hov])
  go_region_law_o (refine step_copy_runI Y _ _ 39 39 Y _ _ (by simp [Act.eval,Act.put]) (by simp [Act.eval,Act.put]) (hcp1 _ _ _) ?_)
  go_wp2_with (at_builtin;refine wpList_copy_runI _ Y _ _ 39 39 Y _ _ Y Y (hcp2 _ (fun _=>rfl) (fun _=>rfl) _ _) ?_)
  go_ret
  first | exact ⟨rfl,rfl⟩ | exact ⟨rfl,by rw [hW1]⟩
theorem Qch (b off n i vb voff vc:Nat) (cs vs:List Value) (w:World) (hi:i<n) (hn63:n<4611686018427387904) {i0:TypeInfo} {z:Value} (hi0:Try.prog.info? 58=some i0) (hz0:i0.zero=some z) (hzs:i0.size=2) (hzc:z.cells.size=2) (hbig:2*(n+1)*i0.bytes≤281474976710656)
    (hcl:cs.length=n*2) (hvl:vs.length=2)
    (hcs:∀j v,cs[j]? =some v→w.cell? ⟨b,off+j,none⟩=some v)
    (hvs:∀j v,vs[j]? =some v→w.cell? ⟨vb,voff+j,none⟩=some v) (h1c:∀v∈cs,v.oneCell'=true) (h1v:∀v∈vs,v.oneCell'=true) :
    Calls Try.prog 42 #[.slice (some ⟨b,off,none⟩) n n, .int .i64 i, .slice (some ⟨vb,voff,none⟩) 1 vc] w fun e w' =>
      e= .returned (.slice (some ⟨w.heap.size,0,none⟩) (n+1) (grownCap w (n+1) n 58)) ∧
      w'=(((w.alloc (.cells ((cs.take (i*2)).toArray++Builtin.zeroCells z.cells (n+1 - i)++Builtin.zeroCells z.cells (grownCap w (n+1) n 58 - (n+1))) 58)).drew.setCells w.heap.size (i*2) vs).drew).setCells w.heap.size ((i+1)*2) (cs.drop (i*2)):=by
  have t0:=Try.underlying0;have u0:=run_underlying Try.underlying0
  have t3:=Try.underlying3;have u3:=run_underlying Try.underlying3
  have t4:=Try.underlying4;have u4:=run_underlying Try.underlying4
  have t39:=Try.underlying39;have u39:=run_underlying Try.underlying39
  have t58:=Try.underlying58;have u58:=run_underlying Try.underlying58
  have z0:∀w,(Go.sizeOf 0).run Try.prog w= .ok 1 w:=fun _=>by kernel_rfl
  have z3:∀w,(Go.sizeOf 3).run Try.prog w= .ok 1 w:=fun _=>by kernel_rfl
  have z4:∀w,(Go.sizeOf 4).run Try.prog w= .ok 1 w:=fun _=>by kernel_rfl
  have z39:∀w,(Go.sizeOf 39).run Try.prog w= .ok 1 w:=fun _=>by kernel_rfl
  have z58:∀w,(Go.sizeOf 58).run Try.prog w= .ok 2 w:=fun _=>by kernel_rfl
  have a0:∀w,(isAgg 0).run Try.prog w= .ok false w:=fun _=>by kernel_rfl
  have a3:∀w,(isAgg 3).run Try.prog w= .ok false w:=fun _=>by kernel_rfl
  have a4:∀w,(isAgg 4).run Try.prog w= .ok false w:=fun _=>by kernel_rfl
  have a39:∀w,(isAgg 39).run Try.prog w= .ok false w:=fun _=>by kernel_rfl
  have v39:∀w,(zeroValue 39).run Try.prog w= .ok (Value.slice none 0 0) w:=fun _=>by kernel_rfl
  have v3:∀w,(zeroValue 3).run Try.prog w= .ok (Value.int IntKind.i64 0) w:=fun _=>by kernel_rfl
  have mixed:Try.prog.follows .mixedOrders=true:=by kernel_rfl
  have hz1:¬((1:Int)=0):=by omega
  have hz2:¬((i:Int)=(n:Int)):=by omega
  have hz3:(n:Int)<(n:Int)+1:=by omega
  have hbw:b<w.heap.size:=block_lt_of_cell (hcs 0 _ (List.getElem?_eq_getElem (by omega)))
  have hvw:vb<w.heap.size:=block_lt_of_cell (hvs 0 _ (List.getElem?_eq_getElem (by omega)))
  have hkk:(n:Int)+1 - (i:Int)=((n+1 - i:Nat):Int):=by omega
  have hik:i+(n+1 - i)=n+1:=by omega
  have hold:(Builtin.firstCells i0.size i (.slice (some ⟨b,off,none⟩) i n)).run Try.prog w.drew= .ok (cs.take (i*2)).toArray w.drew:=by
    rw [hzs]
    exact run_firstCells_some w.drew 2 i ⟨b,off,none⟩ i n (cs.take (i*2)) (by rw [List.length_take];omega) (fun j v hj=>by
      rw [Addr.add_lit]
      rw [List.getElem?_take] at hj
      split at hj
      · exact hcs j v hj
      · cases hj)
  have hbi:(n+1 - i)*i0.bytes≤281474976710656:=Nat.le_trans (Nat.mul_le_mul_right _ (by omega)) hbig
  have hfit:Builtin.nextslicecap (n+1) n*i0.bytes≤281474976710656:=Nat.le_trans (Nat.mul_le_mul_right _ (nextslicecap_le (by omega))) hbig
  have hrz:∀ty,(Builtin.append_ #[39,3] ty #[.slice (some ⟨b,off,none⟩) i n, .int .i64 ((n:Int)+1 - (i:Int))]).run Try.prog w =
      .ok (.slice (some ⟨w.heap.size,0,none⟩) (n+1) (grownCap w (n+1) n 58)) (w.drew.alloc (.cells ((cs.take (i*2)).toArray++Builtin.zeroCells z.cells (n+1 - i)++Builtin.zeroCells z.cells (grownCap w (n+1) n 58 - (n+1))) 58)):=fun ty=>by
    have h:=Lib.run_append_grow_zeros w 39 3 ty 58 i0 _ .i64 .i64 Try.underlying39 Try.underlying3 hi0 hz0 (some ⟨b,off,none⟩) i n (cs.take (i*2)) hold (n+1 - i) (by omega) (by omega) (by omega) (by omega) hbi (by rw [hik];exact hfit)
    rw [hik] at h
    rw [hkk]
    exact h
  obtain ⟨G,hG⟩:∃G,G=grownCap w (n+1) n 58:=⟨_,rfl⟩
  obtain ⟨ROW,hROW⟩:∃ROW:Array Value,ROW=(cs.take (i*2)).toArray++Builtin.zeroCells z.cells (n+1 - i)++Builtin.zeroCells z.cells (G - (n+1)):=⟨_,rfl⟩
  rw [← hG] at hrz ⊢
  rw [← hROW] at hrz ⊢
  have hRl:(n+1)*2≤ROW.size:=by
    rw [hROW]
    have hq:∀k,(Builtin.zeroCells z.cells k).size=k*z.cells.size:=fun k=>by simp [Builtin.zeroCells]
    rw [Array.size_append,Array.size_append,hq,hq,hzc,List.size_toArray,List.length_take,hcl]
    omega
  obtain ⟨W1,hW1⟩:∃W1,W1=w.drew.alloc (.cells ROW 58):=⟨_,rfl⟩
  rw [← hW1] at hrz
  have hN:∀j,j<(n+1)*2→(W1.cell? ⟨w.heap.size,j,none⟩).isSome=true:=fun j hj=>by
    rw [hW1,World.cell?_alloc_at (w:=w.drew) ROW _ w.heap.size j Y,Array.getElem?_eq_getElem (by omega)];rfl
  have hNf:∀j,W1.frozen? ⟨w.heap.size,j,none⟩=false:=fun j=>by rw [hW1];exact World.frozen?_alloc_at (w:=w.drew) ROW _ w.heap.size j Y
  have hOb:∀j v,w.cell? ⟨b,j,none⟩=some v→W1.cell? ⟨b,j,none⟩=some v:=fun j v h=>by rw [hW1,World.cell?_alloc_past (w:=w.drew) _ b j hbw];exact h
  have hOv:∀j v,w.cell? ⟨vb,j,none⟩=some v→W1.cell? ⟨vb,j,none⟩=some v:=fun j v h=>by rw [hW1,World.cell?_alloc_past (w:=w.drew) _ vb j hvw];exact h
  have hcpA:∀(W:World),(∀x,W.cell? x=W1.cell? x)→(∀x,W.frozen? x=W1.frozen? x)→∀ty dc,(Builtin.copy_ #[39,39] ty #[.slice (some ⟨w.heap.size,i*2,none⟩) (n+1 - i) dc, .slice (some ⟨vb,voff,none⟩) 1 vc]).run Try.prog W= .ok (goInt (Nat.min 1 (n+1 - i))) (W.setCells w.heap.size (i*2) vs):=fun W hWc hWf ty dc =>
    QZ W _ _ ty 58 w.heap.size (i*2) (n+1 - i) dc ⟨vb,voff,none⟩ 1 vc vs Try.underlying39 z58 (by rw [hvl];simp only [Nat.min_def];split<;>omega)
      (fun j v hj=>by rw [Addr.add_lit,hWc];exact hOv _ v (hvs j v hj))
      (fun j hj=>by rw [hWc];exact hN _ (by omega)) (fun j hj=>by rw [hWf];exact hNf _) h1v
  have hGn:n+1≤G:=by rw [hG];exact ZL w _ _ _
  have hGi:¬(G=i):=by omega
  have hGim:¬(G=i+1):=by omega
  have hci:¬(n=i):=by omega
  have hbN:b≠w.heap.size:=by omega
  have hdl:(cs.drop (i*2)).length=(n - i)*2:=by rw [List.length_drop,hcl];omega
  have hcpB:∀(W:World),(∀x,W.cell? x=(W1.setCells w.heap.size (i*2) vs).cell? x)→(∀x,W.frozen? x=(W1.setCells w.heap.size (i*2) vs).frozen? x)→∀ty dc sc,(Builtin.copy_ #[39,39] ty #[.slice (some ⟨w.heap.size,(i+1)*2,none⟩) (n - i) dc, .slice (some ⟨b,off+i*2,none⟩) (n - i) sc]).run Try.prog W= .ok (goInt (Nat.min (n - i) (n - i))) (W.setCells w.heap.size ((i+1)*2) (cs.drop (i*2))):=fun W hWc hWf ty dc sc =>
    QZ W _ _ ty 58 w.heap.size ((i+1)*2) (n - i) dc ⟨b,off+i*2,none⟩ (n - i) sc (cs.drop (i*2)) Try.underlying39 z58 (by rw [hdl];simp only [Nat.min_def];split<;>omega)
      (fun j v hj=>by
        rw [Addr.add_lit,hWc,World.cell?_setCells_out _ _ _ _ _ (fun h _=>absurd h hbN),Nat.add_assoc]
        exact hOb _ v (hcs (i*2+j) v (by rwa [List.getElem?_drop] at hj)))
      (fun j hj=>by rw [hWc];exact isSome_setCells _ _ _ _ (fun t ht=>hN _ (by omega)) _ (hN _ (by omega)))
      (fun j hj=>by rw [hWf,World.frozen?_setCells];exact hNf _) (fun v hv=>h1c v (List.mem_of_mem_drop hv))
  subst hW1
  have hE1:∀x,((w.alloc (.cells ROW 58)).drew).cell? x=(w.drew.alloc (.cells ROW 58)).cell? x:=fun x=>rfl
  have hE2:∀x,((w.alloc (.cells ROW 58)).drew).frozen? x=(w.drew.alloc (.cells ROW 58)).frozen? x:=fun x=>rfl
  have hF1:∀x,(((w.alloc (.cells ROW 58)).drew.setCells w.heap.size (i*2) vs).drew).cell? x=((w.drew.alloc (.cells ROW 58)).setCells w.heap.size (i*2) vs).cell? x:=fun x=>rfl
  have hF2:∀x,(((w.alloc (.cells ROW 58)).drew.setCells w.heap.size (i*2) vs).drew).frozen? x=((w.drew.alloc (.cells ROW 58)).setCells w.heap.size (i*2) vs).frozen? x:=fun x=>rfl
  have hw1:IntKind.i64.wrap ((i:Int)+1)=(i:Int)+1:=by rw [IntKind.wrap_i64];omega
  have hw2:IntKind.i64.wrap ((n:Int)+1)=(n:Int)+1:=by rw [IntKind.wrap_i64];omega
  have hw3:IntKind.i64.wrap ((n:Int)+1 - (i:Int))=(n:Int)+1 - (i:Int):=by rw [IntKind.wrap_i64];omega
  have hb1:(0:Int)≤(i:Int)+1:=by omega
  have hin:i≤n:=by omega
  have htn:((i:Int)+1).toNat=i+1:=by omega
  have hb3:(i:Int)≤(n:Int):=by omega
  clear hkk hik hold hROW hG hRl
  go_enter Try.func42,Try.ntmps42
  go_wp2_with (first
    | (at_builtin;refine Lib.wpList_append_run _ Y _ _ _ _ Y _ _ Y Y _ _ (hrz _) ?_)
    | (at_builtin;refine wpList_copy_runI _ Y _ _ 39 39 Y _ _ Y Y (hcpA _ hE1 hE2 _ _) ?_)
    | (at_builtin;refine wpList_copy_runI _ Y _ _ 39 39 Y _ _ Y Y (hcpB _ (fun _=>rfl) (fun _=>rfl) _ _ _) ?_))
  go_region_law_o (refine step_copy_runI Y _ _ 39 39 Y (.slice (some ⟨w.heap.size,(i+1)*2,none⟩) (n - i) (G - (i+1))) (.slice (some ⟨b,off+i*2,none⟩) (n - i) (n - i)) (by simp [Act.eval,Act.put]) (by simp [Act.eval,Act.put]) (hcpB _ hF1 hF2 3 (G - (i+1)) (n - i)) ?_)
  go_wp2
  go_ret
  exact ⟨rfl,rfl⟩
theorem QdO : QcX Try.prog 42 39 58 2 24 where
 ut:=Try.underlying39
 info:=⟨_,_,rfl,rfl,rfl,rfl,rfl⟩
 wide:=by decide
 fin base n c vb voff vc w _ _ h1 h2 h3:=QcB base n c vb voff vc w h1 h2 h3
 shift b off n c i vb voff vc cs vs w h1 h2 h3 h4 h5 h6 h7 h8 h9 h10 h11 h12 tA tB kA kB h13 h14 h15 h16 h17:=QbN b off n c i vb voff vc cs vs w h1 h2 h3 h4 h5 h6 h7 h8 h9 h10 h11 h12 tA tB kA kB h13 h14 h15 h16 h17
 grow b off n i vb voff vc cs vs w h1 h2 _ _ h3 h4 h5 h6 h7 h8 h9 h10 h11 h12 h13:=Qch b off n i vb voff vc cs vs w h1 h2 h3 h4 h5 h6 h7 h8 h9 h10 h11 h12 h13
open Go
theorem Qed : Qce Try.prog:=by
 intro f hf
 by_cases h0:f=32
 ·subst h0
  exact Qam QdU
 by_cases h1:f=42
 ·subst h1
  exact Qam QdO
 simp [YO,h0,h1] at hf
end Go.Proofs.Ytnhblneeekccoaa.AE
