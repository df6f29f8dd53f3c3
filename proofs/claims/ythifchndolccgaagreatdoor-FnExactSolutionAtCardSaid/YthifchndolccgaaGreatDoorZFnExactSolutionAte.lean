/- A part of what the row of FnExactSolutionAt uses. Conditions: as each theorem states. -/
import Derived.Test.YthifchndolccgaaGreatDoorZFnExactSolutionAtd
import Derived.Test.YthifchndolccgaaGreatDoorProg
import Derived.Shelf.LaysM
import Derived.Shelf.Strings.Replace
namespace Go.Proofs.YthifchndolccgaaGreatDoor.AE
open Go Go.RowKit
set_option linter.unusedVariables false
set_option linter.unusedSimpArgs false
set_option maxRecDepth 20000
set_option maxHeartbeats 2000000
noncomputable section
def Qen (a b:List Bool):List Bool:=List.zipWith (fun x y=>x || y) a b
def Zy (a b:List Bool) (k:Nat):List Bool:=(Qen a b).take k++a.drop k
theorem Jq {a b:List Bool} (h:b.length=a.length):(Qen a b).length=a.length:=by simp [Qen,h]
theorem QcA {a b:List Bool} {k:Nat} (h:b.length=a.length) (hk:k≤a.length):(Zy a b k).length=a.length:=by
 unfold Zy
 rw [List.length_append,List.length_take,Jq h,List.length_drop];omega
theorem Qjh {a b:List Bool} {k:Nat} {x:Bool} (h:b.length=a.length) (hk:k<a.length) (hx:(Zy a b k)[k]? =some x):x=on a k:=by
 unfold Zy at hx
 rw [List.getElem?_append_right (by rw [List.length_take,Jq h];omega),List.length_take,Jq h,Nat.min_eq_left (by omega),Nat.sub_self,List.getElem?_drop,Nat.add_zero] at hx
 rw [on,hx];rfl
theorem Qg3 {a b:List Bool} (h:b.length=a.length) (j:Nat):on (Qen a b) j=(on a j || on b j):=by
 unfold on Qen
 rw [List.getElem?_zipWith]
 rcases Nat.lt_or_ge j a.length with h1 | h1
 ·rw [List.getElem?_eq_getElem h1,List.getElem?_eq_getElem (by omega)];rfl
 ·rw [List.getElem?_eq_none h1,List.getElem?_eq_none (by omega)];rfl
theorem Qg9 {a b:List Bool} {k:Nat} {v:Bool} (h:b.length=a.length) (hk:k<a.length) (hv:v=(on a k || on b k)):(Zy a b k).set k v=Zy a b (k+1):=by
 have hl:=Jq h
 have hu:(Qen a b)[k]? =some v:=by
  have h1:=Qg3 h k
  unfold on at h1 hv
  rw [List.getElem?_eq_getElem (by omega)] at h1 ⊢
  rw [hv,← h1];rfl
 unfold Zy
 rw [List.set_append_right _ _ (by rw [List.length_take];omega),List.length_take,hl,Nat.min_eq_left (by omega),Nat.sub_self,List.drop_eq_getElem_cons hk,List.set_cons_zero,List.take_add_one,hu]
 simp
theorem Qg1 {a b:List Bool} {k:Nat} (h:b.length=a.length) (hk:¬k<a.length):Zy a b k=Qen a b:=by
 unfold Zy
 rw [List.take_of_length_le (by rw [Jq h];omega),List.drop_of_length_le (by omega),List.append_nil]
def fresh (g:D.Grid) (i:Nat):List Bool:=Q8 g ((List.replicate g.Cells.size false).set i true)
def QbN (g:D.Grid) (s:List Bool) (i:Nat):Prop:=Qr g.Cells i=46∧on s i=false
instance (g:D.Grid) (s:List Bool) (i:Nat):Decidable (QbN g s i):=Classical.propDecidable _
def Ql (g:D.Grid):Nat→Nat×List Bool
 | 0=>(0,List.replicate g.Cells.size false)
 | i+1=>if QbN g (Ql g i).2 i then ((Ql g i).1+1,Qen (Ql g i).2 (fresh g i)) else Ql g i
theorem J4 (g:D.Grid) (i:Nat):(fresh g i).length=g.Cells.size:=by simp [fresh,Qbf]
theorem YL (g:D.Grid):∀i,(Ql g i).2.length=g.Cells.size
 | 0=>by simp [Ql]
 | i+1=>by
  have h:=YL g i
  unfold Ql
  split
  ·simp only;rw [Jq (by rw [J4,h])];exact h
  ·exact h
theorem Qcu (g:D.Grid):∀i,(Ql g i).1≤i
 | 0=>Nat.le_refl _
 | i+1=>by
  have h:=Qcu g i
  unfold Ql
  split
  ·simp only;omega
  ·omega
theorem Qcb {g:D.Grid} {i:Nat} (h:QbN g (Ql g i).2 i):(Ql g (i+1)).1=(Ql g i).1+1∧(Ql g (i+1)).2=Qen (Ql g i).2 (fresh g i):=by
 rw [Ql,if_pos h];exact ⟨rfl,rfl⟩
theorem Qaw {g:D.Grid} {i:Nat} (h:¬QbN g (Ql g i).2 i):Ql g (i+1)=Ql g i:=by
 rw [Ql,if_neg h]
def ZH (g:D.Grid):Nat:=if gridOk g then (Ql g g.Cells.size).1 else 0
theorem QeU {g:D.Grid} {i:Nat} (h1:i≤g.Cells.size) (h2:gridOk g∨i=0) (h3:¬(i<g.Cells.size∧gridOk g)):(Ql g i).1=ZH g:=by
 unfold ZH
 by_cases hg:gridOk g
 ·rw [if_pos hg,show i=g.Cells.size by have:¬i<g.Cells.size:=fun h=>h3 ⟨h,hg⟩;omega]
 ·rw [if_neg hg,h2.resolve_left hg];rfl
theorem orB (x y:Bool):decide (x=true∨y=true)=(x || y):=by cases x<;>cases y<;>rfl
end
theorem QdT (n:Nat) (g:D.Grid) (hc:g.Cells.size≤mx):Pure (Qo Tryz.prog (n+3)) 98 [(T.agg (Qb false g))] (tN (ZH g)):=by
 refine Pure.intro (rs:= [ResultVar.tmp 2]) Tryz.func98 rfl rfl rfl (E0:= [(0,(T.agg (Qb false g)))]) rfl ?_
 obtain ⟨hlim,hmx,hmax⟩:=QF
 refine sr (kO (B.box (ts:=(Qb false g)) (tv (T.agg (Qb false g)) rfl) nofun rfl) (fO (OF.assign (VEv.int .i64 0)) (nt (sr (fO (OF.assign (VEv.int .i64 0)) (nt (sr (kO (OM.slice0 YH zo4 (by kernel_rfl) rfl (by rw [sz4];decide) sz4) (aO (T.os 1 1 0 0) rfl (nt (sq ?_)))))))))))
 refine sr (fO (OF.assign (VEv.int .i64 0)) (nt (VRun.block ?_)))
 have he1: []=((List.replicate 0 false).map (Qk true)):=by rfl
 refine VRun.loop (A:=Nat) (fun s_=> [(1,(T.op 0 0)),(2,(tN 0)),(3,(tN 0)),(4,(T.os 1 1 0 (((List.replicate s_ false).map (Qk true)).length))),(5,(tN s_))]) (fun s_=>Q0 [(0,(Obj.cells (Qb false g))),(1,(Obj.rows 1 ((List.replicate s_ false).map (Qk true))))]) 2 (fun s_=>s_≤g.Cells.size) (fun s_=>g.Cells.size - s_) (0:Nat) ?_ (Wk.mk (fun k=>k) ?_ ?_ ?_) ?_
 ·(simp;done)
 ·exact (b2 (b2 (b2 (bc ⟨(congrArg (fun n_=>T.os 1 1 0 n_) (show 0=((List.replicate 0 false).map (Qk true)).length from (by rfl))),rfl⟩ (b2 bn)))))
 ·exact (b3 (bc ⟨(congrArg (fun l_=>some (Obj.rows 1 l_)) he1),(lb rfl),rfl⟩ bn))
 ·exact nd rfl
 rintro k (hI':k≤g.Cells.size)
 show VRun _ _ _ [(1,(T.op 0 0)),(2,(tN 0)),(3,(tN 0)),(4,(T.os 1 1 0 (((List.replicate k false).map (Qk true)).length))),(5,(tN k))] (Q0 [(0,(Obj.cells (Qb false g))),(1,(Obj.rows 1 ((List.replicate k false).map (Qk true))))]) 2 _
 have hK1:=hI'
 refine sq (sr (mO (tN k) rfl (lf (tS g.Cells) rfl Qy rfl rfl ZN (lO (B.lenS (tv (tS g.Cells) rfl) U9) (fO (Ze (tv (tN k) rfl) (tv (tN g.Cells.size) rfl)) (nt ?_))))))
 refine cd (k<g.Cells.size) rfl (fun fhc0=> ?_) fun fhc0=> ?_
 ·refine sk ?_
  refine tn (sq (VRun.block (VRun.region (mO (T.os 1 1 0 (((List.replicate k false).map (Qk true)).length)) rfl (kO (OM.buildSlice (l:= [(tB false)]) (VEvp.cons (VEv.bool false) VEvp.nil) rfl (by decide) (bc (nofun) bn) (bc ((bc (rfl) bn)) bn) (bc (rfl) bn) YH zo4 (by kernel_rfl) rfl (by rw [sz4];decide) sz4 (Nat.le_of_ble_eq_true rfl)) (cO (B.append (rows:=((List.replicate k false).map (Qk true))) (rows2:= [[(tB false)]]) (rows3:=((List.replicate k false++ [false]).map (Qk true))) (VDst.own (tv (T.os 1 1 0 (((List.replicate k false).map (Qk true)).length)) rfl) rfl rfl) (VSrc.own (tv (T.os 1 2 0 1) rfl) rfl rfl YH (bc (bc rfl bn) bn)) (by decide) YH sz4 (by decide) zo4 rfl (of_decide_eq_true (by kernel_rfl)) (by (simp only [List.length_map,List.length_append,List.length_cons,List.length_nil,List.length_replicate,List.length_set,List.length_drop,List.length_take,YD] at *;omega)) ((List.map_append (f:=Qk true) (l₁:=List.replicate k false) (l₂:= [false])).symm)) (aO (T.os 1 3 0 (((List.replicate k false++ [false]).map (Qk true)).length)) rfl (VRunO.nil (vinB.n (tn (VRun.region ?_)))))))))))
  refine mO (tN k) rfl (fO (QA (tv (tN k) rfl) (VEv.int .i64 1) (by omega)) (aO (tN (k+1)) rfl (VRunO.nil (tn ?_))))
  have he2:(List.replicate k false++ [false])=List.replicate (k+1) false:=by rw [List.replicate_succ']
  refine ⟨(k+1:Nat),?_,?_,Wk.mk (fun k=>if k=1 then 3 else k) ?_ ?_ ?_⟩
  ·trivial
  ·omega
  ·exact (b2 (b2 (b2 (bc ⟨(congrArg (fun l_=>T.os 1 3 0 (List.map (Qk true) l_).length) he2),rfl⟩ (b2 bn)))))
  ·exact (b3 (bc ⟨(congrArg (fun l_=>some (Obj.rows 1 (List.map (Qk true) l_))) he2),(lb rfl),rfl⟩ bn))
  ·exact nd rfl
 refine VRun.exit (vthn.e (vthn.e (vinB.e (tn (sq (sr (fO (OF.assign (VEv.int .i64 0)) (nt (VRun.block ?_)))))))))
 have he3:List.replicate k false=(Ql g 0).2:=by (show List.replicate k false=List.replicate g.Cells.size false;rw [show k=g.Cells.size by omega])
 refine VRun.loop (A:=Nat) (fun s_=> [(1,(T.op 0 0)),(2,(tN 0)),(3,(tN ((Ql g s_).1))),(4,(T.os 1 1 0 ((((Ql g s_).2).map (Qk true)).length))),(6,(tN s_))]) (fun s_=>Q0 [(0,(Obj.cells (Qb false g))),(1,(Obj.rows 1 (((Ql g s_).2).map (Qk true))))]) 2 (fun s_=>s_≤g.Cells.size∧(gridOk g∨s_=0)) (fun s_=>g.Cells.size - s_) (0:Nat) ?_ (Wk.mk (fun k=>k) ?_ ?_ ?_) ?_
 ·exact ⟨Nat.zero_le _, .inr rfl⟩
 ·exact (b2 (b2 (bc ⟨(congrArg (T.int .i64) (show 0=(((Ql g 0).1:Nat):Int) from (by rfl))),rfl⟩ (bc ⟨(congrArg (fun l_=>T.os 1 1 0 (List.map (Qk true) l_).length) he3),rfl⟩ (b2 bn)))))
 ·exact (b3 (bc ⟨(congrArg (fun l_=>some (Obj.rows 1 (List.map (Qk true) l_))) he3),(lb rfl),rfl⟩ bn))
 ·exact nd rfl
 rintro i (hI':i≤g.Cells.size∧(gridOk g∨i=0))
 show VRun _ _ _ [(1,(T.op 0 0)),(2,(tN 0)),(3,(tN ((Ql g i).1))),(4,(T.os 1 1 0 ((((Ql g i).2).map (Qk true)).length))),(6,(tN i))] (Q0 [(0,(Obj.cells (Qb false g))),(1,(Obj.rows 1 (((Ql g i).2).map (Qk true))))]) 2 _
 have hI1:=hI'.1
 have hpl:=YL g i
 have hpn:=Qcu g i
 refine sq (sr (mO (tN i) rfl (lf (tS g.Cells) rfl Qy rfl rfl ZN (lO (B.lenS (tv (tS g.Cells) rfl) U9) (fO (Ze (tv (tN i) rfl) (tv (tN g.Cells.size) rfl)) (mO (tB (decide (i<g.Cells.size))) rfl ?_))))))
 refine VRunO.joinB 3 [27,28] 29 (tB (decide ((i<g.Cells.size)∧(gridOk g)))) ?_ ?_
 ·refine gw (i<g.Cells.size) (fun fhg26_4=> ?_) fun fhg26_4=> ?_
  ·refine gL (dy fhg26_4) rfl rfl (OL.loadOn (us:=(Qb false g)) (tv (T.op 0 0) rfl) rfl QP QN (lb rfl) rfl) ?_
   refine VRunO.chain (VWant.on rfl rfl (dy fhg26_4)) (cS (vc (tv (T.agg (Qb false g)) rfl) vn) (LendL.cons (lg Qq) ln) (Zt (n+0) g (by omega)) rfl rfl) (fO (OF.pickT (VEv.tmpB rfl (dy fhg26_4)) (tv (tB (decide (gridOk g))) rfl)) (VRunO.nil ?_))
   exact jq (congrArg T.bool (kAT fhg26_4 rfl)) (js rfl (js rfl (jn)))
  ·refine Qx 2 5 true 26 (dz fhg26_4) rfl rfl rfl ?_
   refine fO (OF.pickF (VEv.tmpB rfl (dz fhg26_4)) (VEv.bool false)) (VRunO.nil ?_)
   exact jq (congrArg T.bool (kAF fhg26_4)) (js rfl (js rfl (jn)))
 refine nt ?_
 refine cd ((i<g.Cells.size)∧(gridOk g)) rfl (fun fhc1=> ?_) fun fhc1=> ?_
 ·refine sk ?_
  refine tn (sq (VRun.block (sr (lf (tS g.Cells) rfl Qy rfl rfl ZN (mO (tN i) rfl ?_)))))
  have hb5:i<g.Cells.size:=(by omega)
  refine fO (Js (tv (tS g.Cells) rfl) (tv (tN i) rfl) hb5 U9) (fO (YF (tv (T.int .u8 (Qr g.Cells i)) rfl) (VEv.int .u8 46)) (mO (tB (decide (Qr g.Cells i=46))) rfl ?_))
  refine VRunO.joinB 6 [38,39,40,41,42] 43 (tB (decide ((Qr g.Cells i=46)∧((!(((Ql g i).2)[i]?.getD false))=true)))) ?_ ?_
  ·refine gw (Qr g.Cells i=46) (fun fhg37_6=> ?_) fun fhg37_6=> ?_
   ·refine gF (dy fhg37_6) rfl rfl (OF.move (tv (T.os 1 1 0 ((((Ql g i).2).map (Qk true)).length)) rfl)) ?_
    refine gF (dy fhg37_6) rfl rfl (OF.move (tv (tN i) rfl)) ?_
    have hy7:((Ql g i).2)[i]? =some (((Ql g i).2)[i]?.getD false):=Jx false (by omega)
    refine gF (dy fhg37_6) rfl rfl (B.indexAddrO (i:=i) (tv (T.os 1 1 0 ((((Ql g i).2).map (Qk true)).length)) rfl) (tv (tN i) rfl) rfl (by (simp only [List.length_map];omega)) YH sz4 if4) (gL (dy fhg37_6) rfl rfl (OL.loadP1 (t:=(tB (((Ql g i).2)[i]?.getD false))) (row:=(Qk true (((Ql g i).2)[i]?.getD false))) (tv (T.orp 1 1 i 0) rfl) rfl (Qw _ hy7) rfl rfl st4) (gF (dy fhg37_6) rfl rfl (QY (tv (tB (((Ql g i).2)[i]?.getD false)) rfl)) (fO (OF.pickT (VEv.tmpB rfl (dy fhg37_6)) (tv (tB (!(((Ql g i).2)[i]?.getD false))) rfl)) (VRunO.nil ?_))))
    exact jq (congrArg T.bool (kAT fhg37_6 (dT _))) (js rfl (js rfl (js rfl (js rfl (js rfl (jn))))))
   ·refine Qx 5 5 true 37 (dz fhg37_6) rfl rfl rfl ?_
    refine fO (OF.pickF (VEv.tmpB rfl (dz fhg37_6)) (VEv.bool false)) (VRunO.nil ?_)
    exact jq (congrArg T.bool (kAF fhg37_6)) (js rfl (js rfl (js rfl (js rfl (js rfl (jn))))))
  refine nt ?_
  refine cd ((Qr g.Cells i=46)∧((!(((Ql g i).2)[i]?.getD false))=true)) rfl (fun fhc2=> ?_) fun fhc2=> ?_
  ·have q0:QbN g (Ql g i).2 i:=⟨fhc2.1,by simpa [on] using fhc2.2⟩
   have q1:=Qcb q0
   have hgs:=fhc1.2.size
   refine sr (mO (tN ((Ql g i).1)) rfl (fO (QA (tv (tN ((Ql g i).1)) rfl) (VEv.int .i64 1) (by omega)) (aO (tN ((Ql g i).1+1)) rfl (nt (sr (kO (OM.slice0 YH zo4 (by kernel_rfl) rfl (by rw [sz4];decide) sz4) (aO (T.os 1 2 0 0) rfl (nt (sq (sr (fO (OF.assign (VEv.int .i64 0)) ?_)))))))))))
   refine nt (VRun.block ?_)
   have he8: []=((List.replicate 0 false).map (Qk true)):=by rfl
   refine VRun.loop (A:=Nat) (fun s_=> [(1,(T.op 0 0)),(2,(tN 0)),(3,(tN ((Ql g i).1+1))),(4,(T.os 1 1 0 ((((Ql g i).2).map (Qk true)).length))),(6,(tN i)),(7,(T.os 1 2 0 (((List.replicate s_ false).map (Qk true)).length))),(8,(tN s_))]) (fun s_=>Q0 [(0,(Obj.cells (Qb false g))),(1,(Obj.rows 1 (((Ql g i).2).map (Qk true)))),(2,(Obj.rows 1 ((List.replicate s_ false).map (Qk true))))]) 3 (fun s_=>s_≤(Ql g i).2.length) (fun s_=>(Ql g i).2.length - s_) (0:Nat) ?_ (Wk.mk (fun k=>k) ?_ ?_ ?_) ?_
   ·(simp;done)
   ·exact (b2 (b2 (b2 (b2 (b2 (bc ⟨(congrArg (fun n_=>T.os 1 2 0 n_) (show 0=((List.replicate 0 false).map (Qk true)).length from (by rfl))),rfl⟩ (b2 bn)))))))
   ·exact (b3 (b3 (bc ⟨(congrArg (fun l_=>some (Obj.rows 1 l_)) he8),(lb rfl),rfl⟩ bn)))
   ·exact nd rfl
   rintro k1 (hI':k1≤(Ql g i).2.length)
   show VRun _ _ _ [(1,(T.op 0 0)),(2,(tN 0)),(3,(tN ((Ql g i).1+1))),(4,(T.os 1 1 0 ((((Ql g i).2).map (Qk true)).length))),(6,(tN i)),(7,(T.os 1 2 0 (((List.replicate k1 false).map (Qk true)).length))),(8,(tN k1))] (Q0 [(0,(Obj.cells (Qb false g))),(1,(Obj.rows 1 (((Ql g i).2).map (Qk true)))),(2,(Obj.rows 1 ((List.replicate k1 false).map (Qk true))))]) 3 _
   have hK1:=hI'
   refine sq (sr (mO (tN k1) rfl (mO (T.os 1 1 0 ((((Ql g i).2).map (Qk true)).length)) rfl (lO (B.lenO (m:=((Ql g i).2).length) (tv (T.os 1 1 0 ((((Ql g i).2).map (Qk true)).length)) rfl) YH (List.length_map ..)) (fO (Ze (tv (tN k1) rfl) (tv (tN (((Ql g i).2).length)) rfl)) (nt ?_))))))
   refine cd (k1<((Ql g i).2).length) rfl (fun fhc3=> ?_) fun fhc3=> ?_
   ·refine sk ?_
    refine tn (sq (VRun.block (VRun.region (mO (T.os 1 2 0 (((List.replicate k1 false).map (Qk true)).length)) rfl (kO (OM.buildSlice (l:= [(tB false)]) (VEvp.cons (VEv.bool false) VEvp.nil) rfl (by decide) (bc (nofun) bn) (bc ((bc (rfl) bn)) bn) (bc (rfl) bn) YH zo4 (by kernel_rfl) rfl (by rw [sz4];decide) sz4 (Nat.le_of_ble_eq_true rfl)) (cO (B.append (rows:=((List.replicate k1 false).map (Qk true))) (rows2:= [[(tB false)]]) (rows3:=((List.replicate k1 false++ [false]).map (Qk true))) (VDst.own (tv (T.os 1 2 0 (((List.replicate k1 false).map (Qk true)).length)) rfl) rfl rfl) (VSrc.own (tv (T.os 1 3 0 1) rfl) rfl rfl YH (bc (bc rfl bn) bn)) (by decide) YH sz4 (by decide) zo4 rfl (of_decide_eq_true (by kernel_rfl)) (by (simp only [List.length_map,List.length_append,List.length_cons,List.length_nil,List.length_replicate,List.length_set,List.length_drop,List.length_take,YD] at *;omega)) ((List.map_append (f:=Qk true) (l₁:=List.replicate k1 false) (l₂:= [false])).symm)) (aO (T.os 1 4 0 (((List.replicate k1 false++ [false]).map (Qk true)).length)) rfl (VRunO.nil (vinB.n (tn (VRun.region ?_)))))))))))
    refine mO (tN k1) rfl (fO (QA (tv (tN k1) rfl) (VEv.int .i64 1) (by omega)) (aO (tN (k1+1)) rfl (VRunO.nil (tn ?_))))
    have he9:(List.replicate k1 false++ [false])=List.replicate (k1+1) false:=by rw [List.replicate_succ']
    refine ⟨(k1+1:Nat),?_,?_,Wk.mk (fun k=>if k=2 then 4 else k) ?_ ?_ ?_⟩
    ·trivial
    ·omega
    ·exact (b2 (b2 (b2 (b2 (b2 (bc ⟨(congrArg (fun l_=>T.os 1 4 0 (List.map (Qk true) l_).length) he9),rfl⟩ (b2 bn)))))))
    ·exact (b3 (b3 (bc ⟨(congrArg (fun l_=>some (Obj.rows 1 (List.map (Qk true) l_))) he9),(lb rfl),rfl⟩ bn)))
    ·exact nd rfl
   have hk6:k1=g.Cells.size:=by omega
   have hq4:(fresh g i).length=(Ql g i).2.length:=by rw [J4,hpl]
   have hfr:Q8 g ((List.replicate k1 false).set i true)=fresh g i:=by rw [fresh,hk6]
   have hrl:(Q8 g ((List.replicate k1 false).set i true)).length=g.Cells.size:=by rw [hfr,J4]
   refine VRun.exit (vthn.e (vthn.e (vinB.e (tn (sr (lO (OL.loadOn (us:=(Qb false g)) (tv (T.op 0 0) rfl) rfl QP QN (lb rfl) rfl) (mO (T.os 1 2 0 (((List.replicate k1 false).map (Qk true)).length)) rfl (mO (tN i) rfl (cO (OC.callLoan (ts:= [(T.agg (Qb false g)),(T.os 1 0 0 (((List.replicate k1 false).map (Qk true)).length)),(tN i)]) (k:=2) (r:=(T.os 1 0 0 (((Q8 g ((List.replicate k1 false).set i true)).map (Qk true)).length))) (rows:=((List.replicate k1 false).map (Qk true))) (rows':=((Q8 g ((List.replicate k1 false).set i true)).map (Qk true))) rfl (vc (tv (T.agg (Qb false g)) rfl) (vc (tv (T.os 1 2 0 (((List.replicate k1 false).map (Qk true)).length)) rfl) (vc (tv (tN i) rfl) vn))) rfl rfl rfl (LRes.os _ _) rfl (Yl (fun _=>rfl) _) (Yl (fun _=>rfl) _) (Qc9 (n+1) g (List.replicate k1 false) i (by exact fhc1.2) (by (simp only [List.length_replicate];omega)) (by (simp only [List.length_replicate];omega)))) (aO (T.os 1 2 0 (((Q8 g ((List.replicate k1 false).set i true)).map (Qk true)).length)) rfl (nt ?_)))))))))))
   refine sr (fO (OF.assign (VEv.int .i64 0)) (nt (VRun.block ?_)))
   have he10:(Ql g i).2=Zy (Ql g i).2 (fresh g i) 0:=by rfl
   refine VRun.loop (A:=Nat) (fun s_=> [(1,(T.op 0 0)),(2,(tN 0)),(3,(tN ((Ql g i).1+1))),(4,(T.os 1 2 0 (((Zy (Ql g i).2 (fresh g i) s_).map (Qk true)).length))),(6,(tN i)),(7,(T.os 1 1 0 (((Q8 g ((List.replicate k1 false).set i true)).map (Qk true)).length))),(9,(tN s_))]) (fun s_=>Q0 [(0,(Obj.cells (Qb false g))),(1,(Obj.rows 1 ((Q8 g ((List.replicate k1 false).set i true)).map (Qk true)))),(2,(Obj.rows 1 ((Zy (Ql g i).2 (fresh g i) s_).map (Qk true))))]) 3 (fun s_=>s_≤(Ql g i).2.length) (fun s_=>(Ql g i).2.length - s_) (0:Nat) ?_ (Wk.mk (fun k=>if k=1 then 2 else if k=2 then 1 else k) ?_ ?_ ?_) ?_
   ·(simp;done)
   ·exact (b2 (b2 (b2 (bc ⟨(congrArg (fun l_=>T.os 1 1 0 (List.map (Qk true) l_).length) he10),rfl⟩ (b2 (b2 (b2 bn)))))))
   ·exact (b3 (b3 (bc ⟨(congrArg (fun l_=>some (Obj.rows 1 (List.map (Qk true) l_))) he10),(lb rfl),rfl⟩ bn)))
   ·exact nd rfl
   rintro j (hI':j≤(Ql g i).2.length)
   show VRun _ _ _ [(1,(T.op 0 0)),(2,(tN 0)),(3,(tN ((Ql g i).1+1))),(4,(T.os 1 2 0 (((Zy (Ql g i).2 (fresh g i) j).map (Qk true)).length))),(6,(tN i)),(7,(T.os 1 1 0 (((Q8 g ((List.replicate k1 false).set i true)).map (Qk true)).length))),(9,(tN j))] (Q0 [(0,(Obj.cells (Qb false g))),(1,(Obj.rows 1 ((Q8 g ((List.replicate k1 false).set i true)).map (Qk true)))),(2,(Obj.rows 1 ((Zy (Ql g i).2 (fresh g i) j).map (Qk true))))]) 3 _
   have hJ1:=hI'
   have hzl:=QcA hq4 hJ1
   refine sq (sr (mO (tN j) rfl (mO (T.os 1 2 0 (((Zy (Ql g i).2 (fresh g i) j).map (Qk true)).length)) rfl (lO (B.lenO (m:=(Zy (Ql g i).2 (fresh g i) j).length) (tv (T.os 1 2 0 (((Zy (Ql g i).2 (fresh g i) j).map (Qk true)).length)) rfl) YH (List.length_map ..)) (fO (Ze (tv (tN j) rfl) (tv (tN ((Zy (Ql g i).2 (fresh g i) j).length)) rfl)) (nt ?_))))))
   refine cd (j<(Zy (Ql g i).2 (fresh g i) j).length) rfl (fun fhc4=> ?_) fun fhc4=> ?_
   ·refine sk ?_
    refine tn (sq (VRun.block (VRun.region (mO (T.os 1 2 0 (((Zy (Ql g i).2 (fresh g i) j).map (Qk true)).length)) rfl (mO (tN j) rfl (mO (T.os 1 2 0 (((Zy (Ql g i).2 (fresh g i) j).map (Qk true)).length)) rfl (mO (tN j) rfl ?_)))))))
    obtain ⟨x1,hx1⟩:∃x,(Zy (Ql g i).2 (fresh g i) j)[j]? =some x:=⟨_,List.getElem?_eq_getElem (by omega)⟩
    have e3:x1=on (Ql g i).2 j:=Qjh hq4 (by omega) hx1
    refine fO (B.indexAddrO (i:=j) (tv (T.os 1 2 0 (((Zy (Ql g i).2 (fresh g i) j).map (Qk true)).length)) rfl) (tv (tN j) rfl) rfl (by (simp only [List.length_map];omega)) YH sz4 if4) (lO (OL.loadP1 (t:=(tB x1)) (row:=(Qk true x1)) (tv (T.orp 1 2 j 0) rfl) rfl (Qw _ hx1) rfl rfl st4) (mO (tB x1) rfl ?_))
    refine VRunO.joinB 5 [73,74,75,76] 77 (tB (decide ((x1=true)∨(((Q8 g ((List.replicate k1 false).set i true))[j]?.getD false)=true)))) ?_ ?_
    ·refine Qb1 x1 (fun hg72_11=> ?_) (fun hg72_11=> ?_)
     ·have fhg72_11:x1=true:=hg72_11
      refine Qx 4 6 false 72 hg72_11 rfl rfl rfl (fO (OF.pickT (VEv.tmpB rfl hg72_11) (VEv.bool true)) (VRunO.nil ?_))
      exact jq (congrArg T.bool (jOT (dT _) hg72_11)) (js rfl (js rfl (js rfl (js rfl (jn)))))
     ·have fhg72_11:x1=false:=hg72_11
      refine gF hg72_11 rfl rfl (OF.move (tv (T.os 1 1 0 (((Q8 g ((List.replicate k1 false).set i true)).map (Qk true)).length)) rfl)) (gF hg72_11 rfl rfl (OF.move (tv (tN j) rfl)) ?_)
      have hy12:(Q8 g ((List.replicate k1 false).set i true))[j]? =some ((Q8 g ((List.replicate k1 false).set i true))[j]?.getD false):=Jx false (by omega)
      refine gF hg72_11 rfl rfl (B.indexAddrO (i:=j) (tv (T.os 1 1 0 (((Q8 g ((List.replicate k1 false).set i true)).map (Qk true)).length)) rfl) (tv (tN j) rfl) rfl (by (simp only [List.length_map];omega)) YH sz4 if4) (gL hg72_11 rfl rfl (OL.loadP1 (t:=(tB ((Q8 g ((List.replicate k1 false).set i true))[j]?.getD false))) (row:=(Qk true ((Q8 g ((List.replicate k1 false).set i true))[j]?.getD false))) (tv (T.orp 1 1 j 0) rfl) rfl (Qw _ hy12) rfl rfl st4) (fO (OF.pickF (VEv.tmpB rfl hg72_11) (tv (tB ((Q8 g ((List.replicate k1 false).set i true))[j]?.getD false)) rfl)) (VRunO.nil ?_)))
      exact jq (congrArg T.bool (jOF (dT _) hg72_11 (dT _))) (js rfl (js rfl (js rfl (js rfl (jn)))))
    refine fO (B.indexAddrO (i:=j) (tv (T.os 1 2 0 (((Zy (Ql g i).2 (fresh g i) j).map (Qk true)).length)) rfl) (tv (tN j) rfl) rfl (by (simp only [List.length_map];omega)) YH sz4 if4) (cO (B.storeP (us:= [(tB (decide ((x1=true)∨(((Q8 g ((List.replicate k1 false).set i true))[j]?.getD false)=true))))]) (rows':=(((Zy (Ql g i).2 (fresh g i) j).set j (decide ((x1=true)∨(((Q8 g ((List.replicate k1 false).set i true))[j]?.getD false)=true)))).map (Qk true))) (row:=(Qk true x1)) (tv (T.orp 1 2 j 0) rfl) (tv (tB (decide ((x1=true)∨(((Q8 g ((List.replicate k1 false).set i true))[j]?.getD false)=true)))) rfl) nofun rfl (Qw _ hx1) rfl (lb rfl) if4 sz4 (bc rfl bn) (by intro r hr t ht;obtain ⟨x,_,rfl⟩:=List.mem_map.1 hr;rw [Qfg] at ht;exact Yg (okBool.pl _ t ht)) (Yu rfl)) (VRunO.nil (vinB.n (tn (VRun.region (mO (tN j) rfl (fO (QA (tv (tN j) rfl) (VEv.int .i64 1) (by omega)) (aO (tN (j+1)) rfl (VRunO.nil (tn ?_))))))))))
    have he13:((Zy (Ql g i).2 (fresh g i) j).set j (decide ((x1=true)∨(((Q8 g ((List.replicate k1 false).set i true))[j]?.getD false)=true))))=Zy (Ql g i).2 (fresh g i) (j+1):=by (refine Qg9 hq4 (by omega) ?_;rw [e3,hfr];exact orB _ _)
    refine ⟨(j+1:Nat),?_,?_,Wk.mk (fun k=>k) ?_ ?_ ?_⟩
    ·omega
    ·omega
    ·exact (b2 (b2 (b2 (bc ⟨(congrArg (fun n_=>T.os 1 2 0 n_) (show ((Zy (Ql g i).2 (fresh g i) j).map (Qk true)).length=((Zy (Ql g i).2 (fresh g i) (j+1)).map (Qk true)).length from (by (simp only [List.length_map,List.length_set];rw [QcA hq4 hJ1,QcA hq4 (by omega)])))),rfl⟩ (b2 (b2 (b2 bn)))))))
    ·exact (b3 (b3 (bc ⟨(congrArg (fun l_=>some (Obj.rows 1 (List.map (Qk true) l_))) he13),(lb rfl),rfl⟩ bn)))
    ·exact nd rfl
   have hq5:¬j<(Ql g i).2.length:=by omega
   refine VRun.exit (vthn.e (vthn.e (vinB.e (vinB.n (tn (VRun.region (mO (tN i) rfl (fO (QA (tv (tN i) rfl) (VEv.int .i64 1) (by omega)) (aO (tN (i+1)) rfl (VRunO.nil (tn ?_)))))))))))
   have he14:Zy (Ql g i).2 (fresh g i) j=(Ql g (i+1)).2:=by (rw [q1.2];exact Qg1 hq4 hq5)
   refine ⟨(i+1:Nat),?_,?_,Wk.mk (fun k=>if k=1 then 2 else k) ?_ ?_ ?_⟩
   ·exact ⟨by omega, .inl fhc1.2⟩
   ·omega
   ·exact (b2 (b2 (bc ⟨(congrArg (T.int .i64) (show ((((Ql g i).1+1):Nat):Int)=(((Ql g (i+1)).1:Nat):Int) from (by omega))),rfl⟩ (bc ⟨(congrArg (fun l_=>T.os 1 2 0 (List.map (Qk true) l_).length) he14),rfl⟩ (b2 bn)))))
   ·exact (b3 (bc ⟨(congrArg (fun l_=>some (Obj.rows 1 (List.map (Qk true) l_))) he14),(lb rfl),rfl⟩ bn))
   ·exact nd rfl
  have q0:¬QbN g (Ql g i).2 i:=fun h=>fhc2 ⟨h.1,by have:=h.2;unfold on at this;rw [this];rfl⟩
  refine sk (vinB.n (tn (VRun.region (mO (tN i) rfl (fO (QA (tv (tN i) rfl) (VEv.int .i64 1) (by omega)) (aO (tN (i+1)) rfl (VRunO.nil (tn ?_))))))))
  have he15:(Ql g i).2=(Ql g (i+1)).2:=by (rw [Qaw q0];done)
  refine ⟨(i+1:Nat),?_,?_,Wk.mk (fun k=>k) ?_ ?_ ?_⟩
  ·exact ⟨by omega, .inl fhc1.2⟩
  ·omega
  ·exact (b2 (b2 (bc ⟨(congrArg (T.int .i64) (show (((Ql g i).1:Nat):Int)=(((Ql g (i+1)).1:Nat):Int) from (by (rw [Qaw q0];done)))),rfl⟩ (bc ⟨(congrArg (fun l_=>T.os 1 1 0 (List.map (Qk true) l_).length) he15),rfl⟩ (b2 bn)))))
  ·exact (b3 (bc ⟨(congrArg (fun l_=>some (Obj.rows 1 (List.map (Qk true) l_))) he15),(lb rfl),rfl⟩ bn))
  ·exact nd rfl
 refine VRun.exit (vthn.e (vthn.e (vinB.e (tn (sr (mO (tN ((Ql g i).1)) rfl (aO (tN ((Ql g i).1)) rfl (nt (rt (vi (n':=(((Ql g i).1:Nat):Int)) rfl ?_))))))))))
 exact congrArg (fun x:Nat=>(x:Int)) (QeU hI1 hI'.2 fhc1)
end Go.Proofs.YthifchndolccgaaGreatDoor.AE
namespace Go.Proofs.YthifchndolccgaaGreatDoor.AE
open Go Go.RowKit
set_option linter.unusedVariables false
set_option linter.unusedSimpArgs false
set_option maxRecDepth 20000
set_option maxHeartbeats 2000000
noncomputable section
def inG (g:D.Grid) (r c:Int):Prop:=(0≤r∧r<g.Rows)∧(0≤c∧c<g.Cols)
def Zz (g:D.Grid) (r c:Int):Nat:=Int.toNat (r*g.Cols+c)
def Qkt (g:D.Grid) (m:List Bool) (r c:Int):Prop:=inG g r c∧Qr g.Cells (Zz g r c)=46∧on m (Zz g r c)=false
instance (g:D.Grid) (m:List Bool) (r c:Int):Decidable (Qkt g m r c):=Classical.propDecidable _
def Yx : Nat→D.Grid→List Bool→Int→Int→List Bool
 | 0,_,m,_,_=>m
 | d+1,g,m,r,c=>if Qkt g m r c then Yx d g (Yx d g (Yx d g (Yx d g (m.set (Zz g r c) true) (r - 1) c) (r+1) c) r (c - 1)) r (c+1) else m
theorem QbZ {g:D.Grid} {r c:Int} (hg:gridOk g) (h1:0≤r∧r<g.Rows) (h2:0≤c∧c<g.Cols):(0≤r*g.Cols∧r*g.Cols≤36)∧0≤r*g.Cols+c∧r*g.Cols+c<((g.Cells.size:Nat):Int):=by
 have hs:=hg.2.2.1
 have hz:=hg.size
 have e1:0≤r*g.Cols:=Int.mul_nonneg h1.1 (by omega)
 have e2:(r+1)*g.Cols≤g.Rows*g.Cols:=Int.mul_le_mul_of_nonneg_right (by omega) (by omega)
 rw [Int.add_mul,Int.one_mul] at e2
 omega
theorem Yk {g:D.Grid} (hg:gridOk g) (a b:Nat):Zz g ((a:Nat):Int) ((b:Nat):Int)=a*wG g+b:=by
 obtain ⟨w,hw⟩:=Int.eq_ofNat_of_zero_le (show 0≤g.Cols by have:=hg.2.1;omega)
 unfold Zz wG
 rw [hw]
 show Int.toNat (((a:Nat):Int)*((w:Nat):Int)+((b:Nat):Int))=a*w+b
 rw [← Int.natCast_mul,← Int.natCast_add,Int.toNat_natCast]
theorem QiP {g:D.Grid} (hg:gridOk g):g.Cells.size=g.Rows.toNat*wG g:=by
 obtain ⟨⟨a1,a2⟩,⟨b1,b2⟩,hs,_⟩:=hg
 obtain ⟨w,hw⟩:=Int.eq_ofNat_of_zero_le (show 0≤g.Cols by omega)
 obtain ⟨r,hr⟩:=Int.eq_ofNat_of_zero_le (show 0≤g.Rows by omega)
 unfold wG
 rw [hw,hr] at hs ⊢
 exact_mod_cast hs
theorem Qfn {g:D.Grid} {r c:Int} (hg:gridOk g) (h:inG g r c):∃a b:Nat,r=a∧c=b∧a<g.Rows.toNat∧b<wG g:=by
 obtain ⟨⟨h1,h2⟩,h3,h4⟩:=h
 exact ⟨r.toNat,c.toNat,by omega,by omega,by omega,by unfold wG;omega⟩
theorem Qk9 {g:D.Grid} {r c r' c':Int} (hg:gridOk g) (h:inG g r c) (h':inG g r' c') (hn:(r'=r∧(c'=c+1∨c'=c - 1))∨(c'=c∧(r'=r+1∨r'=r - 1))):adj g (Zz g r c) (Zz g r' c'):=by
 obtain ⟨a,b,rfl,rfl,ha,hb⟩:=Qfn hg h
 obtain ⟨a',b',rfl,rfl,ha',hb'⟩:=Qfn hg h'
 rw [Yk hg,Yk hg]
 have hm:(a*wG g+b) % wG g=b:=by rw [Nat.mul_comm,Nat.mul_add_mod,Nat.mod_eq_of_lt hb]
 have hm':(a'*wG g+b') % wG g=b':=by rw [Nat.mul_comm,Nat.mul_add_mod,Nat.mod_eq_of_lt hb']
 rcases hn with ⟨h1,h2 | h2⟩ | ⟨h1,h2 | h2⟩
 ·obtain rfl:a'=a:=by omega
  exact .inl ⟨by omega,by rw [hm];omega⟩
 ·obtain rfl:a'=a:=by omega
  exact .inr (.inl ⟨by omega,by rw [hm'];omega⟩)
 ·obtain rfl:b'=b:=by omega
  obtain rfl:a'=a+1:=by omega
  exact .inr (.inr (.inl (by rw [Nat.add_mul,Nat.one_mul];omega)))
 ·obtain rfl:b'=b:=by omega
  obtain rfl:a=a'+1:=by omega
  exact .inr (.inr (.inr (by rw [Nat.add_mul,Nat.one_mul];omega)))
theorem Qiz {g:D.Grid} {r c:Int} {y:Nat} (hg:gridOk g) (h:inG g r c) (hy:y<g.Cells.size) (ha:adj g (Zz g r c) y) :
  (inG g (r - 1) c∧y=Zz g (r - 1) c)∨(inG g (r+1) c∧y=Zz g (r+1) c)∨(inG g r (c - 1)∧y=Zz g r (c - 1))∨(inG g r (c+1)∧y=Zz g r (c+1)):=by
 have hsz:=QiP hg
 obtain ⟨⟨h1,h2⟩,h3,h4⟩:=h
 obtain ⟨a,b,rfl,rfl,ha',hb⟩:=Qfn hg ⟨⟨h1,h2⟩,h3,h4⟩
 rw [Yk hg] at ha
 have hm:(a*wG g+b) % wG g=b:=by rw [Nat.mul_comm,Nat.mul_add_mod,Nat.mod_eq_of_lt hb]
 have hw:((wG g:Nat):Int)=g.Cols:=by have:=hg.2.1;unfold wG;omega
 rcases ha with ⟨e1,e2⟩ | ⟨e1,e2⟩ | e1 | e1
 ·rw [hm] at e2
  refine .inr (.inr (.inr ⟨⟨⟨h1,h2⟩,by omega,by omega⟩,?_⟩))
  rw [show ((b:Nat):Int)+1=((b+1:Nat):Int) by omega,Yk hg];omega
 ·have hb1:1≤b:=by
   rcases Nat.eq_zero_or_pos b with h0 | h0
   ·subst h0
    exfalso
    have ha0:0<a:=by
     rcases Nat.eq_zero_or_pos a with g0 | g0
     ·subst g0;omega
     ·exact g0
    obtain ⟨a1,rfl⟩:∃a1,a=a1+1:=⟨a - 1,by omega⟩
    have e3:y=a1*wG g+(wG g - 1):=by rw [Nat.add_mul,Nat.one_mul] at e1;omega
    rw [e3,Nat.mul_comm,Nat.mul_add_mod,Nat.mod_eq_of_lt (by omega)] at e2
    omega
   ·exact h0
  refine .inr (.inr (.inl ⟨⟨⟨h1,h2⟩,by omega,by omega⟩,?_⟩))
  rw [show ((b:Nat):Int) - 1=((b - 1:Nat):Int) by omega,Yk hg];omega
 ·have ha1:a+1<g.Rows.toNat:=by
   rcases Nat.lt_or_ge (a+1) g.Rows.toNat with g0 | g0
   ·exact g0
   ·have e4:g.Rows.toNat=a+1:=by omega
    rw [e4,Nat.add_mul,Nat.one_mul] at hsz
    omega
  refine .inr (.inl ⟨⟨⟨by omega,by omega⟩,h3,h4⟩,?_⟩)
  rw [show ((a:Nat):Int)+1=((a+1:Nat):Int) by omega,Yk hg,Nat.add_mul,Nat.one_mul];omega
 ·have ha0:0<a:=by
   rcases Nat.eq_zero_or_pos a with g0 | g0
   ·subst g0;omega
   ·exact g0
  obtain ⟨a1,rfl⟩:∃a1,a=a1+1:=⟨a - 1,by omega⟩
  refine .inl ⟨⟨⟨by omega,by omega⟩,h3,h4⟩,?_⟩
  rw [show ((a1+1:Nat):Int) - 1=((a1:Nat):Int) by omega,Yk hg]
  rw [Nat.add_mul,Nat.one_mul] at e1;omega
theorem QaH {g:D.Grid} {r c:Int} (hg:gridOk g) (h:inG g r c):Zz g r c<g.Cells.size:=by
 have:=QbZ hg h.1 h.2
 unfold Zz
 omega
theorem Zw (g:D.Grid):∀d m r c,(Yx d g m r c).length=m.length
 | 0,m,r,c=>rfl
 | d+1,m,r,c=>by
  rw [Yx]
  split
  ·rw [Zw g d,Zw g d,Zw g d,Zw g d,List.length_set]
  ·rfl
theorem ZI {g:D.Grid} {j:Nat}:∀d m r c,on m j=true→on (Yx d g m r c) j=true
 | 0,m,r,c,h=>h
 | d+1,m,r,c,h=>by
  rw [Yx]
  split
  ·refine ZI d _ _ _ (ZI d _ _ _ (ZI d _ _ _ (ZI d _ _ _ ?_)))
   have hlt:=QjE h
   unfold on at h ⊢
   rw [List.getElem?_set]
   split
   ·rename_i e
    subst e
    rw [if_pos hlt];rfl
   ·exact h
  ·exact h
theorem QfG {s:List Bool} {i:Nat}:(s.set i true).count false≤s.count false:=by
 rcases Nat.lt_or_ge i s.length with h | h
 ·rw [List.count_set h];simp
 ·rw [List.set_eq_of_length_le h];exact Nat.le_refl _
theorem YR (g:D.Grid):∀d m r c,(Yx d g m r c).count false≤m.count false
 | 0,m,r,c=>Nat.le_refl _
 | d+1,m,r,c=>by
  rw [Yx]
  split
  ·exact Nat.le_trans (YR g d _ _ _) (Nat.le_trans (YR g d _ _ _) (Nat.le_trans (YR g d _ _ _) (Nat.le_trans (YR g d _ _ _) QfG)))
  ·exact Nat.le_refl _
theorem JZ {g:D.Grid} (hg:gridOk g) {P:Nat→Prop} (hP:∀i j,P i→adj g i j→j<g.Cells.size→Qr g.Cells j=46→P j):∀d m r c,m.length=g.Cells.size→(inG g r c→Qr g.Cells (Zz g r c)=46→P (Zz g r c))→∀j,on (Yx d g m r c) j=true→on m j=true∨P j
 | 0,m,r,c,_,_,j,hj=> .inl hj
 | d+1,m,r,c,hl,h,j,hj=>by
  rw [Yx] at hj
  split at hj
  ·rename_i hgo
   obtain ⟨g1,g2,g3⟩:=hgo
   have hv:=h g1 g2
   have nb:∀r' c',((r'=r∧(c'=c+1∨c'=c - 1))∨(c'=c∧(r'=r+1∨r'=r - 1)))→inG g r' c'→Qr g.Cells (Zz g r' c')=46→P (Zz g r' c'):=fun r' c' hn hi hw=>hP _ _ hv (Qk9 hg g1 hi hn) (QaH hg hi) hw
   have l1:(m.set (Zz g r c) true).length=g.Cells.size:=by rw [List.length_set,hl]
   rcases JZ hg hP d _ _ _ (by rw [Zw,Zw,Zw,l1]) (nb r (c+1) (.inl ⟨rfl, .inl rfl⟩)) j hj with hj | hj
   ·rcases JZ hg hP d _ _ _ (by rw [Zw,Zw,l1]) (nb r (c - 1) (.inl ⟨rfl, .inr rfl⟩)) j hj with hj | hj
    ·rcases JZ hg hP d _ _ _ (by rw [Zw,l1]) (nb (r+1) c (.inr ⟨rfl, .inl rfl⟩)) j hj with hj | hj
     ·rcases JZ hg hP d _ _ _ l1 (nb (r - 1) c (.inr ⟨rfl, .inr rfl⟩)) j hj with hj | hj
      ·rw [Qb9 (by rw [hl];exact QaH hg g1)] at hj
       split at hj
       ·rename_i e
        rw [e];exact .inr hv
       ·exact .inl hj
      ·exact .inr hj
     ·exact .inr hj
    ·exact .inr hj
   ·exact .inr hj
  ·exact .inl hj
theorem Qdt {g:D.Grid} (hg:gridOk g) {d:Nat} {m:List Bool} {r c:Int} (hl:m.length=g.Cells.size) (hc:m.count false<d) (hi:inG g r c) (hw:Qr g.Cells (Zz g r c)=46):on (Yx d g m r c) (Zz g r c)=true:=by
 cases d with
 | zero=>omega
 | succ d =>
  rw [Yx]
  split
  ·refine ZI d _ _ _ (ZI d _ _ _ (ZI d _ _ _ (ZI d _ _ _ ?_)))
   rw [Qb9 (by rw [hl];exact QaH hg hi),if_pos rfl]
  ·rename_i hn
   cases ho:on m (Zz g r c) with
   | true=>rfl
   | false=>exact absurd ⟨hi,hw,ho⟩ hn
theorem Qdy {g:D.Grid} (hg:gridOk g):∀d m r c,m.length=g.Cells.size→m.count false<d→∀x y,on (Yx d g m r c) x=true→¬on m x=true→adj g x y→y<g.Cells.size→Qr g.Cells y=46→on (Yx d g m r c) y=true
 | 0,m,r,c,_,hc,x,y,_,_,_,_,_=>by omega
 | d+1,m,r,c,hl,hc,x,y,hx,hnx,ha,hy,hw=>by
  rw [Yx] at hx ⊢
  by_cases hgo:Qkt g m r c
  ·rw [if_pos hgo] at hx ⊢
   obtain ⟨g1,g2,g3⟩:=hgo
   have hcl:=QaH hg g1
   have l1:(m.set (Zz g r c) true).length=g.Cells.size:=by rw [List.length_set,hl]
   have c1:(m.set (Zz g r c) true).count false<d:=by
    have:=QcD (by rw [hl];exact hcl) g3
    omega
   generalize hm1:m.set (Zz g r c) true=m1 at *
   have c2:=YR g d m1 (r - 1) c
   have l2:=Zw g d m1 (r - 1) c
   generalize hm2:Yx d g m1 (r - 1) c=m2 at *
   have c3:=YR g d m2 (r+1) c
   have l3:=Zw g d m2 (r+1) c
   generalize hm3:Yx d g m2 (r+1) c=m3 at *
   have c4:=YR g d m3 r (c - 1)
   have l4:=Zw g d m3 r (c - 1)
   generalize hm4:Yx d g m3 r (c - 1)=m4 at *
   have up4:∀j,on m4 j=true→on (Yx d g m4 r (c+1)) j=true:=fun j h=>ZI d _ _ _ h
   have up3:∀j,on m3 j=true→on m4 j=true:=fun j h=>hm4▸ZI d _ _ _ h
   have up2:∀j,on m2 j=true→on m3 j=true:=fun j h=>hm3▸ZI d _ _ _ h
   by_cases h4:on m4 x=true
   ·by_cases h3:on m3 x=true
    ·by_cases h2:on m2 x=true
     ·by_cases h1:on m1 x=true
      ·have hxv:x=Zz g r c:=by
        rw [← hm1,Qb9 (by rw [hl];exact hcl)] at h1
        split at h1
        ·assumption
        ·exact absurd h1 hnx
       subst hxv
       rcases Qiz hg g1 hy ha with ⟨k1,rfl⟩ | ⟨k1,rfl⟩ | ⟨k1,rfl⟩ | ⟨k1,rfl⟩
       ·exact up4 _ (up3 _ (up2 _ (hm2▸Qdt hg l1 c1 k1 hw)))
       ·exact up4 _ (up3 _ (hm3▸Qdt hg (by omega) (by omega) k1 hw))
       ·exact up4 _ (hm4▸Qdt hg (by omega) (by omega) k1 hw)
       ·exact Qdt hg (by omega) (by omega) k1 hw
      ·exact up4 _ (up3 _ (up2 _ (hm2▸Qdy hg d m1 (r - 1) c l1 c1 x y (hm2▸h2) h1 ha hy hw)))
     ·exact up4 _ (up3 _ (hm3▸Qdy hg d m2 (r+1) c (by omega) (by omega) x y (hm3▸h3) h2 ha hy hw))
    ·exact up4 _ (hm4▸Qdy hg d m3 r (c - 1) (by omega) (by omega) x y (hm4▸h4) h3 ha hy hw)
   ·exact Qdy hg d m4 r (c+1) (by omega) (by omega) x y hx h4 ha hy hw
  ·rw [if_neg hgo] at hx
   exact absurd hx hnx
def Qhu (g:D.Grid) (s:List Bool):Prop:=∀x y,on s x=true→adj g x y→y<g.Cells.size→Qr g.Cells y=46→on s y=true
theorem QiM (n j:Nat):on (List.replicate n false) j=false:=by
 unfold on
 rw [List.getElem?_replicate]
 split<;>rfl
theorem Qgj {g:D.Grid} {i j:Nat} (hi:i<g.Cells.size):on ((List.replicate g.Cells.size false).set i true) j=true↔j=i:=by
 rw [Qb9 (by simpa using hi),QiM]
 split<;>simp [*]
theorem Qa6 {g:D.Grid}:∀i,i≤g.Cells.size→Qhu g (Ql g i).2
 | 0,_=>fun x y hx=>by rw [Ql,QiM] at hx;cases hx
 | i+1,hi=>by
  have ih:=Qa6 (g:=g) i (by omega)
  by_cases hn:QbN g (Ql g i).2 i
  ·rw [(Qcb hn).2]
   intro x y hx ha hy hw
   have hl:(fresh g i).length=(Ql g i).2.length:=by rw [J4,YL]
   rw [Qg3 hl,Bool.or_eq_true] at hx ⊢
   rcases hx with hx | hx
   ·exact .inl (ih x y hx ha hy hw)
   ·exact .inr (on_reachL.2 (.step (on_reachL.1 hx) ha (by simpa using hy) hw))
  ·rw [Qaw hn];exact ih
theorem Qj4 {g:D.Grid} (hg:gridOk g) {d i:Nat} {m:List Bool} (hl:m.length=g.Cells.size) (hi:i<g.Cells.size) (hc:m.count false<d) (hcl:Qhu g m) (hw:Qr g.Cells i=46) :
  Yx d g m ((i / wG g:Nat):Int) ((i % wG g:Nat):Int)=Qen m (fresh g i):=by
 have hlf:(fresh g i).length=m.length:=by rw [J4,hl]
 have hci:Zz g ((i / wG g:Nat):Int) ((i % wG g:Nat):Int)=i:=by
  rw [Yk hg,Nat.mul_comm];exact Nat.div_add_mod i _
 obtain ⟨⟨q1,q2⟩,_⟩:=QaR hg hi
 have hin:inG g ((i / wG g:Nat):Int) ((i % wG g:Nat):Int):=by
  have hA:=hg.1
  have hB:=hg.2.1
  unfold wG
  generalize i / g.Cols.toNat=q at *
  generalize i % g.Cols.toNat=m' at *
  exact ⟨⟨by omega,by omega⟩,by omega,by omega⟩
 refine QjP (by rw [Zw,Jq hlf]) fun j=> ?_
 rw [Qg3 hlf,Bool.or_eq_true]
 constructor
 ·intro hj
  rcases JZ hg (P:=fun j=>Rch g ((List.replicate g.Cells.size false).set i true) j) (fun a b h ha hb hw=> .step h ha (by simpa using hb) hw) d m _ _ hl (fun _ _=>by rw [hci];exact .base ((Qgj hi).2 rfl)) j hj with h | h
  ·exact .inl h
  ·exact .inr (on_reachL.2 h)
 ·rintro (hj | hj)
  ·exact ZI d _ _ _ hj
  ·have hr:=on_reachL.1 hj
   clear hj
   induction hr with
   | base h =>
    obtain rfl:=(Qgj hi).1 h
    have:=Qdt hg hl hc hin (by rw [hci];exact hw)
    rwa [hci] at this
   | step h ha hb hw2 ih =>
    rename_i a b
    have hb':b<g.Cells.size:=by simpa using hb
    by_cases hma:on m a=true
    ·exact ZI d _ _ _ (hcl a b hma ha hb' hw2)
    ·exact Qdy hg d m _ _ hl hc a b ih hma ha hb' hw2
end
theorem Qcg (n:Nat) (nn:Nat) (g:D.Grid):∀(d:Nat) (met:List Bool) (r:Int) (c:Int) (hg:gridOk g) (hn:nn=g.Cells.size) (hl:met.length=nn) (hr: -1≤r∧r≤6) (hc: -1≤c∧c≤6) (hu:met.count false<d),Loan (Qo Tryz.prog (n+d+1)) 136 1 (List.map (Qk true) met) [(tI r),(tI c),(T.rp (Qb false g)),(T.vp [(T.os 1 0 0 nn)]),(vtT 136 (T.rp (Qb false g)) (T.vp [(T.os 1 0 0 nn)]) d)] (T.tup []) (List.map (Qk true) (Yx d g met r c)):=by
 intro d
 induction d with
 | zero=>intro met r c hg hn hl hr hc hu;exact absurd hu (Nat.not_lt_zero _)
 | succ d ih =>
 intro met r c hg hn hl hr hc hu
 refine Loan.intro (n:=n+d+1) (rs:= []) (j:=3) (pin:=(T.vp [(T.os 1 0 0 nn)])) Tryz.func136 rfl rfl rfl (by kernel_rfl) rfl (.vp _ _) .none (Yl (fun _=>rfl) _) (Yl (fun _=>rfl) _) (E0:= [(0,(tI r)),(1,(tI c)),(2,(T.rp (Qb false g))),(3,(T.vp [(T.os 1 0 0 nn)])),(4,(vtT 136 (T.rp (Qb false g)) (T.vp [(T.os 1 0 0 nn)]) (d+1)))]) rfl ?_
 obtain ⟨hlim,hmx,hmax⟩:=QF
 have hsz:=hg.size
 have hA:=hg.1
 have hB:=hg.2.1
 refine sq (sr (mO (tI r) rfl (lr (tI g.Rows) rfl (lb rfl) JG rfl QV (cO (cS (vc (tv (tI r) rfl) (vc (tv (tI g.Rows) rfl) vn)) (ZQ rfl) (YI (n+d+0) r g.Rows) rfl rfl) (fO (QY (tv (tB (decide (0≤r∧r<g.Rows))) rfl)) (mO (tB (!(decide (0≤r∧r<g.Rows)))) rfl ?_))))))
 refine VRunO.joinB 6 [13,14,15,16,17] 18 (tB (decide ((¬(0≤r∧r<g.Rows))∨(¬(0≤c∧c<g.Cols))))) ?_ ?_
 ·refine gn (0≤r∧r<g.Rows) (fun fhg12_1=> ?_) fun fhg12_1=> ?_
  ·refine Qx 5 5 false 12 (ny fhg12_1) rfl rfl rfl ?_
   refine fO (OF.pickT (VEv.tmpB rfl (ny fhg12_1)) (VEv.bool true)) (VRunO.nil ?_)
   exact jq (congrArg T.bool (kOT fhg12_1)) (js rfl (js rfl (js rfl (js rfl (js rfl (jn))))))
  ·refine gF (nz fhg12_1) rfl rfl (OF.move (tv (tI c) rfl)) ?_
   refine glr (tI g.Cols) (nz fhg12_1) rfl rfl rfl rfl (lb rfl) Za rfl QV (VRunO.chain (VWant.on rfl rfl (nz fhg12_1)) (cS (vc (tv (tI c) rfl) (vc (tv (tI g.Cols) rfl) vn)) (ZQ rfl) (YI (n+d+0) c g.Cols) rfl rfl) (gF (nz fhg12_1) rfl rfl (QY (tv (tB (decide (0≤c∧c<g.Cols))) rfl)) (fO (OF.pickF (VEv.tmpB rfl (nz fhg12_1)) (tv (tB (!(decide (0≤c∧c<g.Cols)))) rfl)) (VRunO.nil ?_))))
   exact jq (congrArg T.bool (kOF (not_not_intro fhg12_1) dN)) (js rfl (js rfl (js rfl (js rfl (js rfl (jn))))))
 refine mO (tB (decide ((¬(0≤r∧r<g.Rows))∨(¬(0≤c∧c<g.Cols))))) rfl ?_
 refine VRunO.joinB 10 [20,21,22,23,24,25,26,27,28] 29 (tB (decide (((¬(0≤r∧r<g.Rows))∨(¬(0≤c∧c<g.Cols)))∨((met[(Int.toNat ((r*g.Cols)+c))]?.getD false)=true)))) ?_ ?_
 ·refine gw ((¬(0≤r∧r<g.Rows))∨(¬(0≤c∧c<g.Cols))) (fun fhg19_2=> ?_) fun fhg19_2=> ?_
  ·refine Qx 9 12 false 19 (dy fhg19_2) rfl rfl rfl ?_
   refine fO (OF.pickT (VEv.tmpB rfl (dy fhg19_2)) (VEv.bool true)) (VRunO.nil ?_)
   exact jq (congrArg T.bool (kOT fhg19_2)) (js rfl (js rfl (js rfl (js rfl (js rfl (js rfl (js rfl (js rfl (js rfl (jn))))))))))
  ·have hz:=QbZ hg (r:=r) (c:=c) (by omega) (by omega)
   refine gL (dz fhg19_2) rfl rfl (OL.loadV1 (t:=(T.os 1 0 0 nn)) (tv (T.vp [(T.os 1 0 0 nn)]) rfl) rfl QiS) (gF (dz fhg19_2) rfl rfl (OF.move (tv (tI r) rfl)) (glr (tI g.Cols) (dz fhg19_2) rfl rfl rfl rfl (lb rfl) Za rfl QV (gF (dz fhg19_2) rfl rfl (B.mul (n:=(r*g.Cols)) (tv (tI r) rfl) (tv (tI g.Cols) rfl) (by (rw [Qs (by omega)];done))) (gF (dz fhg19_2) rfl rfl (OF.move (tv (tI c) rfl)) (gF (dz fhg19_2) rfl rfl (B.add (n:=((r*g.Cols)+c)) (tv (tI (r*g.Cols)) rfl) (tv (tI c) rfl) (by (rw [Qs (by omega)];done))) ?_)))))
   have hy3:met[(Int.toNat ((r*g.Cols)+c))]? =some (met[(Int.toNat ((r*g.Cols)+c))]?.getD false):=Jx false (by omega)
   refine gF (dz fhg19_2) rfl rfl (B.indexAddrO (i:=(Int.toNat ((r*g.Cols)+c))) (tv (T.os 1 0 0 nn) rfl) (tv (tI ((r*g.Cols)+c)) rfl) (by omega) (by omega) YH sz4 if4) (gL (dz fhg19_2) rfl rfl (OL.loadP1 (t:=(tB (met[(Int.toNat ((r*g.Cols)+c))]?.getD false))) (row:=(Qk true (met[(Int.toNat ((r*g.Cols)+c))]?.getD false))) (tv (T.orp 1 0 (Int.toNat ((r*g.Cols)+c)) 0) rfl) rfl (Qw _ hy3) rfl rfl st4) (fO (OF.pickF (VEv.tmpB rfl (dz fhg19_2)) (tv (tB (met[(Int.toNat ((r*g.Cols)+c))]?.getD false)) rfl)) (VRunO.nil ?_)))
   exact jq (congrArg T.bool (kOF fhg19_2 (dT _))) (js rfl (js rfl (js rfl (js rfl (js rfl (js rfl (js rfl (js rfl (js rfl (jn))))))))))
 refine mO (tB (decide (((¬(0≤r∧r<g.Rows))∨(¬(0≤c∧c<g.Cols)))∨((met[(Int.toNat ((r*g.Cols)+c))]?.getD false)=true)))) rfl ?_
 refine VRunO.joinB 11 [31,32,33,34,35,36,37,38,39,40] 41 (tB (decide ((((¬(0≤r∧r<g.Rows))∨(¬(0≤c∧c<g.Cols)))∨((met[(Int.toNat ((r*g.Cols)+c))]?.getD false)=true))∨(¬(Qr g.Cells (Int.toNat ((r*g.Cols)+c))=46))))) ?_ ?_
 ·refine gw (((¬(0≤r∧r<g.Rows))∨(¬(0≤c∧c<g.Cols)))∨((met[(Int.toNat ((r*g.Cols)+c))]?.getD false)=true)) (fun fhg30_4=> ?_) fun fhg30_4=> ?_
  ·refine Qx 10 23 false 30 (dy fhg30_4) rfl rfl rfl ?_
   refine fO (OF.pickT (VEv.tmpB rfl (dy fhg30_4)) (VEv.bool true)) (VRunO.nil ?_)
   exact jq (congrArg T.bool (kOT fhg30_4)) (js rfl (js rfl (js rfl (js rfl (js rfl (js rfl (js rfl (js rfl (js rfl (js rfl (jn)))))))))))
  ·have hz:=QbZ hg (r:=r) (c:=c) (by omega) (by omega)
   refine glr (tS g.Cells) (dz fhg30_4) rfl rfl rfl rfl (lb rfl) Qy rfl ZN (gF (dz fhg30_4) rfl rfl (OF.move (tv (tI r) rfl)) (glr (tI g.Cols) (dz fhg30_4) rfl rfl rfl rfl (lb rfl) Za rfl QV (gF (dz fhg30_4) rfl rfl (B.mul (n:=(r*g.Cols)) (tv (tI r) rfl) (tv (tI g.Cols) rfl) (by (rw [Qs (by omega)];done))) (gF (dz fhg30_4) rfl rfl (OF.move (tv (tI c) rfl)) (gF (dz fhg30_4) rfl rfl (B.add (n:=((r*g.Cols)+c)) (tv (tI (r*g.Cols)) rfl) (tv (tI c) rfl) (by (rw [Qs (by omega)];done))) ?_)))))
   have hb5:(Int.toNat ((r*g.Cols)+c))<g.Cells.size:=(by omega)
   refine gF (dz fhg30_4) rfl rfl (B.index (n:=(Qr g.Cells (Int.toNat ((r*g.Cols)+c)))) (i:=(Int.toNat ((r*g.Cols)+c))) (tv (tS g.Cells) rfl) (tv (tI ((r*g.Cols)+c)) rfl) (by omega) hb5 U9 (Yd hb5)) (gF (dz fhg30_4) rfl rfl (xne (tv (T.int .u8 (Qr g.Cells (Int.toNat ((r*g.Cols)+c)))) rfl) (VEv.int .u8 46)) (fO (OF.pickF (VEv.tmpB rfl (dz fhg30_4)) (tv (tB (!(decide (Qr g.Cells (Int.toNat ((r*g.Cols)+c))=46)))) rfl)) (VRunO.nil ?_)))
   exact jq (congrArg T.bool (kOF fhg30_4 dN)) (js rfl (js rfl (js rfl (js rfl (js rfl (js rfl (js rfl (js rfl (js rfl (js rfl (jn)))))))))))
 refine nt ?_
 refine cd ((((¬(0≤r∧r<g.Rows))∨(¬(0≤c∧c<g.Cols)))∨((met[(Int.toNat ((r*g.Cols)+c))]?.getD false)=true))∨(¬(Qr g.Cells (Int.toNat ((r*g.Cols)+c))=46))) rfl (fun fhc0=> ?_) fun fhc0=> ?_
 ·refine rt ?_
  refine tr ?_
  have hnew:met=Yx (d+1) g met r c:=by
   rw [Yx,if_neg];rintro ⟨h1,h2,h3⟩;rcases fhc0 with (h | h) | h;exact h.elim (fun h=>h h1.1) (fun h=>h h1.2);exact on_no.1 h3 h;exact h h2
  exact vloan.r 0 VRes.nil rfl rfl rfl (congrArg (List.map (Qk true)) hnew)
 have hz:=QbZ hg (r:=r) (c:=c) (by omega) (by omega)
 have hin:inG g r c:=⟨by omega,by omega⟩
 have hgo:Qkt g met r c:=⟨hin,by unfold Zz;omega,on_no.2 (fun h=>fhc0 (.inl (.inr h)))⟩
 have hct:=QcD (s:=met) (i:=Zz g r c) (by rw [hl,hn];exact QaH hg hin) hgo.2.2
 unfold Zz at hct
 have d1:=YR g d (met.set (Int.toNat (r*g.Cols+c)) true) (r - 1) c
 have d2:=YR g d (Yx d g (met.set (Int.toNat (r*g.Cols+c)) true) (r - 1) c) (r+1) c
 have d3:=YR g d (Yx d g (Yx d g (met.set (Int.toNat (r*g.Cols+c)) true) (r - 1) c) (r+1) c) r (c - 1)
 refine sk (tn (sr (lO (OL.loadV1 (t:=(T.os 1 0 0 nn)) (tv (T.vp [(T.os 1 0 0 nn)]) rfl) rfl QiS) (mO (tI r) rfl (lr (tI g.Cols) rfl (lb rfl) Za rfl QV (fO (B.mul (n:=(r*g.Cols)) (tv (tI r) rfl) (tv (tI g.Cols) rfl) (by (rw [Qs (by omega)];done))) (mO (tI c) rfl (fO (B.add (n:=((r*g.Cols)+c)) (tv (tI (r*g.Cols)) rfl) (tv (tI c) rfl) (by (rw [Qs (by omega)];done))) ?_))))))))
 obtain ⟨x1,hx1⟩:∃x,met[(Int.toNat ((r*g.Cols)+c))]? =some x:=⟨_,List.getElem?_eq_getElem (by omega)⟩
 refine fO (B.indexAddrO (i:=(Int.toNat ((r*g.Cols)+c))) (tv (T.os 1 0 0 nn) rfl) (tv (tI ((r*g.Cols)+c)) rfl) (by omega) (by omega) YH sz4 if4) (cO (B.storeP (us:= [(tB true)]) (rows':=((met.set (Int.toNat ((r*g.Cols)+c)) true).map (Qk true))) (row:=(Qk true x1)) (tv (T.orp 1 0 (Int.toNat ((r*g.Cols)+c)) 0) rfl) (VEv.bool true) nofun rfl (Qw _ hx1) rfl (lb rfl) if4 sz4 (bc rfl bn) (by intro r hr t ht;obtain ⟨x,_,rfl⟩:=List.mem_map.1 hr;rw [Qfg] at ht;exact Yg (okBool.pl _ t ht)) (Yu rfl)) (nt (sr (lO (OL.loadV1 (t:=(T.fn 136 [(T.rp (Qb false g)),(T.vp [(T.os 1 0 0 nn)]),(vtT 136 (T.rp (Qb false g)) (T.vp [(T.os 1 0 0 nn)]) d)])) (tv (vtT 136 (T.rp (Qb false g)) (T.vp [(T.os 1 0 0 nn)]) (d+1)) rfl) rfl Qgn) (mO (tI r) rfl (fO (B.sub (n:=(r - 1)) (tv (tI r) rfl) (VEv.int .i64 1) (by (rw [Qs (by omega)];done))) (mO (tI c) rfl (cO (OC.callvLoan (ts:= [(tI (r - 1)),(tI c),(T.rp (Qb false g)),(T.vp [(T.os 1 0 0 nn)]),(vtT 136 (T.rp (Qb false g)) (T.vp [(T.os 1 0 0 nn)]) d)]) (k:=0) (r:=(T.tup [])) (rows:=((met.set (Int.toNat ((r*g.Cols)+c)) true).map (Qk true))) (rows':=((Yx d g (met.set (Int.toNat ((r*g.Cols)+c)) true) (r - 1) c).map (Qk true))) rfl rfl (vc (tv (tI (r - 1)) rfl) (vc (tv (tI c) rfl) vn)) rfl (by simp only [Qal,ren,QaL,List.cons_append,List.nil_append]) (tl rfl (tl rfl (tl rfl (tl rfl (tl (QcF rfl rfl _) rfl))))) LRes.none rfl (Yl (fun _=>rfl) _) (Yl (fun _=>rfl) _) (ih (met.set (Int.toNat ((r*g.Cols)+c)) true) (r - 1) c (by assumption) (by assumption) (by (simp only [Zw,List.length_set];omega)) (by omega) (by assumption) (by omega))) (nt (sr (lO (OL.loadV1 (t:=(T.fn 136 [(T.rp (Qb false g)),(T.vp [(T.os 1 0 0 nn)]),(vtT 136 (T.rp (Qb false g)) (T.vp [(T.os 1 0 0 nn)]) d)])) (tv (vtT 136 (T.rp (Qb false g)) (T.vp [(T.os 1 0 0 nn)]) (d+1)) rfl) rfl Qgn) ?_)))))))))))
 refine mO (tI r) rfl (fO (B.add (n:=(r+1)) (tv (tI r) rfl) (VEv.int .i64 1) (by (rw [Qs (by omega)];done))) (mO (tI c) rfl (cO (OC.callvLoan (ts:= [(tI (r+1)),(tI c),(T.rp (Qb false g)),(T.vp [(T.os 1 0 0 nn)]),(vtT 136 (T.rp (Qb false g)) (T.vp [(T.os 1 0 0 nn)]) d)]) (k:=0) (r:=(T.tup [])) (rows:=((Yx d g (met.set (Int.toNat ((r*g.Cols)+c)) true) (r - 1) c).map (Qk true))) (rows':=((Yx d g (Yx d g (met.set (Int.toNat ((r*g.Cols)+c)) true) (r - 1) c) (r+1) c).map (Qk true))) rfl rfl (vc (tv (tI (r+1)) rfl) (vc (tv (tI c) rfl) vn)) rfl (by simp only [Qal,ren,QaL,List.cons_append,List.nil_append]) (tl rfl (tl rfl (tl rfl (tl rfl (tl (QcF rfl rfl _) rfl))))) LRes.none rfl (Yl (fun _=>rfl) _) (Yl (fun _=>rfl) _) (ih (Yx d g (met.set (Int.toNat ((r*g.Cols)+c)) true) (r - 1) c) (r+1) c (by assumption) (by assumption) (by (simp only [Zw,List.length_set];omega)) (by omega) (by assumption) (by omega))) (nt (sr (lO (OL.loadV1 (t:=(T.fn 136 [(T.rp (Qb false g)),(T.vp [(T.os 1 0 0 nn)]),(vtT 136 (T.rp (Qb false g)) (T.vp [(T.os 1 0 0 nn)]) d)])) (tv (vtT 136 (T.rp (Qb false g)) (T.vp [(T.os 1 0 0 nn)]) (d+1)) rfl) rfl Qgn) (mO (tI r) rfl (mO (tI c) rfl (fO (B.sub (n:=(c - 1)) (tv (tI c) rfl) (VEv.int .i64 1) (by (rw [Qs (by omega)];done))) (cO (OC.callvLoan (ts:= [(tI r),(tI (c - 1)),(T.rp (Qb false g)),(T.vp [(T.os 1 0 0 nn)]),(vtT 136 (T.rp (Qb false g)) (T.vp [(T.os 1 0 0 nn)]) d)]) (k:=0) (r:=(T.tup [])) (rows:=((Yx d g (Yx d g (met.set (Int.toNat ((r*g.Cols)+c)) true) (r - 1) c) (r+1) c).map (Qk true))) (rows':=((Yx d g (Yx d g (Yx d g (met.set (Int.toNat ((r*g.Cols)+c)) true) (r - 1) c) (r+1) c) r (c - 1)).map (Qk true))) rfl rfl (vc (tv (tI r) rfl) (vc (tv (tI (c - 1)) rfl) vn)) rfl (by simp only [Qal,ren,QaL,List.cons_append,List.nil_append]) (tl rfl (tl rfl (tl rfl (tl rfl (tl (QcF rfl rfl _) rfl))))) LRes.none rfl (Yl (fun _=>rfl) _) (Yl (fun _=>rfl) _) (ih (Yx d g (Yx d g (met.set (Int.toNat ((r*g.Cols)+c)) true) (r - 1) c) (r+1) c) r (c - 1) (by assumption) (by assumption) (by (simp only [Zw,List.length_set];omega)) (by assumption) (by omega) (by omega))) (nt ?_)))))))))))
 refine VRun.region (lO (OL.loadV1 (t:=(T.fn 136 [(T.rp (Qb false g)),(T.vp [(T.os 1 0 0 nn)]),(vtT 136 (T.rp (Qb false g)) (T.vp [(T.os 1 0 0 nn)]) d)])) (tv (vtT 136 (T.rp (Qb false g)) (T.vp [(T.os 1 0 0 nn)]) (d+1)) rfl) rfl Qgn) (mO (tI r) rfl (mO (tI c) rfl (fO (B.add (n:=(c+1)) (tv (tI c) rfl) (VEv.int .i64 1) (by (rw [Qs (by omega)];done))) (cO (OC.callvLoan (ts:= [(tI r),(tI (c+1)),(T.rp (Qb false g)),(T.vp [(T.os 1 0 0 nn)]),(vtT 136 (T.rp (Qb false g)) (T.vp [(T.os 1 0 0 nn)]) d)]) (k:=0) (r:=(T.tup [])) (rows:=((Yx d g (Yx d g (Yx d g (met.set (Int.toNat ((r*g.Cols)+c)) true) (r - 1) c) (r+1) c) r (c - 1)).map (Qk true))) (rows':=((Yx d g (Yx d g (Yx d g (Yx d g (met.set (Int.toNat ((r*g.Cols)+c)) true) (r - 1) c) (r+1) c) r (c - 1)) r (c+1)).map (Qk true))) rfl rfl (vc (tv (tI r) rfl) (vc (tv (tI (c+1)) rfl) vn)) rfl (by simp only [Qal,ren,QaL,List.cons_append,List.nil_append]) (tl rfl (tl rfl (tl rfl (tl rfl (tl (QcF rfl rfl _) rfl))))) LRes.none rfl (Yl (fun _=>rfl) _) (Yl (fun _=>rfl) _) (ih (Yx d g (Yx d g (Yx d g (met.set (Int.toNat ((r*g.Cols)+c)) true) (r - 1) c) (r+1) c) r (c - 1)) r (c+1) (by assumption) (by assumption) (by (simp only [Zw,List.length_set];omega)) (by assumption) (by omega) (by omega))) (VRunO.nil ?_))))))
 have hnew:Yx d g (Yx d g (Yx d g (Yx d g (met.set (Int.toNat ((r*g.Cols)+c)) true) (r - 1) c) (r+1) c) r (c - 1)) r (c+1)=Yx (d+1) g met r c:=by
  rw [Yx,if_pos hgo];rfl
 exact vloan.n 0 VRes.nil rfl rfl rfl (congrArg (List.map (Qk true)) hnew)
theorem QdB (n:Nat) (g:D.Grid) (hc:g.Cells.size≤mx):Pure (Qo Tryz.prog (n+39)) 104 [(T.agg (Qb false g))] (tN (ZH g)):=by
 refine Pure.intro (rs:= [ResultVar.tmp 2]) Tryz.func104 rfl rfl rfl (E0:= [(0,(T.agg (Qb false g)))]) rfl ?_
 obtain ⟨hlim,hmx,hmax⟩:=QF
 refine sr (kO (B.box (ts:=(Qb false g)) (tv (T.agg (Qb false g)) rfl) nofun rfl) (fO (OF.assign (VEv.int .i64 0)) (nt (sq (sr (lO (OL.loadOn (us:=(Qb false g)) (tv (T.op 0 0) rfl) rfl QP QN (lb rfl) rfl) (cO (cS (vc (tv (T.agg (Qb false g)) rfl) vn) (LendL.cons (lg Qq) ln) (ZD (n+36) g (by omega)) rfl rfl) (fO (QY (tv (tB (decide (gridOk g))) rfl)) (nt ?_)))))))))
 refine cn (gridOk g) rfl (fun fhc0=> ?_) fun fhc0=> ?_
 ·refine sr ?_
  refine fO (OF.assign (VEv.int .i64 0)) (nt (rt (tr (vi (n':=0) rfl ?_))))
  rw [ZH,if_neg (by simpa using fhc0)];rfl
 have hgo:gridOk g:=by simpa using fhc0
 have hsz:=hgo.size
 have hA:=hgo.1
 have hB:=hgo.2.1
 refine sk (tn (sr (lf (tS g.Cells) rfl Qy rfl rfl ZN (lO (B.lenS (tv (tS g.Cells) rfl) U9) (kO (B.makeZ (n:=g.Cells.size) (m:=((List.replicate g.Cells.size false).map (Qk true)).length) (rows:=((List.replicate g.Cells.size false).map (Qk true))) (zr:=(Qk true false)) (tv (tN g.Cells.size) rfl) (tv (tN g.Cells.size) rfl) rfl YH zo4 zc4 rfl (by rw [sz4];decide) (by omega) (of_decide_eq_true (by kernel_rfl)) (Z0.bool Z0.nil) sz4 (List.map_replicate ..).symm (by rw [List.length_map,List.length_replicate])) (kO (B.alloc (t:=T.nils) (ts:= [T.nils]) Qmh Qma nofun (fun _=> .nils) rfl) (cO (B.storeW (us:= [(T.os 1 1 0 (((List.replicate g.Cells.size false).map (Qk true)).length))]) (tv (T.op 2 0) rfl) (tv (T.os 1 1 0 (((List.replicate g.Cells.size false).map (Qk true)).length)) rfl) nofun rfl rfl rfl QlJ QlN (bc rfl bn)) (nt (sr (kO (B.alloc (t:=T.fn0) (ts:= [T.fn0]) (show Q1 Tryz.prog 146=some .nilFunc by kernel_rfl) (show closedV .nilFunc=true by kernel_rfl) nofun (fun _=> .fn0) rfl) (nt ?_)))))))))))
 refine sr (fO (OF.makeFunc (vc (tv (T.op 0 0) rfl) (vc (tv (T.op 2 0) rfl) (vc (tv (T.op 3 0) rfl) vn)))) (cO (B.storeW (us:= [(T.fn 136 [(T.op 0 0),(T.op 2 0),(T.op 3 0)])]) (tv (T.op 3 0) rfl) (tv (T.fn 136 [(T.op 0 0),(T.op 2 0),(T.op 3 0)]) rfl) nofun rfl rfl rfl QlL Ql6 (bc rfl bn)) (nt (VRun.wk (Wk.recv (sz:=1) (k:=1) (us:=(Qb false g)) (f:=136) 38 (d1:=1) (d2:=3) (d3:=4) rfl rfl rfl rfl rfl rfl (by decide) (by decide) (by decide) (bc rfl (bc rfl (bc rfl bn)))) (sr (fO (OF.assign (VEv.int .i64 0)) (nt (sq (sr (lr (tS g.Cells) rfl (lb rfl) Qy rfl ZN (lO (B.lenS (tv (tS g.Cells) rfl) U9) ?_)))))))))))
 refine fO (OF.move (VEv.int .i64 0)) (nt (VRun.block ?_))
 have he1:(List.replicate g.Cells.size false)=(Ql g 0).2:=by rfl
 refine VRun.loop (A:=Nat) (fun s_=> [(1,(T.rp (Qb false g))),(2,(tN 0)),(3,(T.vp [(T.os 1 0 0 (((List.replicate g.Cells.size false).map (Qk true)).length))])),(4,(vtT 136 (T.rp (Qb false g)) (T.vp [(T.os 1 0 0 (((List.replicate g.Cells.size false).map (Qk true)).length))]) 38)),(5,(tN ((Ql g s_).1))),(17,(tN g.Cells.size)),(18,(tN s_))]) (fun s_=>Q0 [(0,(Obj.rows 1 (((Ql g s_).2).map (Qk true))))]) 1 (fun s_=>s_≤g.Cells.size) (fun s_=>g.Cells.size - s_) (0:Nat) ?_ (Wk.mk (fun k=>if k=0 then 1 else k) ?_ ?_ ?_) ?_
 ·(simp;done)
 ·exact (b2 (b2 (b2 (b2 (bc ⟨(congrArg (T.int .i64) (show 0=(((Ql g 0).1:Nat):Int) from (by rfl))),rfl⟩ (b2 (b2 bn)))))))
 ·exact (bc ⟨(congrArg (fun l_=>some (Obj.rows 1 (List.map (Qk true) l_))) he1),(lb rfl),rfl⟩ bn)
 ·exact nd rfl
 rintro i (hI':i≤g.Cells.size)
 show VRun _ _ _ [(1,(T.rp (Qb false g))),(2,(tN 0)),(3,(T.vp [(T.os 1 0 0 (((List.replicate g.Cells.size false).map (Qk true)).length))])),(4,(vtT 136 (T.rp (Qb false g)) (T.vp [(T.os 1 0 0 (((List.replicate g.Cells.size false).map (Qk true)).length))]) 38)),(5,(tN ((Ql g i).1))),(17,(tN g.Cells.size)),(18,(tN i))] (Q0 [(0,(Obj.rows 1 (((Ql g i).2).map (Qk true))))]) 1 _
 have hI1:=hI'
 have hpl:=YL g i
 have hpn:=Qcu g i
 refine sr (fO (Ze (tv (tN i) rfl) (tv (tN g.Cells.size) rfl)) (nt (sq ?_)))
 refine cd (i<g.Cells.size) rfl (fun fhc1=> ?_) fun fhc1=> ?_
 ·refine sk ?_
  refine tn (sq (VRun.block (sr (mO (tN i) rfl (aO (tN i) rfl (nt (sr (lr (tS g.Cells) rfl (lb rfl) Qy rfl ZN (mO (tN i) rfl ?_)))))))))
  have hb2:i<g.Cells.size:=(by omega)
  refine fO (Js (tv (tS g.Cells) rfl) (tv (tN i) rfl) hb2 U9) (fO (YF (tv (T.int .u8 (Qr g.Cells i)) rfl) (VEv.int .u8 46)) (mO (tB (decide (Qr g.Cells i=46))) rfl ?_))
  refine VRunO.joinB 6 [27,28,29,30,31] 32 (tB (decide ((Qr g.Cells i=46)∧((!(((Ql g i).2)[i]?.getD false))=true)))) ?_ ?_
  ·refine gw (Qr g.Cells i=46) (fun fhg26_3=> ?_) fun fhg26_3=> ?_
   ·refine gL (dy fhg26_3) rfl rfl (OL.loadV1 (t:=(T.os 1 0 0 (((List.replicate g.Cells.size false).map (Qk true)).length))) (tv (T.vp [(T.os 1 0 0 (((List.replicate g.Cells.size false).map (Qk true)).length))]) rfl) rfl QiS) ?_
    refine gF (dy fhg26_3) rfl rfl (OF.move (tv (tN i) rfl)) ?_
    have hy4:((Ql g i).2)[i]? =some (((Ql g i).2)[i]?.getD false):=Jx false (by omega)
    refine gF (dy fhg26_3) rfl rfl (B.indexAddrO (i:=i) (tv (T.os 1 0 0 (((List.replicate g.Cells.size false).map (Qk true)).length)) rfl) (tv (tN i) rfl) rfl (by (simp only [List.length_map,List.length_replicate];omega)) YH sz4 if4) (gL (dy fhg26_3) rfl rfl (OL.loadP1 (t:=(tB (((Ql g i).2)[i]?.getD false))) (row:=(Qk true (((Ql g i).2)[i]?.getD false))) (tv (T.orp 1 0 i 0) rfl) rfl (Qw _ hy4) rfl rfl st4) (gF (dy fhg26_3) rfl rfl (QY (tv (tB (((Ql g i).2)[i]?.getD false)) rfl)) (fO (OF.pickT (VEv.tmpB rfl (dy fhg26_3)) (tv (tB (!(((Ql g i).2)[i]?.getD false))) rfl)) (VRunO.nil ?_))))
    exact jq (congrArg T.bool (kAT fhg26_3 (dT _))) (js rfl (js rfl (js rfl (js rfl (js rfl (jn))))))
   ·refine Qx 5 5 true 26 (dz fhg26_3) rfl rfl rfl ?_
    refine fO (OF.pickF (VEv.tmpB rfl (dz fhg26_3)) (VEv.bool false)) (VRunO.nil ?_)
    exact jq (congrArg T.bool (kAF fhg26_3)) (js rfl (js rfl (js rfl (js rfl (js rfl (jn))))))
  refine nt ?_
  refine cd ((Qr g.Cells i=46)∧((!(((Ql g i).2)[i]?.getD false))=true)) rfl (fun fhc2=> ?_) fun fhc2=> ?_
  ·have q0:QbN g (Ql g i).2 i:=⟨fhc2.1,by simpa [on] using fhc2.2⟩
   have q1:=Qcb q0
   have hci:=QaR hgo (show i<g.Cells.size by omega)
   have hq0:0≤((i:Nat):Int) / ((g.Cols.toNat:Nat):Int):=Int.ediv_nonneg (by omega) (by omega)
   have hm0:0≤((i:Nat):Int) % ((g.Cols.toNat:Nat):Int):=Int.emod_nonneg _ (by omega)
   refine sr (mO (tN ((Ql g i).1)) rfl (fO (QA (tv (tN ((Ql g i).1)) rfl) (VEv.int .i64 1) (by omega)) (aO (tN ((Ql g i).1+1)) rfl (nt (VRun.draw (B:= [[],[],[],[2],[2,3,1],[],[],[6],[6,7,5],[5,7,6,8,1,3,2,4,0]]) (by kernel_rfl) (by kernel_rfl) (lD (OL.loadV1 (t:=(T.fn 136 [(T.rp (Qb false g)),(T.vp [(T.os 1 0 0 (((List.replicate g.Cells.size false).map (Qk true)).length))]),(vtT 136 (T.rp (Qb false g)) (T.vp [(T.os 1 0 0 (((List.replicate g.Cells.size false).map (Qk true)).length))]) 37)])) (tv (vtT 136 (T.rp (Qb false g)) (T.vp [(T.os 1 0 0 (((List.replicate g.Cells.size false).map (Qk true)).length))]) 38) rfl) rfl Qgn) rfl rfl (mD (tN i) rfl rfl (fD (B.fieldAddrR (us:=((Qb false g).drop 1)) (tv (T.rp (Qb false g)) rfl) (lb rfl) Za rfl) rfl rfl (lD (OL.loadR1 (t:=(tI g.Cols)) (tv (T.rp ((Qb false g).drop 1)) rfl) rfl QV) rfl rfl (fD (B.quo (n:=((i / g.Cols.toNat:Nat):Int)) (tv (tN i) rfl) (tv (tI g.Cols) rfl) (by omega) (by (refine QkN ?_ ?_<;>omega))) rfl rfl (mD (tN i) rfl rfl ?_)))))))))))
   refine fD (B.fieldAddrR (us:=((Qb false g).drop 1)) (tv (T.rp (Qb false g)) rfl) (lb rfl) Za rfl) rfl rfl (lD (OL.loadR1 (t:=(tI g.Cols)) (tv (T.rp ((Qb false g).drop 1)) rfl) rfl QV) rfl rfl (fD (B.rem (n:=((i % g.Cols.toNat:Nat):Int)) (tv (tN i) rfl) (tv (tI g.Cols) rfl) (by omega) (by (refine Qj7 ?_;omega))) rfl rfl (VRunD.chain (bi:= [5,7,6,8,1,3,2,4,0]) rfl VWant.always rfl rfl rfl (by kernel_rfl) (OC.callvLoan (ts:= [(tN (i / g.Cols.toNat)),(tN (i % g.Cols.toNat)),(T.rp (Qb false g)),(T.vp [(T.os 1 0 0 (((List.replicate g.Cells.size false).map (Qk true)).length))]),(vtT 136 (T.rp (Qb false g)) (T.vp [(T.os 1 0 0 (((List.replicate g.Cells.size false).map (Qk true)).length))]) 37)]) (k:=0) (r:=(T.tup [])) (rows:=(((Ql g i).2).map (Qk true))) (rows':=((Yx 37 g ((Ql g i).2) ((i / g.Cols.toNat:Nat):Int) ((i % g.Cols.toNat:Nat):Int)).map (Qk true))) rfl rfl (vc (tv (tN (i / g.Cols.toNat)) rfl) (vc (tv (tN (i % g.Cols.toNat)) rfl) vn)) rfl (by simp only [Qal,ren,QaL,List.cons_append,List.nil_append]) (tl rfl (tl rfl (tl rfl (tl rfl (tl (QcF rfl rfl _) rfl))))) LRes.none rfl (Yl (fun _=>rfl) _) (Yl (fun _=>rfl) _) (Qcg (n+0) (((List.replicate g.Cells.size false).map (Qk true)).length) g 37 ((Ql g i).2) ((i / g.Cols.toNat:Nat):Int) ((i % g.Cols.toNat:Nat):Int) (by exact fhc0) (by (simp only [YL,List.length_map,List.length_replicate];done)) (by (simp only [List.length_map,List.length_replicate];omega)) (by omega) (by omega) (by (refine Nat.lt_of_le_of_lt List.count_le_length ?_;rw [YL];omega)))) (VRunD.nil (vinB.n (tn (VRun.region (fO (QA (tv (tN i) rfl) (VEv.int .i64 1) (by omega)) (mO (tN (i+1)) rfl (VRunO.nil (tn ?_)))))))))))
   have he5:Yx 37 g ((Ql g i).2) ((i / g.Cols.toNat:Nat):Int) ((i % g.Cols.toNat:Nat):Int)=(Ql g (i+1)).2:=by (rw [q1.2];exact Qj4 hgo hpl fhc1 (Nat.lt_of_le_of_lt List.count_le_length (by omega)) (Qa6 i hI1) q0.1)
   refine ⟨(i+1:Nat),?_,?_,Wk.mk (fun k=>k) ?_ ?_ ?_⟩
   ·trivial
   ·omega
   ·exact (b2 (b2 (b2 (b2 (bc ⟨(congrArg (T.int .i64) (show ((((Ql g i).1+1):Nat):Int)=(((Ql g (i+1)).1:Nat):Int) from (by omega))),rfl⟩ (b2 (b2 bn)))))))
   ·exact (bc ⟨(congrArg (fun l_=>some (Obj.rows 1 (List.map (Qk true) l_))) he5),(lb rfl),rfl⟩ bn)
   ·exact nd rfl
  have q0:¬QbN g (Ql g i).2 i:=fun h=>fhc2 ⟨h.1,by have:=h.2;unfold on at this;rw [this];rfl⟩
  refine sk (vinB.n (tn (VRun.region (fO (QA (tv (tN i) rfl) (VEv.int .i64 1) (by omega)) (mO (tN (i+1)) rfl (VRunO.nil (tn ?_)))))))
  have he6:(Ql g i).2=(Ql g (i+1)).2:=by (rw [Qaw q0];done)
  refine ⟨(i+1:Nat),?_,?_,Wk.mk (fun k=>k) ?_ ?_ ?_⟩
  ·trivial
  ·omega
  ·exact (b2 (b2 (b2 (b2 (bc ⟨(congrArg (T.int .i64) (show (((Ql g i).1:Nat):Int)=(((Ql g (i+1)).1:Nat):Int) from (by (rw [Qaw q0];done)))),rfl⟩ (b2 (b2 bn)))))))
  ·exact (bc ⟨(congrArg (fun l_=>some (Obj.rows 1 (List.map (Qk true) l_))) he6),(lb rfl),rfl⟩ bn)
  ·exact nd rfl
 refine VRun.exit (vthn.e (vthn.e (vinB.e (tn (sr (mO (tN ((Ql g i).1)) rfl (aO (tN ((Ql g i).1)) rfl (nt (rt (vi (n':=(((Ql g i).1:Nat):Int)) rfl ?_))))))))))
 exact congrArg (fun x:Nat=>(x:Int)) (QeU hI1 (.inl hgo) (by omega))
end Go.Proofs.YthifchndolccgaaGreatDoor.AE
namespace Go.Proofs.YthifchndolccgaaGreatDoor.AE
open Go Go.RowKit
set_option linter.unusedVariables false
set_option linter.unusedSimpArgs false
set_option maxRecDepth 20000
set_option maxHeartbeats 2000000
noncomputable section
def ZF (g:D.Grid):Int:=if ¬gridOk g then 1 else if ¬Qc0 g then 2 else if ¬ZH g=1 then 3 else if Qbh g then 4 else if Qat g then 5 else 0
theorem Qhb {g:D.Grid} (h:∀j s,j<(Qa g).length→(Qa g)[j]? =some s→¬Qc1 g j s) (hg:gridOk g):Qfo g g.Cells↔Qat g:=by
 constructor
 ·rintro ⟨c,h1,h2,_⟩
  exact .inr ⟨c,h1,hg,h2⟩
 ·rintro (⟨j,s,h3,h4⟩ | ⟨c,h1,_,h2⟩)
  ·exact absurd h4 (h j s (List.getElem?_eq_some_iff.1 h3).1 h3)
  ·refine ⟨c,h1,h2,?_⟩
   unfold QaE
   have:=h2.1
   omega
end
theorem Qbv (n:Nat) (g:D.Grid) (hc:g.Cells.size≤mx):Pure (Qo Tryz.prog (n+4)) 74 [(T.agg (Qb false g))] (tB (decide (ZH g=1))):=by
 refine Pure.intro (rs:= [ResultVar.tmp 2]) Tryz.func74 rfl rfl rfl (E0:= [(0,(T.agg (Qb false g)))]) rfl ?_
 obtain ⟨hlim,hmx,hmax⟩:=QF
 refine sr (kO (B.box (ts:=(Qb false g)) (tv (T.agg (Qb false g)) rfl) nofun rfl) (fO (OF.assign (VEv.bool false)) (nt (sr (lO (OL.loadOn (us:=(Qb false g)) (tv (T.op 0 0) rfl) rfl QP QN (lb rfl) rfl) (cO (cS (vc (tv (T.agg (Qb false g)) rfl) vn) (LendL.cons (lg Qq) ln) (QdT (n+0) g (by assumption)) rfl rfl) (fO (B.eql (c:=(decide (ZH g=1))) (tv (tN (ZH g)) rfl) (VEv.int .i64 1) (Q4 (by omega))) (aO (tB (decide (ZH g=1))) rfl (nt (rt ?_))))))))))
 exact vb rfl rfl
theorem Qbn (n:Nat) (g:D.Grid) (hc:g.Cells.size≤mx):Pure (Qo Tryz.prog (n+40)) 79 [(T.agg (Qb false g))] (tB (decide (ZH g=1))):=by
 refine Pure.intro (rs:= [ResultVar.tmp 2]) Tryz.func79 rfl rfl rfl (E0:= [(0,(T.agg (Qb false g)))]) rfl ?_
 obtain ⟨hlim,hmx,hmax⟩:=QF
 refine sr (kO (B.box (ts:=(Qb false g)) (tv (T.agg (Qb false g)) rfl) nofun rfl) (fO (OF.assign (VEv.bool false)) (nt (sr (lO (OL.loadOn (us:=(Qb false g)) (tv (T.op 0 0) rfl) rfl QP QN (lb rfl) rfl) (cO (cS (vc (tv (T.agg (Qb false g)) rfl) vn) (LendL.cons (lg Qq) ln) (QdB (n+0) g (by assumption)) rfl rfl) (fO (B.eql (c:=(decide (ZH g=1))) (tv (tN (ZH g)) rfl) (VEv.int .i64 1) (Q4 (by omega))) (aO (tB (decide (ZH g=1))) rfl (nt (rt ?_))))))))))
 exact vb rfl rfl
theorem QeA (n:Nat) (g:D.Grid) (hc:g.Cells.size≤mx):Pure (Qo Tryz.prog (n+9)) 52 [(T.agg (Qb false g))] (tI (ZF g)):=by
 refine Pure.intro (rs:= [ResultVar.tmp 2]) Tryz.func52 rfl rfl rfl (E0:= [(0,(T.agg (Qb false g)))]) rfl ?_
 obtain ⟨hlim,hmx,hmax⟩:=QF
 refine sr (kO (B.box (ts:=(Qb false g)) (tv (T.agg (Qb false g)) rfl) nofun rfl) (fO (OF.assign (VEv.int .i64 0)) (nt (sq (VRun.block (sr (lO (OL.loadOn (us:=(Qb false g)) (tv (T.op 0 0) rfl) rfl QP QN (lb rfl) rfl) (cO (cS (vc (tv (T.agg (Qb false g)) rfl) vn) (LendL.cons (lg Qq) ln) (Zt (n+6) g (by omega)) rfl rfl) (fO (QY (tv (tB (decide (gridOk g))) rfl)) (aO (tB (!(decide (gridOk g)))) rfl (nt ?_)))))))))))
 refine cn (gridOk g) rfl (fun fhc0=> ?_) fun fhc0=> ?_
 ·refine sr ?_
  refine fO (OF.assign (VEv.int .i64 1)) (nt (rt (vinB.r (tr (vi (n':=1) rfl ?_)))))
  exact (if_pos (by assumption)).symm
 refine sr (lO (OL.loadOn (us:=(Qb false g)) (tv (T.op 0 0) rfl) rfl QP QN (lb rfl) rfl) (cO (cS (vc (tv (T.agg (Qb false g)) rfl) vn) (LendL.cons (lg Qq) ln) (Qbo (n+4) g (by omega)) rfl rfl) (fO (QY (tv (tB (decide (Qc0 g))) rfl)) (aO (tB (!(decide (Qc0 g)))) rfl (nt ?_)))))
 refine cn (Qc0 g) rfl (fun fhc1=> ?_) fun fhc1=> ?_
 ·refine sr ?_
  refine fO (OF.assign (VEv.int .i64 2)) (nt (rt (vinB.r (tr (vi (n':=2) rfl ?_)))))
  (simp only [ZF];simp [*];done)
 refine sr (lO (OL.loadOn (us:=(Qb false g)) (tv (T.op 0 0) rfl) rfl QP QN (lb rfl) rfl) (cO (cS (vc (tv (T.agg (Qb false g)) rfl) vn) (LendL.cons (lg Qq) ln) (Qbv (n+4) g (by assumption)) rfl rfl) (fO (QY (tv (tB (decide (ZH g=1))) rfl)) (aO (tB (!(decide (ZH g=1)))) rfl (nt ?_)))))
 refine cn (ZH g=1) rfl (fun fhc2=> ?_) fun fhc2=> ?_
 ·refine sr ?_
  refine fO (OF.assign (VEv.int .i64 3)) (nt (rt (vinB.r (tr (vi (n':=3) rfl ?_)))))
  (simp only [ZF];simp [*];done)
 refine sr (lO (OL.loadOn (us:=(Qb false g)) (tv (T.op 0 0) rfl) rfl QP QN (lb rfl) rfl) (cO (cS (vc (tv (T.agg (Qb false g)) rfl) vn) (LendL.cons (lg Qq) ln) (Qc7 (n+4) g (by omega)) rfl rfl) (aO (tB (decide (Qbh g))) rfl (nt ?_))))
 refine cd (Qbh g) rfl (fun fhc3=> ?_) fun fhc3=> ?_
 ·refine sr ?_
  refine fO (OF.assign (VEv.int .i64 4)) (nt (rt (vinB.r (tr (vi (n':=4) rfl ?_)))))
  (simp only [ZF];simp [*];done)
 refine sr (lO (OL.loadOn (us:=(Qb false g)) (tv (T.op 0 0) rfl) rfl QP QN (lb rfl) rfl) (cO (cS (vc (tv (T.agg (Qb false g)) rfl) vn) (LendL.cons (lg Qq) ln) (Qda (n+0) g (by omega)) rfl rfl) (aO (tB (decide (Qat g))) rfl (nt ?_))))
 refine cd (Qat g) rfl (fun fhc4=> ?_) fun fhc4=> ?_
 ·refine sr ?_
  refine fO (OF.assign (VEv.int .i64 5)) (nt (rt (vinB.r (tr (vi (n':=5) rfl ?_)))))
  (simp only [ZF];simp [*];done)
 refine sk (vinB.n (tn (sr (fO (OF.assign (VEv.int .i64 0)) (nt (rt (vi (n':=0) rfl ?_)))))))
 (simp only [ZF];simp [*];done)
theorem QeN (n:Nat) (g:D.Grid) (hc:g.Cells.size≤mx):Pure (Qo Tryz.prog (n+41)) 55 [(T.agg (Qb false g))] (tI (ZF g)):=by
 refine Pure.intro (rs:= [ResultVar.tmp 2]) Tryz.func55 rfl rfl rfl (E0:= [(0,(T.agg (Qb false g)))]) rfl ?_
 obtain ⟨hlim,hmx,hmax⟩:=QF
 have hsl:=Q5 g
 refine sr (kO (B.box (ts:=(Qb false g)) (tv (T.agg (Qb false g)) rfl) nofun rfl) (fO (OF.assign (VEv.int .i64 0)) (nt (sq (VRun.block (sr (lO (OL.loadOn (us:=(Qb false g)) (tv (T.op 0 0) rfl) rfl QP QN (lb rfl) rfl) (cO (cS (vc (tv (T.agg (Qb false g)) rfl) vn) (LendL.cons (lg Qq) ln) (ZD (n+38) g (by omega)) rfl rfl) (fO (QY (tv (tB (decide (gridOk g))) rfl)) (aO (tB (!(decide (gridOk g)))) rfl (nt ?_)))))))))))
 refine cn (gridOk g) rfl (fun fhc0=> ?_) fun fhc0=> ?_
 ·refine sr ?_
  refine fO (OF.assign (VEv.int .i64 1)) (nt (rt (vinB.r (tr (vi (n':=1) rfl ?_)))))
  exact (if_pos fhc0).symm
 refine sr (lO (OL.loadOn (us:=(Qb false g)) (tv (T.op 0 0) rfl) rfl QP QN (lb rfl) rfl) (cO (cS (vc (tv (T.agg (Qb false g)) rfl) vn) (LendL.cons (lg Qq) ln) (Qbd (n+36) g (by omega)) rfl rfl) (fO (QY (tv (tB (decide (Qc0 g))) rfl)) (aO (tB (!(decide (Qc0 g)))) rfl (nt ?_)))))
 refine cn (Qc0 g) rfl (fun fhc1=> ?_) fun fhc1=> ?_
 ·refine sr ?_
  refine fO (OF.assign (VEv.int .i64 2)) (nt (rt (vinB.r (tr (vi (n':=2) rfl ?_)))))
  unfold ZF;rw [if_neg (not_not_intro fhc0),if_pos fhc1]
 refine sr (lO (OL.loadOn (us:=(Qb false g)) (tv (T.op 0 0) rfl) rfl QP QN (lb rfl) rfl) (cO (cS (vc (tv (T.agg (Qb false g)) rfl) vn) (LendL.cons (lg Qq) ln) (Qbn (n+0) g (by assumption)) rfl rfl) (fO (QY (tv (tB (decide (ZH g=1))) rfl)) (aO (tB (!(decide (ZH g=1)))) rfl (nt ?_)))))
 refine cn (ZH g=1) rfl (fun fhc2=> ?_) fun fhc2=> ?_
 ·refine sr ?_
  refine fO (OF.assign (VEv.int .i64 3)) (nt (rt (vinB.r (tr (vi (n':=3) rfl ?_)))))
  unfold ZF;rw [if_neg (not_not_intro fhc0),if_neg (not_not_intro fhc1),if_pos fhc2]
 refine sk (vinB.n (tn (sr (lO (OL.loadOn (us:=(Qb false g)) (tv (T.op 0 0) rfl) rfl QP QN (lb rfl) rfl) (cO (OC.callF (r':=(T.os 4 1 0 (((Qa g).map (Qf true)).length))) (objs:= [(Obj.rows 4 ((Qa g).map (Qf true)))]) rfl (vc (tv (T.agg (Qb false g)) rfl) vn) (LendL.cons (lg Qq) ln) (Jo (n+37) g (by omega)) rfl) (aO (T.os 4 1 0 (((Qa g).map (Qf true)).length)) rfl (nt (sq (sr (mO (T.os 4 1 0 (((Qa g).map (Qf true)).length)) rfl (lO (B.lenO (m:=(Qa g).length) (tv (T.os 4 1 0 (((Qa g).map (Qf true)).length)) rfl) J6 (List.length_map ..)) ?_)))))))))))
 refine fO (OF.move (VEv.int .i64 0)) (nt (VRun.block ?_))
 refine VRun.loop (A:=Nat) (fun s_=> [(1,(T.op 0 0)),(3,(T.os 4 1 0 (((Qa g).map (Qf true)).length))),(22,(T.os 4 1 0 (((Qa g).map (Qf true)).length))),(23,(tN ((Qa g).length))),(24,(tN s_))]) (fun s_=>Q0 [(0,(Obj.cells (Qb false g))),(1,(Obj.rows 4 ((Qa g).map (Qf true))))]) 2 (fun s_=>NoneTo (fun s:D.Slot=>s.Length<3) (Qa g) s_) (fun s_=>(Qa g).length - s_) (0:Nat) ?_ (Wk.mk (fun k=>k) ?_ ?_ ?_) ?_
 ·exact NoneTo.start _ _
 ·exact (b2 (b2 (b2 (b2 (b2 bn)))))
 ·exact (b3 (b3 bn))
 ·exact nd rfl
 rintro i (hI':NoneTo (fun s:D.Slot=>s.Length<3) (Qa g) i)
 show VRun _ _ _ [(1,(T.op 0 0)),(3,(T.os 4 1 0 (((Qa g).map (Qf true)).length))),(22,(T.os 4 1 0 (((Qa g).map (Qf true)).length))),(23,(tN ((Qa g).length))),(24,(tN i))] (Q0 [(0,(Obj.cells (Qb false g))),(1,(Obj.rows 4 ((Qa g).map (Qf true))))]) 2 _
 have hI1:=hI'.1
 have hns:=hI'
 refine sr (fO (Ze (tv (tN i) rfl) (tv (tN ((Qa g).length)) rfl)) (nt (sq ?_)))
 refine cd (i<(Qa g).length) rfl (fun fhc3=> ?_) fun fhc3=> ?_
 ·have hx0:=fhc3
  refine sk (tn (sq (VRun.block (sr ?_))))
  obtain ⟨x1,hx1⟩:∃x,(Qa g)[i]? =some x:=⟨_,List.getElem?_eq_getElem (by omega)⟩
  refine fO (B.indexAddrO (i:=i) (tv (T.os 4 1 0 (((Qa g).map (Qf true)).length)) rfl) (tv (tN i) rfl) rfl (by (simp only [List.length_map];omega)) J6 ZJ Qc5) (lO (OL.loadPn (us:=(Qf false x1)) (row:=(Qf true x1)) (tv (T.orp 4 1 i 0) rfl) rfl (Qw _ hx1) Qfs ZJ (lb rfl) rfl (bc rfl (bc rfl (bc rfl (bc rfl bn))))) (kO (B.alloc (t:=(T.agg [(tN 0),(tB false),(tN 0),(tN 0)])) (ts:= [(tN 0),(tB false),(tN 0),(tN 0)]) Jr Qk5 nofun (fun _=> .agg _ _ rfl (Y8 (RL.cons (.int _ _) (RL.cons (.bool _) (RL.cons (.int _ _) (RL.cons (.int _ _) (RL.nil _))))))) rfl) (cO (B.storeW (us:=(Qf false x1)) (tv (T.op 2 0) rfl) (tv (T.agg (Qf false x1)) rfl) nofun rfl rfl rfl Qc5 ZJ (bc rfl (bc rfl (bc rfl (bc rfl bn))))) (nt (sr (lf (tI x1.Length) rfl Qbg rfl rfl QV (fO (xls (tv (tI x1.Length) rfl) (VEv.int .i64 3)) (nt ?_))))))))
  refine cd (x1.Length<3) rfl (fun fhc4=> ?_) fun fhc4=> ?_
  ·refine sr ?_
   refine fO (OF.assign (VEv.int .i64 4)) (nt (rt (vinB.r (tr (tr (vinB.r (tr (vi (n':=4) rfl ?_))))))))
   unfold ZF;rw [if_neg (not_not_intro fhc0),if_neg (not_not_intro fhc1),if_neg (not_not_intro fhc2),if_pos (show Qbh g from ⟨x1,List.mem_of_getElem? hx1,fhc4⟩)]
  refine sk (vinB.n (tn (VRun.region (fO (QA (tv (tN i) rfl) (VEv.int .i64 1) (by omega)) (mO (tN (i+1)) rfl (VRunO.nil (tn ?_)))))))
  refine ⟨(i+1:Nat),?_,?_,Wk.mk (fun k=>k) ?_ ?_ ?_⟩
  ·exact hI'.next hx1 fhc4
  ·omega
  ·exact (b2 (b2 (b2 (b2 (b2 bn)))))
  ·exact (b3 (b3 bn))
  ·exact nd rfl
 have hsh:¬Qbh g:=by rintro ⟨y,hy,hy2⟩;exact hns.mem fhc3 y hy hy2
 refine VRun.exit (vthn.e (vthn.e (vinB.e (tn (sq (sr (mO (T.os 4 1 0 (((Qa g).map (Qf true)).length)) rfl (lO (B.lenO (m:=(Qa g).length) (tv (T.os 4 1 0 (((Qa g).map (Qf true)).length)) rfl) J6 (List.length_map ..)) (fO (OF.move (VEv.int .i64 0)) (nt (VRun.block ?_)))))))))))
 refine VRun.loop (A:=Nat) (fun s_=> [(1,(T.op 0 0)),(32,(T.os 4 1 0 (((Qa g).map (Qf true)).length))),(33,(tN ((Qa g).length))),(34,(tN s_))]) (fun s_=>Q0 [(0,(Obj.cells (Qb false g))),(1,(Obj.rows 4 ((Qa g).map (Qf true))))]) 2 (fun s_=>NoBad g s_) (fun s_=>(Qa g).length - s_) (0:Nat) ?_ (Wk.mk (fun k=>k) ?_ ?_ ?_) ?_
 ·exact NoBad.start _
 ·exact (b2 (b2 (b2 (b2 bn))))
 ·exact (b3 (b3 bn))
 ·exact nd rfl
 rintro k (hI':NoBad g k)
 show VRun _ _ _ [(1,(T.op 0 0)),(32,(T.os 4 1 0 (((Qa g).map (Qf true)).length))),(33,(tN ((Qa g).length))),(34,(tN k))] (Q0 [(0,(Obj.cells (Qb false g))),(1,(Obj.rows 4 ((Qa g).map (Qf true))))]) 2 _
 have hJ1:=hI'.1
 have hub:=QiO g ((k:Nat):Int)
 refine sr (fO (Ze (tv (tN k) rfl) (tv (tN ((Qa g).length)) rfl)) (nt (sq ?_)))
 refine cd (k<(Qa g).length) rfl (fun fhc5=> ?_) fun fhc5=> ?_
 ·refine sk ?_
  refine tn (sq (VRun.block (sr (mO (tN k) rfl ?_))))
  obtain ⟨x1,hx1⟩:∃x,(Qa g)[k]? =some x:=⟨_,List.getElem?_eq_getElem (by omega)⟩
  refine fO (B.indexAddrO (i:=k) (tv (T.os 4 1 0 (((Qa g).map (Qf true)).length)) rfl) (tv (tN k) rfl) rfl (by (simp only [List.length_map];omega)) J6 ZJ Qc5) (lO (OL.loadPn (us:=(Qf false x1)) (row:=(Qf true x1)) (tv (T.orp 4 1 k 0) rfl) rfl (Qw _ hx1) Qfs ZJ (lb rfl) rfl (bc rfl (bc rfl (bc rfl (bc rfl bn))))) (kO (B.alloc (t:=(T.agg [(tN 0),(tB false),(tN 0),(tN 0)])) (ts:= [(tN 0),(tB false),(tN 0),(tN 0)]) Jr Qk5 nofun (fun _=> .agg _ _ rfl (Y8 (RL.cons (.int _ _) (RL.cons (.bool _) (RL.cons (.int _ _) (RL.cons (.int _ _) (RL.nil _))))))) rfl) (aO (tN k) rfl (cO (B.storeW (us:=(Qf false x1)) (tv (T.op 2 0) rfl) (tv (T.agg (Qf false x1)) rfl) nofun rfl rfl rfl Qc5 ZJ (bc rfl (bc rfl (bc rfl (bc rfl bn))))) (nt (sq (VRun.draw (B:= [[],[],[1,0],[0,1,2],[],[4],[4,5,2,1,0,3]]) (by kernel_rfl) (by kernel_rfl) (lD (OL.loadOn (us:=(Qb false g)) (tv (T.op 0 0) rfl) rfl QP QN (lb rfl) rfl) rfl rfl (mD (tN k) rfl rfl (VRunD.quiet (bi:= [1,0]) rfl VWant.always rfl rfl rfl bn (cS (vc (tv (T.agg (Qb false g)) rfl) (vc (tv (tN k) rfl) vn)) (LendL.cons (lg Qq) (lp rfl ln)) (Qbl (n+33) g ((k:Nat):Int) (by omega)) rfl rfl) (fD (B.mul (n:=(2*unG g ((k:Nat):Int))) (VEv.int .i64 2) (tv (tI (unG g ((k:Nat):Int))) rfl) (by (rw [Qs (by omega)];done))) rfl rfl ?_)))))))))))
  refine fD (OF.fieldAddrO (tv (T.op 2 0) rfl) Qbg) rfl rfl (lD (OL.loadO1 (t:=(tI x1.Length)) (tv (T.op 2 3) rfl) rfl rfl QV) rfl rfl (fD (xgt (tv (tI (2*unG g ((k:Nat):Int))) rfl) (tv (tI x1.Length) rfl)) rfl rfl (VRunD.nil (tn ?_))))
  refine cd (x1.Length<(2*unG g ((k:Nat):Int))) rfl (fun fhc6=> ?_) fun fhc6=> ?_
  ·have q1:Qc1 g k x1:=by unfold Qc1;omega
   refine sr (fO (OF.assign (VEv.int .i64 5)) (nt (rt (vinB.r (tr (tr (vinB.r (tr (vi (n':=5) rfl ?_)))))))))
   unfold ZF;rw [if_neg (not_not_intro fhc0),if_neg (not_not_intro fhc1),if_neg (not_not_intro fhc2),if_neg hsh,if_pos (show Qat g from .inl ⟨k,x1,hx1,q1⟩)]
  have q1:¬Qc1 g k x1:=by unfold Qc1;omega
  refine sk (vinB.n (tn (VRun.region (fO (QA (tv (tN k) rfl) (VEv.int .i64 1) (by omega)) (mO (tN (k+1)) rfl (VRunO.nil (tn ?_)))))))
  refine ⟨(k+1:Nat),?_,?_,Wk.mk (fun k=>k) ?_ ?_ ?_⟩
  ·exact hI'.next hx1 q1
  ·omega
  ·exact (b2 (b2 (b2 (b2 bn))))
  ·exact (b3 (b3 bn))
  ·exact nd rfl
 have hal:=Qhb (g:=g) (fun j s hj=>hI'.2 j s (by omega)) (by simpa using fhc0)
 refine VRun.exit (vthn.e (vthn.e (vinB.e (tn (sq (sr (lO (OL.loadOn (us:=(Qb false g)) (tv (T.op 0 0) rfl) rfl QP QN (lb rfl) rfl) (lf (tS g.Cells) rfl Qy rfl rfl ZN (cO (cS (vc (tv (T.agg (Qb false g)) rfl) (vc (tv (tS g.Cells) rfl) vn)) (LendL.cons (lg Qq) (lp rfl ln)) (Qfz (n+35) g g.Cells (by omega) (by omega)) rfl rfl) (nt ?_))))))))))
 refine cd (Qfo g g.Cells) rfl (fun fhc7=> ?_) fun fhc7=> ?_
 ·refine sr ?_
  refine fO (OF.assign (VEv.int .i64 5)) (nt (rt (tr (vi (n':=5) rfl ?_))))
  unfold ZF;rw [if_neg (not_not_intro fhc0),if_neg (not_not_intro fhc1),if_neg (not_not_intro fhc2),if_neg hsh,if_pos (hal.1 fhc7)]
 refine sk (tn (sr (fO (OF.assign (VEv.int .i64 0)) (nt (rt (vi (n':=0) rfl ?_))))))
 unfold ZF;rw [if_neg (not_not_intro fhc0),if_neg (not_not_intro fhc1),if_neg (not_not_intro fhc2),if_neg hsh,if_neg (fun h=>fhc7 (hal.2 h))]
end Go.Proofs.YthifchndolccgaaGreatDoor.AE
namespace Go.Proofs.YthifchndolccgaaGreatDoor.AE
open Go Go.RowKit
set_option linter.unusedVariables false
set_option linter.unusedSimpArgs false
set_option maxRecDepth 20000
set_option maxHeartbeats 2000000
noncomputable section
def okC (c:D.Clue):Prop:=(1≤c.Sense∧c.Sense≤99)∧ZX c.Play
end
end Go.Proofs.YthifchndolccgaaGreatDoor.AE
namespace Go.Proofs.YthifchndolccgaaGreatDoor.AE
open Go Go.RowKit
set_option linter.unusedVariables false
set_option linter.unusedSimpArgs false
set_option maxRecDepth 20000
set_option maxHeartbeats 2000000
noncomputable section
def QlY : Nat→Int→ByteArray→ByteArray
 | 0,_,acc=>acc
 | f+1,k,acc=>if 0<k then QlY f (k.tdiv 10) (Jw [IntKind.u8.wrap (48+k.tmod 10)]++acc) else acc
def Qmw (k:Int):ByteArray:=if k≤0 then ⟨#[109,48]⟩ else ⟨#[109]⟩++QlY k.toNat k ⟨#[]⟩
end
end Go.Proofs.YthifchndolccgaaGreatDoor.AE
namespace Go.Proofs.YthifchndolccgaaGreatDoor.AE
open Go Go.RowKit
set_option linter.unusedVariables false
set_option linter.unusedSimpArgs false
set_option maxRecDepth 20000
set_option maxHeartbeats 2000000
noncomputable section
def Ql1 (k:Nat):D.Step:=(D.Step.mk ((k:Nat):Int) (Qmw ((k+1:Nat):Int)) ((k+2:Nat):Int) ((k+3:Nat):Int))
end
end Go.Proofs.YthifchndolccgaaGreatDoor.AE
namespace Go.Proofs.YthifchndolccgaaGreatDoor.AE
open Go Go.RowKit
set_option linter.unusedVariables false
set_option linter.unusedSimpArgs false
set_option maxRecDepth 20000
set_option maxHeartbeats 2000000
noncomputable section
def QdZ (c:D.Clue):Nat:=1+4*c.Play.length
def Qds (k:Nat) (c:D.Clue):D.Clue:=D.Clue.mk ((k:Nat):Int) (mkN Ql1 4 (k+1) c.Play.length)
theorem QhD (k:Nat) (c:D.Clue):QdZ (Qds k c)=QdZ c:=by unfold QdZ Qds;simp only [QH]
theorem Qks (k:Nat) (c:D.Clue):Qds k (Qds k c)=Qds k c:=by unfold Qds;simp only [QH]
theorem Qkk (c:D.Clue):QdZ c≤5*(1+QO c):=by
 have:=Zf (z:=Zk) c.Play
 unfold QdZ QO
 omega
def Qdn : Nat→List D.Clue→List D.Clue:=mkL Qds QdZ
def QfO : Nat→List D.Clue→Nat:=mkE QdZ
theorem Zg (k:Nat) (l:List D.Clue):Qdn k l=Qdn k (Qdn k l):=Qf2 QhD Qks k l
theorem Qp (k k2:Nat) (l:List D.Clue):QfO k (Qdn k2 l)=QfO k l:=QgQ QhD k k2 l
theorem Qg8 (k:Nat) (l:List D.Clue):QfO k l≤k+5*zL QO l:=QiH Qkk k l
end
end Go.Proofs.YthifchndolccgaaGreatDoor.AE
namespace Go.Proofs.YthifchndolccgaaGreatDoor.AE
open Go Go.RowKit
set_option linter.unusedVariables false
set_option linter.unusedSimpArgs false
set_option maxRecDepth 20000
set_option maxHeartbeats 2000000
noncomputable section
theorem Qfq {ok:Nat→Prop} [DecidablePred ok]:∀(f n k:Nat),n≤k→k<JS ok f n→ok k
 | 0,n,k,h1,h2=>by simp only [JS] at h2;omega
 | f+1,n,k,h1,h2=>by
  simp only [JS] at h2
  split at h2
  ·by_cases e:k=n
   ·subst e;assumption
   ·exact Qfq f (n+1) k (by omega) h2
  ·omega
theorem QiU {g:D.Grid} {cell k:Nat} {down:Bool} (hg:gridOk g) (hc:cell<g.Cells.size) (hk:k<Qn g cell down):0≤((cell:Nat):Int)+((k:Nat):Int)*(if down=true then g.Cols else 1)∧((cell:Nat):Int)+((k:Nat):Int)*(if down=true then g.Cols else 1)<((g.Cells.size:Nat):Int):=by
 have hB:=hg.2.1
 obtain ⟨_,_,_,h4,h5⟩:=QaR hg hc
 unfold Qn at hk
 cases down with
 | true =>
  rw [if_pos rfl] at hk
  unfold Qe3 at hk
  split at hk
  ·have h1:=Qfq _ _ k (Nat.zero_le _) hk
   have h2:=h5 k h1.1
   have h3:0≤((k:Nat):Int)*g.Cols:=Int.mul_nonneg (by omega) (by omega)
   rw [if_pos rfl]
   omega
  ·omega
 | false =>
  rw [if_neg (by simp)] at hk
  unfold Qe2 at hk
  split at hk
  ·have h1:=Qfq _ _ k (Nat.zero_le _) hk
   have h2:=h4 k h1.1
   rw [if_neg (by simp),Int.mul_one]
   omega
  ·omega
theorem QcL (g:D.Grid):∀i,∀s∈(Qd g i).1,∃c:Nat,c<i∧s.Cell=((c:Nat):Int)∧s.Length=((Qn g c s.Down:Nat):Int)
 | 0,s,hs=>by simp [Qd] at hs
 | i+1,s,hs=>by
  rw [Z6,List.mem_append,List.mem_append] at hs
  rcases hs with (hs | hs) | hs
  ·obtain ⟨c,h1,h2⟩:=QcL g i s hs
   exact ⟨c,by omega,h2⟩
  ·split at hs
   ·obtain rfl:=List.mem_singleton.1 hs
    exact ⟨i,by omega,rfl,rfl⟩
   ·cases hs
  ·split at hs
   ·obtain rfl:=List.mem_singleton.1 hs
    exact ⟨i,by omega,rfl,rfl⟩
   ·cases hs
theorem Qe5 {g:D.Grid} {s:D.Slot} {c:Int} (hs:s∈Qa g) (hc:c∈Qh g s s.Length.toNat):0≤c∧c<((g.Cells.size:Nat):Int):=by
 have hg:=(J2 hs).1
 unfold Qa at hs
 rw [if_pos hg] at hs
 obtain ⟨c0,h1,h2,h3⟩:=QcL g _ s hs
 unfold Qh at hc
 obtain ⟨k,hk,rfl⟩:=List.mem_map.1 hc
 rw [List.mem_range] at hk
 have:=QiU (down:=s.Down) hg h1 (k:=k) (by omega)
 rw [h2]
 unfold Qeb
 exact this
def YA (f:ByteArray) (l:List Int):List Int:=l.map fun c=>Qr f (Int.toNat c)
theorem Qii {f:ByteArray} {l:List Int} {i:Nat} {c:Int} (h:l[i]? =some c):YA f (l.take i)++ [Qr f (Int.toNat c)]=YA f (l.take (i+1)):=by
 unfold YA
 rw [List.take_add_one,h,Option.toList_some,List.map_append];rfl
theorem QjB (f:ByteArray) (l:List Int):(YA f l).length=l.length:=by simp [YA]
def Je (f:ByteArray) (l:List Int):ByteArray:=Jw (YA f l)
theorem Qja {f:ByteArray} {l:List Int} {i:Nat} {c:Int} (h:l[i]? =some c) (h1:0≤c∧c<((f.size:Nat):Int)):Je f (l.take (i+1))=Je f (l.take i)++f.extract (Int.toNat c) (Int.toNat (c+1)):=by
 have hc:Int.toNat c<f.data.toList.length:=by rw [Array.length_toList];show Int.toNat c<f.size;omega
 refine Qcz ?_
 unfold Je YA
 rw [List.take_add_one,h,Option.toList_some,List.map_append,Y2,ByteArray.data_append,Array.toList_append,Y2,List.map_append]
 congr 1
 rw [ByteArray.data_extract,Array.toList_extract,List.extract_eq_take_drop,show Int.toNat (c+1) - Int.toNat c=1 by omega,List.drop_eq_getElem_cons hc]
 have hb:Qr f (Int.toNat c)=((f.data.toList[Int.toNat c]).toNat:Int):=by
  rw [← Yd (show Int.toNat c<f.size by omega)];rfl
 simp [hb]
theorem Qgh (f:ByteArray) (l:List Int):(Je f l).size=l.length:=by
 show (Je f l).data.size=_
 rw [← Array.length_toList]
 unfold Je YA
 rw [Y2]
 simp
def ZU (g:D.Grid) (f:ByteArray) (slot:Int):ByteArray:=if 0≤slot then (match (Qa g)[slot.toNat]? with | some s=>if QS g f then Je f (Qh g s s.Length.toNat) else ⟨#[]⟩ | none=>⟨#[]⟩) else ⟨#[]⟩
theorem Qhq {g:D.Grid} {f:ByteArray} {slot:Int} (h:¬QS g f∨¬(0≤slot∧slot≤(((Qa g).length:Nat):Int) - 1)):ZU g f slot=⟨#[]⟩:=by
 unfold ZU
 by_cases h0:0≤slot
 ·rw [if_pos h0]
  cases hs:(Qa g)[slot.toNat]? with
  | none=>rfl
  | some s =>
   have:=(List.getElem?_eq_some_iff.1 hs).1
   simp only
   rw [if_neg]
   rcases h with h | h
   ·exact h
   ·exact absurd ⟨h0,by omega⟩ h
 ·rw [if_neg h0]
theorem QdE {g:D.Grid} {f:ByteArray} {slot:Int} {s:D.Slot} (h0:0≤slot) (hs:(Qa g)[slot.toNat]? =some s) (hf:QS g f):ZU g f slot=Je f (Qh g s s.Length.toNat):=by
 unfold ZU
 rw [if_pos h0,hs]
 exact if_pos hf
def ZK (g:D.Grid) (f:ByteArray):List ByteArray:=if QS g f then (QD g).map (Je f) else []
theorem Qjk {g:D.Grid} {f:ByteArray} {i:Nat} {x:ByteArray} (h:(ZK g f)[i]? =some x):x=ZU g f ((i:Nat):Int):=by
 unfold ZK at h
 split at h
 ·rename_i hf
  rw [List.getElem?_map] at h
  obtain ⟨y,h1,rfl⟩:=Option.map_eq_some_iff.1 h
  obtain ⟨s,h2,rfl⟩:=Qdr h1
  exact (QdE (by omega) h2 hf).symm
 ·simp at h
theorem QeO {g:D.Grid} {f:ByteArray} (h:QS g f):(ZK g f).length=(Qa g).length:=by
 unfold ZK
 rw [if_pos h,List.length_map,JY]
theorem QkZ {g:D.Grid} {s:D.Slot} {f:ByteArray} {i:Nat} {c:Int} (hf:QS g f) (h:(if s∈Qa g then Qh g s s.Length.toNat else [])[i]? =some c):0≤c∧c<((f.size:Nat):Int):=by
 have hm:=List.mem_of_getElem? h
 split at hm
 ·rename_i hs
  have:=Qe5 hs hm
  have:=hf.2.1
  omega
 ·cases hm
end
theorem Qbs (n:Nat) (g:D.Grid) (f:ByteArray) (slot:Int) (hc:g.Cells.size≤maxLen) (hf:f.size≤maxLen):Pure (Qo Tryz.prog (n+5)) 122 [(T.agg (Qb false g)),(tS f),(tI slot)] (tS (ZU g f slot)):=by
 refine Pure.intro (rs:= [ResultVar.tmp 6]) Tryz.func122 rfl rfl rfl (E0:= [(0,(T.agg (Qb false g))),(1,(tS f)),(2,(tI slot))]) rfl ?_
 obtain ⟨hlim,hmx,hmax⟩:=QF
 have hsl:=Q5 g
 refine sr (kO (B.box (ts:=(Qb false g)) (tv (T.agg (Qb false g)) rfl) nofun rfl) (fO (OF.assign (VEv.str (⟨#[]⟩:ByteArray))) (nt (sr (lO (OL.loadOn (us:=(Qb false g)) (tv (T.op 0 0) rfl) rfl QP QN (lb rfl) rfl) (cO (OC.callF (r':=(T.os 4 1 0 (((Qa g).map (Qf true)).length))) (objs:= [(Obj.rows 4 ((Qa g).map (Qf true)))]) rfl (vc (tv (T.agg (Qb false g)) rfl) vn) (LendL.cons (lg Qq) ln) (Zi (n+1) g (by assumption)) rfl) (aO (T.os 4 1 0 (((Qa g).map (Qf true)).length)) rfl (nt (sq (sr (lO (OL.loadOn (us:=(Qb false g)) (tv (T.op 0 0) rfl) rfl QP QN (lb rfl) rfl) ?_)))))))))))
 refine mO (tS f) rfl (cO (cS (vc (tv (T.agg (Qb false g)) rfl) (vc (tv (tS f) rfl) vn)) (LendL.cons (lg Qq) (lp rfl ln)) (JF (n+1) g f (by assumption) (by assumption)) rfl rfl) (fO (QY (tv (tB (decide (QS g f))) rfl)) (mO (tB (!(decide (QS g f)))) rfl ?_)))
 refine VRunO.joinB 7 [18,19,20,21,22,23] 24 (tB (decide ((¬(QS g f))∨(¬(0≤slot∧slot≤((((Qa g).length:Nat):Int) - 1)))))) ?_ ?_
 ·refine gn (QS g f) (fun fhg17_1=> ?_) fun fhg17_1=> ?_
  ·refine Qx 6 4 false 17 (ny fhg17_1) rfl rfl rfl ?_
   refine fO (OF.pickT (VEv.tmpB rfl (ny fhg17_1)) (VEv.bool true)) (VRunO.nil ?_)
   exact jq (congrArg T.bool (kOT fhg17_1)) (js rfl (js rfl (js rfl (js rfl (js rfl (js rfl (jn)))))))
  ·refine gF (nz fhg17_1) rfl rfl (OF.move (tv (tI slot) rfl)) ?_
   refine gF (nz fhg17_1) rfl rfl (OF.move (tv (T.os 4 1 0 (((Qa g).map (Qf true)).length)) rfl)) (gL (nz fhg17_1) rfl rfl (B.lenO (m:=(Qa g).length) (tv (T.os 4 1 0 (((Qa g).map (Qf true)).length)) rfl) J6 (List.length_map ..)) (gF (nz fhg17_1) rfl rfl (B.sub (n:=((((Qa g).length:Nat):Int) - 1)) (tv (tN ((Qa g).length)) rfl) (VEv.int .i64 1) (by (rw [Qs (by omega)];done))) (VRunO.chain (VWant.on rfl rfl (nz fhg17_1)) (cS (vc (tv (tI slot) rfl) (vc (VEv.int .i64 0) (vc (tv (tI ((((Qa g).length:Nat):Int) - 1)) rfl) vn))) (ZQ rfl) (QQ (n+3) slot 0 ((((Qa g).length:Nat):Int) - 1)) rfl rfl) (gF (nz fhg17_1) rfl rfl (QY (tv (tB (decide (0≤slot∧slot≤((((Qa g).length:Nat):Int) - 1)))) rfl)) (fO (OF.pickF (VEv.tmpB rfl (nz fhg17_1)) (tv (tB (!(decide (0≤slot∧slot≤((((Qa g).length:Nat):Int) - 1))))) rfl)) (VRunO.nil ?_))))))
   exact jq (congrArg T.bool (kOF (not_not_intro fhg17_1) dN)) (js rfl (js rfl (js rfl (js rfl (js rfl (js rfl (jn)))))))
 refine nt ?_
 refine cd ((¬(QS g f))∨(¬(0≤slot∧slot≤((((Qa g).length:Nat):Int) - 1)))) rfl (fun fhc0=> ?_) fun fhc0=> ?_
 ·refine sr ?_
  refine fO (OF.assign (VEv.str (⟨#[]⟩:ByteArray))) (nt (rt (tr ?_)))
  refine vfin.eq (r':=(tS (⟨#[]⟩:ByteArray))) ?_ (vfin.r (VRes.tmp (t:=(tS (⟨#[]⟩:ByteArray))) rfl VRes.nil) (Give.str _))
  refine congrArg T.str ?_
  exact (Qhq fhc0).symm
 have hs0:0≤slot∧slot≤(((Qa g).length:Nat):Int) - 1:=Classical.byContradiction fun h=>fhc0 (.inr h)
 have hfi:QS g f:=Classical.byContradiction fun h=>fhc0 (.inl h)
 have hsz:=hfi.1.size
 refine sk (tn (sr (fO (OF.assign (VEv.str (⟨#[]⟩:ByteArray))) (nt (sq (VRun.draw (B:= [[],[],[],[2,1],[1,2,3],[3,2,1,4,0],[0,4,1,2,3,5]]) (by kernel_rfl) (by kernel_rfl) (lD (OL.loadOn (us:=(Qb false g)) (tv (T.op 0 0) rfl) rfl QP QN (lb rfl) rfl) rfl rfl (mD (T.os 4 1 0 (((Qa g).map (Qf true)).length)) rfl rfl (mD (tI slot) rfl rfl ?_)))))))))
 obtain ⟨x1,hx1⟩:∃x,(Qa g)[(Int.toNat slot)]? =some x:=⟨_,List.getElem?_eq_getElem (by omega)⟩
 skip
 refine fD (B.indexAddrO (i:=(Int.toNat slot)) (tv (T.os 4 1 0 (((Qa g).map (Qf true)).length)) rfl) (tv (tI slot) rfl) (by omega) (by (simp only [List.length_map];omega)) J6 ZJ Qc5) rfl rfl (lD (OL.loadPn (us:=(Qf false x1)) (row:=(Qf true x1)) (tv (T.orp 4 1 (Int.toNat slot) 0) rfl) rfl (Qw _ hx1) Qfs ZJ (lb rfl) rfl (bc rfl (bc rfl (bc rfl (bc rfl bn))))) rfl rfl (VRunD.quiet (bi:= [3,2,1,4,0]) rfl VWant.always rfl rfl rfl bn (OC.callF (r':=(T.os 1 2 0 (((if x1∈Qa g then Qh g x1 x1.Length.toNat else []).map (Qc true)).length))) (objs:= [(Obj.rows 1 ((if x1∈Qa g then Qh g x1 x1.Length.toNat else []).map (Qc true)))]) rfl (vc (tv (T.agg (Qb false g)) rfl) (vc (tv (T.agg (Qf false x1)) rfl) vn)) (LendL.cons (lg Qq) (LendL.cons (lg okeSlot) ln)) (Jh (n+0) g x1 (by assumption)) rfl) (fD (OF.assign (tv (T.os 1 2 0 (((if x1∈Qa g then Qh g x1 x1.Length.toNat else []).map (Qc true)).length)) rfl)) rfl rfl (VRunD.nil (tn (sq (sr (fO (OF.assign (VEv.int .i64 0)) (nt (VRun.block ?_))))))))))
 refine VRun.loop (A:=Nat) (fun s_=> [(1,(tS f)),(6,(tS (⟨#[]⟩:ByteArray))),(8,(tS (Je f ((if x1∈Qa g then Qh g x1 x1.Length.toNat else []).take s_)))),(9,(T.os 1 0 0 (((if x1∈Qa g then Qh g x1 x1.Length.toNat else []).map (Qc true)).length))),(10,(tN s_))]) (fun s_=>Q0 [(0,(Obj.rows 1 ((if x1∈Qa g then Qh g x1 x1.Length.toNat else []).map (Qc true))))]) 1 (fun s_=>s_≤(if x1∈Qa g then Qh g x1 x1.Length.toNat else []).length) (fun s_=>(if x1∈Qa g then Qh g x1 x1.Length.toNat else []).length - s_) (0:Nat) ?_ (Wk.mk (fun k=>if k=0 then 2 else k) ?_ ?_ ?_) ?_
 ·(simp;done)
 ·exact (b2 (b2 (bc ⟨(congrArg T.str (show (⟨#[]⟩:ByteArray)=Je f ((if x1∈Qa g then Qh g x1 x1.Length.toNat else []).take 0) from (by rfl))),rfl⟩ (b2 (b2 bn)))))
 ·exact (b3 bn)
 ·exact nd rfl
 rintro i (hI':i≤(if x1∈Qa g then Qh g x1 x1.Length.toNat else []).length)
 show VRun _ _ _ [(1,(tS f)),(6,(tS (⟨#[]⟩:ByteArray))),(8,(tS (Je f ((if x1∈Qa g then Qh g x1 x1.Length.toNat else []).take i)))),(9,(T.os 1 0 0 (((if x1∈Qa g then Qh g x1 x1.Length.toNat else []).map (Qc true)).length))),(10,(tN i))] (Q0 [(0,(Obj.rows 1 ((if x1∈Qa g then Qh g x1 x1.Length.toNat else []).map (Qc true))))]) 1 _
 have hI1:=hI'
 have hl6:=QfQ g x1
 have hps:=Qgh f ((if x1∈Qa g then Qh g x1 x1.Length.toNat else []).take i)
 have htl:=ZZ (if x1∈Qa g then Qh g x1 x1.Length.toNat else []) i
 refine sq (sr (mO (tN i) rfl (mO (T.os 1 0 0 (((if x1∈Qa g then Qh g x1 x1.Length.toNat else []).map (Qc true)).length)) rfl (lO (B.lenO (m:=(if x1∈Qa g then Qh g x1 x1.Length.toNat else []).length) (tv (T.os 1 0 0 (((if x1∈Qa g then Qh g x1 x1.Length.toNat else []).map (Qc true)).length)) rfl) ZL (List.length_map ..)) (fO (Ze (tv (tN i) rfl) (tv (tN ((if x1∈Qa g then Qh g x1 x1.Length.toNat else []).length)) rfl)) (nt ?_))))))
 refine cd (i<(if x1∈Qa g then Qh g x1 x1.Length.toNat else []).length) rfl (fun fhc1=> ?_) fun fhc1=> ?_
 ·refine sk ?_
  refine tn (sq (VRun.block (VRun.draw (B:= [[],[],[],[],[3,2],[2,3,4],[],[],[7,6],[6,7,8],[8,7,6,9],[9,6,7,8,10,4,3,2,5,1],[1,5,2,3,4,10,8,7,6,9,11,0],[0,11,9,6,7,8,10,4,3,2,5,1,12]]) (by kernel_rfl) (by kernel_rfl) (mD (tS (Je f ((if x1∈Qa g then Qh g x1 x1.Length.toNat else []).take i))) rfl rfl (mD (tS f) rfl rfl (mD (T.os 1 0 0 (((if x1∈Qa g then Qh g x1 x1.Length.toNat else []).map (Qc true)).length)) rfl rfl (mD (tN i) rfl rfl ?_)))))))
  obtain ⟨x2,hx2⟩:∃x,(if x1∈Qa g then Qh g x1 x1.Length.toNat else [])[i]? =some x:=⟨_,List.getElem?_eq_getElem (by omega)⟩
  have hcb:=QkZ hfi hx2
  refine fD (B.indexAddrO (i:=i) (tv (T.os 1 0 0 (((if x1∈Qa g then Qh g x1 x1.Length.toNat else []).map (Qc true)).length)) rfl) (tv (tN i) rfl) rfl (by (simp only [List.length_map];omega)) ZL Zv Y7) rfl rfl (lD (OL.loadP1 (t:=(tI x2)) (row:=(Qc true x2)) (tv (T.orp 1 0 i 0) rfl) rfl (Qw _ hx2) rfl rfl QV) rfl rfl (mD (T.os 1 0 0 (((if x1∈Qa g then Qh g x1 x1.Length.toNat else []).map (Qc true)).length)) rfl rfl (mD (tN i) rfl rfl (fD (B.indexAddrO (i:=i) (tv (T.os 1 0 0 (((if x1∈Qa g then Qh g x1 x1.Length.toNat else []).map (Qc true)).length)) rfl) (tv (tN i) rfl) rfl (by (simp only [List.length_map];omega)) ZL Zv Y7) rfl rfl (lD (OL.loadP1 (t:=(tI x2)) (row:=(Qc true x2)) (tv (T.orp 1 0 i 0) rfl) rfl (Qw _ hx2) rfl rfl QV) rfl rfl (fD (B.add (n:=(x2+1)) (tv (tI x2) rfl) (VEv.int .i64 1) (by (rw [Qs (by omega)];done))) rfl rfl (lD (OL.sliceS (i:=(Int.toNat x2)) (j:=(Int.toNat (x2+1))) (tv (tS f) rfl) (tv (tI x2) rfl) (tv (tI (x2+1)) rfl) (by omega) (by omega) (by omega) (by omega) U9) rfl rfl (fD (B.sadd (tv (tS (Je f ((if x1∈Qa g then Qh g x1 x1.Length.toNat else []).take i))) rfl) (tv (tS (f.extract (Int.toNat x2) (Int.toNat (x2+1)))) rfl) (by (simp only [ByteArray.size_extract];omega))) rfl rfl (fD (OF.assign (tv (tS (Je f ((if x1∈Qa g then Qh g x1 x1.Length.toNat else []).take i)++(f.extract (Int.toNat x2) (Int.toNat (x2+1))))) rfl)) rfl rfl (VRunD.nil (vinB.n ?_)))))))))))
  refine tn (VRun.region (mO (tN i) rfl (fO (QA (tv (tN i) rfl) (VEv.int .i64 1) (by omega)) (aO (tN (i+1)) rfl (VRunO.nil (tn ?_))))))
  refine ⟨(i+1:Nat),?_,?_,Wk.mk (fun k=>k) ?_ ?_ ?_⟩
  ·trivial
  ·omega
  ·exact (b2 (b2 (bc ⟨(congrArg T.str (show (Je f ((if x1∈Qa g then Qh g x1 x1.Length.toNat else []).take i)++(f.extract (Int.toNat x2) (Int.toNat (x2+1))))=Je f ((if x1∈Qa g then Qh g x1 x1.Length.toNat else []).take (i+1)) from (by exact (Qja hx2 hcb).symm))),rfl⟩ (b2 (b2 bn)))))
  ·exact (b3 bn)
  ·exact nd rfl
 refine VRun.exit (vthn.e (vthn.e (vinB.e (tn (sr (mO (tS (Je f ((if x1∈Qa g then Qh g x1 x1.Length.toNat else []).take i))) rfl (aO (tS (Je f ((if x1∈Qa g then Qh g x1 x1.Length.toNat else []).take i))) rfl (nt (rt ?_)))))))))
 refine vfin.eq (r':=(tS (Je f ((if x1∈Qa g then Qh g x1 x1.Length.toNat else []).take i)))) ?_ (vfin.r (VRes.tmp (t:=(tS (Je f ((if x1∈Qa g then Qh g x1 x1.Length.toNat else []).take i)))) rfl VRes.nil) (Give.str _))
 refine congrArg T.str ?_
 rw [QdE hs0.1 hx1 hfi,Yt hI1 fhc1,Qft hx1]
theorem QcB (n:Nat) (f:ByteArray) (l:List Int) (hl:l.length≤64) (hb:∀c∈l,0≤c∧c<((f.size:Nat):Int)):Pure (Qo Tryz.prog (n+1)) 146 [(tS f),(rd 1 Qc l)] (tS (Je f l)):=by
 refine Pure.intro (rs:= [ResultVar.tmp 4]) Tryz.func146 rfl rfl rfl (E0:= [(0,(tS f)),(1,(rd 1 Qc l))]) rfl ?_
 obtain ⟨hlim,hmx,hmax⟩:=QF
 refine sr (fO (OF.assign (VEv.str (⟨#[]⟩:ByteArray))) (nt (sr (fO (OF.assign VEv.nils) (nt (sq (sr (mO (rd 1 Qc l) rfl (lO (B.lenR (m:=l.length) (tv (rd 1 Qc l) rfl) ZL (List.length_map ..)) (fO (OF.move (VEv.int .i64 0)) (nt ?_)))))))))))
 refine VRun.block (VRun.wk (Wk.phantom 5 1 rfl) ?_)
 have he1: []=((YA f (l.take 0)).map (QK true)):=by rfl
 refine VRun.loop (A:=Nat) (fun s_=> [(0,(tS f)),(4,(tS (⟨#[]⟩:ByteArray))),(5,(T.os 1 0 0 (((YA f (l.take s_)).map (QK true)).length))),(8,(rd 1 Qc l)),(9,(tN l.length)),(10,(tN s_))]) (fun s_=>Q0 [(0,(Obj.rows 1 ((YA f (l.take s_)).map (QK true))))]) 1 (fun s_=>s_≤l.length) (fun s_=>l.length - s_) (0:Nat) ?_ (Wk.mk (fun k=>k) ?_ ?_ ?_) ?_
 ·(simp;done)
 ·exact (b2 (b2 (bc ⟨(congrArg (fun n_=>T.os 1 0 0 n_) (show 0=((YA f (l.take 0)).map (QK true)).length from (by rfl))),rfl⟩ (b2 (b2 (b2 bn))))))
 ·exact (bc ⟨(congrArg (fun l_=>some (Obj.rows 1 l_)) he1),(lb rfl),rfl⟩ bn)
 ·exact nd rfl
 rintro i (hI':i≤l.length)
 show VRun _ _ _ [(0,(tS f)),(4,(tS (⟨#[]⟩:ByteArray))),(5,(T.os 1 0 0 (((YA f (l.take i)).map (QK true)).length))),(8,(rd 1 Qc l)),(9,(tN l.length)),(10,(tN i))] (Q0 [(0,(Obj.rows 1 ((YA f (l.take i)).map (QK true))))]) 1 _
 have hI1:=hI'
 have htl:=ZZ l i
 have hcl:=QjB f (l.take i)
 refine sr (fO (Ze (tv (tN i) rfl) (tv (tN l.length) rfl)) (nt (sq ?_)))
 refine cd (i<l.length) rfl (fun fhc0=> ?_) fun fhc0=> ?_
 ·refine sk ?_
  refine tn (sq (VRun.block (sr ?_)))
  obtain ⟨x1,hx1⟩:∃x,l[i]? =some x:=⟨_,List.getElem?_eq_getElem (by omega)⟩
  have hbx:=hb _ (List.mem_of_getElem? hx1)
  refine fO (OF.indexAddrR (row:=(Qc false x1)) (i:=i) (tv (rd 1 Qc l) rfl) (tv (tN i) rfl) rfl (Qw _ hx1) ZL Zv Y7) (lO (OL.loadR1 (t:=(tI x1)) (tv (T.rp [(tI x1)]) rfl) rfl QV) (aO (tI x1) rfl (nt (VRun.region (mO (T.os 1 0 0 (((YA f (l.take i)).map (QK true)).length)) rfl (mO (tS f) rfl (mO (tI x1) rfl ?_)))))))
  have hb2:(Int.toNat x1)<f.size:=(by omega)
  refine fO (B.index (n:=(Qr f (Int.toNat x1))) (i:=(Int.toNat x1)) (tv (tS f) rfl) (tv (tI x1) rfl) (by omega) hb2 U9 (Yd hb2)) (kO (OM.buildSlice (l:= [(T.int .u8 (Qr f (Int.toNat x1)))]) (VEvp.cons (tv (T.int .u8 (Qr f (Int.toNat x1))) rfl) VEvp.nil) rfl (by decide) (bc (nofun) bn) (bc ((bc (rfl) bn)) bn) (bc (rfl) bn) U92 zo5 (by kernel_rfl) rfl (by rw [sz5];decide) sz5 (Nat.le_of_ble_eq_true rfl)) (cO (B.append (rows:=((YA f (l.take i)).map (QK true))) (rows2:= [[(T.int .u8 (Qr f (Int.toNat x1)))]]) (rows3:=((YA f (l.take i)++ [Qr f (Int.toNat x1)]).map (QK true))) (VDst.own (tv (T.os 1 0 0 (((YA f (l.take i)).map (QK true)).length)) rfl) rfl rfl) (VSrc.own (tv (T.os 1 1 0 1) rfl) rfl rfl U92 (bc (bc rfl bn) bn)) (by decide) U92 sz5 (by decide) zo5 rfl (of_decide_eq_true (by kernel_rfl)) (by (simp only [List.length_map,List.length_append,List.length_cons,List.length_nil,List.length_replicate,List.length_set,List.length_drop,List.length_take,YD] at *;omega)) ((List.map_append (f:=QK true) (l₁:=YA f (l.take i)) (l₂:= [Qr f (Int.toNat x1)])).symm)) (aO (T.os 1 2 0 (((YA f (l.take i)++ [Qr f (Int.toNat x1)]).map (QK true)).length)) rfl (VRunO.nil (vinB.n (tn (VRun.region (fO (QA (tv (tN i) rfl) (VEv.int .i64 1) (by omega)) (mO (tN (i+1)) rfl (VRunO.nil (tn ?_)))))))))))
  have he3:(YA f (l.take i)++ [Qr f (Int.toNat x1)])=YA f (l.take (i+1)):=by exact Qii hx1
  refine ⟨(i+1:Nat),?_,?_,Wk.mk (fun k=>if k=0 then 2 else k) ?_ ?_ ?_⟩
  ·trivial
  ·omega
  ·exact (b2 (b2 (bc ⟨(congrArg (fun l_=>T.os 1 2 0 (List.map (QK true) l_).length) he3),rfl⟩ (b2 (b2 (b2 bn))))))
  ·exact (bc ⟨(congrArg (fun l_=>some (Obj.rows 1 (List.map (QK true) l_))) he3),(lb rfl),rfl⟩ bn)
  ·exact nd rfl
 refine VRun.exit (vthn.e (vthn.e (vinB.e (tn (sr (mO (T.os 1 0 0 (((YA f (l.take i)).map (QK true)).length)) rfl (lO (B.convBS (l:=YA f (l.take i)) (tv (T.os 1 0 0 (((YA f (l.take i)).map (QK true)).length)) rfl) rfl (List.length_map ..) U92 U5 U9) (aO (tS (Jw (YA f (l.take i)))) rfl (nt (rt ?_))))))))))
 refine vfin.eq (r':=(tS (Jw (YA f (l.take i))))) ?_ (vfin.r (VRes.tmp (t:=(tS (Jw (YA f (l.take i))))) rfl VRes.nil) (Give.str _))
 refine congrArg T.str ?_
 rw [Yt hI' fhc0];rfl
theorem Qc3 (n:Nat) (g:D.Grid) (f:ByteArray) (hc:g.Cells.size≤maxLen) (hf:f.size≤maxLen):Pure (Qo Tryz.prog (n+5)) 125 [(T.agg (Qb false g)),(tS f)] (T.sl true 1 ((ZK g f).map (Z4 true))):=by
 refine Pure.intro (rs:= [ResultVar.tmp 4]) Tryz.func125 rfl rfl rfl (E0:= [(0,(T.agg (Qb false g))),(1,(tS f))]) rfl ?_
 obtain ⟨hlim,hmx,hmax⟩:=QF
 have hsl:=Q5 g
 have hll:=JY g
 refine sr (kO (B.box (ts:=(Qb false g)) (tv (T.agg (Qb false g)) rfl) nofun rfl) (fO (OF.assign VEv.nils) (nt (sq (sr (lO (OL.loadOn (us:=(Qb false g)) (tv (T.op 0 0) rfl) rfl QP QN (lb rfl) rfl) (mO (tS f) rfl (cO (cS (vc (tv (T.agg (Qb false g)) rfl) (vc (tv (tS f) rfl) vn)) (LendL.cons (lg Qq) (lp rfl ln)) (Qa8 (n+1) g f (by assumption) (by assumption)) rfl rfl) (fO (QY (tv (tB (decide (QS g f))) rfl)) (nt ?_))))))))))
 refine cn (QS g f) rfl (fun fhc0=> ?_) fun fhc0=> ?_
 ·refine sr ?_
  refine fO (OF.assign VEv.nils) (nt (rt (tr ?_)))
  refine vfin.eq (r':=(T.sl true 1 [])) ?_ (vfin.r (VRes.tmp (t:=T.nils) rfl VRes.nil) (Give.nils 1))
  refine congrArg (fun l_=>T.sl true 1 (List.map (Z4 true) l_)) (a₁:= []) ?_
  exact (if_neg fhc0).symm
 refine sk (tn (sr (fO (OF.assign VEv.nils) (nt (sq (sr (lO (OL.loadOn (us:=(Qb false g)) (tv (T.op 0 0) rfl) rfl QP QN (lb rfl) rfl) (cO (OC.callF (r':=(T.os 1 1 0 (((QD g).map ((Yw 1 Qc) true)).length))) (objs:= [(Obj.rows 1 ((QD g).map ((Yw 1 Qc) true)))]) rfl (vc (tv (T.agg (Qb false g)) rfl) vn) (LendL.cons (lg Qq) ln) (YQ (n+0) g (by assumption)) rfl) (lO (B.lenO (m:=(QD g).length) (tv (T.os 1 1 0 (((QD g).map ((Yw 1 Qc) true)).length)) rfl) Qd1 (List.length_map ..)) (fO (OF.move (VEv.int .i64 0)) (nt ?_)))))))))))
 refine VRun.block (VRun.wk (Wk.freeze (sz:=1) (k:=1) (rows':=((QD g).map ((Yw 1 Qc) false))) [13] (bc rfl bn) rfl rfl ((QjH okInt).fzMap _ _)) (VRun.wk (Wk.phantom 5 1 rfl) ?_))
 have he1: []=((((QD g).take 0).map (Je f)).map (Z4 true)):=by rfl
 refine VRun.loop (A:=Nat) (fun s_=> [(1,(tS f)),(4,T.nils),(5,(T.os 1 0 0 (((((QD g).take s_).map (Je f)).map (Z4 true)).length))),(13,(rd 1 (Yw 1 Qc) (QD g))),(14,(tN ((QD g).length))),(15,(tN s_))]) (fun s_=>Q0 [(0,(Obj.rows 1 ((((QD g).take s_).map (Je f)).map (Z4 true))))]) 1 (fun s_=>s_≤(QD g).length) (fun s_=>(QD g).length - s_) (0:Nat) ?_ (Wk.mk (fun k=>if k=0 then 2 else k) ?_ ?_ ?_) ?_
 ·(simp;done)
 ·exact (b2 (b2 (bc ⟨(congrArg (fun n_=>T.os 1 2 0 n_) (show 0=((((QD g).take 0).map (Je f)).map (Z4 true)).length from (by rfl))),rfl⟩ (b2 (b2 (b2 bn))))))
 ·exact (bc ⟨(congrArg (fun l_=>some (Obj.rows 1 l_)) he1),(lb rfl),rfl⟩ bn)
 ·exact nd rfl
 rintro i (hI':i≤(QD g).length)
 show VRun _ _ _ [(1,(tS f)),(4,T.nils),(5,(T.os 1 0 0 (((((QD g).take i).map (Je f)).map (Z4 true)).length))),(13,(rd 1 (Yw 1 Qc) (QD g))),(14,(tN ((QD g).length))),(15,(tN i))] (Q0 [(0,(Obj.rows 1 ((((QD g).take i).map (Je f)).map (Z4 true))))]) 1 _
 have hI1:=hI'
 have htl:=ZZ (QD g) i
 refine sr (fO (Ze (tv (tN i) rfl) (tv (tN ((QD g).length)) rfl)) (nt (sq ?_)))
 refine cd (i<(QD g).length) rfl (fun fhc1=> ?_) fun fhc1=> ?_
 ·refine sk ?_
  refine tn (sq (VRun.block (sr ?_)))
  obtain ⟨x1,hx1⟩:∃x,(QD g)[i]? =some x:=⟨_,List.getElem?_eq_getElem (by omega)⟩
  obtain ⟨y1,hy1,hq1⟩:=Qdr hx1
  refine fO (OF.indexAddrR (row:=((Yw 1 Qc) false x1)) (i:=i) (tv (rd 1 (Yw 1 Qc) (QD g)) rfl) (tv (tN i) rfl) rfl (Qw _ hx1) Qd1 Qeu Qhe) (lO (OL.loadR1 (t:=(rd 1 Qc x1)) (tv (T.rp [(rd 1 Qc x1)]) rfl) rfl QcI) (aO (rd 1 Qc x1) rfl (nt (VRun.region (mO (T.os 1 0 0 (((((QD g).take i).map (Je f)).map (Z4 true)).length)) rfl (mO (tS f) rfl (mO (rd 1 Qc x1) rfl (cO (cS (vc (tv (tS f) rfl) (vc (tv (rd 1 Qc x1) rfl) vn)) (ZQ rfl) (QcB (n+3) f x1 (by (rw [hq1];exact Nat.le_trans (QaP hy1) (by decide))) (by (rw [hq1];intro c hc;have:=Qe5 (List.mem_of_getElem? hy1) hc;have:=fhc0.2.1;omega))) rfl rfl) (kO (OM.buildSlice (l:= [(tS (Je f x1))]) (VEvp.cons (tv (tS (Je f x1)) rfl) VEvp.nil) rfl (by decide) (bc (nofun) bn) (bc ((bc (rfl) bn)) bn) (bc (rfl) bn) U52 zo9 (by kernel_rfl) rfl (by rw [sz9];decide) sz9 (Nat.le_of_ble_eq_true rfl)) (cO (B.append (rows:=((((QD g).take i).map (Je f)).map (Z4 true))) (rows2:= [[(tS (Je f x1))]]) (rows3:=((((QD g).take i).map (Je f)++ [Je f x1]).map (Z4 true))) (VDst.own (tv (T.os 1 0 0 (((((QD g).take i).map (Je f)).map (Z4 true)).length)) rfl) rfl rfl) (VSrc.own (tv (T.os 1 1 0 1) rfl) rfl rfl U52 (bc (bc rfl bn) bn)) (by decide) U52 sz9 (by decide) zo9 rfl (of_decide_eq_true (by kernel_rfl)) (by (simp only [List.length_map,List.length_append,List.length_cons,List.length_nil,List.length_replicate,List.length_set,List.length_drop,List.length_take,YD] at *;omega)) ((List.map_append (f:=Z4 true) (l₁:=((QD g).take i).map (Je f)) (l₂:= [Je f x1])).symm)) (aO (T.os 1 2 0 (((((QD g).take i).map (Je f)++ [Je f x1]).map (Z4 true)).length)) rfl ?_)))))))))))
  refine VRunO.nil (vinB.n (tn (VRun.region (fO (QA (tv (tN i) rfl) (VEv.int .i64 1) (by omega)) (mO (tN (i+1)) rfl (VRunO.nil (tn ?_)))))))
  have he2:(((QD g).take i).map (Je f)++ [Je f x1])=((QD g).take (i+1)).map (Je f):=by (rw [List.take_add_one,hx1,Option.toList_some,List.map_append];rfl)
  refine ⟨(i+1:Nat),?_,?_,Wk.mk (fun k=>if k=0 then 2 else k) ?_ ?_ ?_⟩
  ·trivial
  ·omega
  ·exact (b2 (b2 (bc ⟨(congrArg (fun l_=>T.os 1 2 0 (List.map (Z4 true) l_).length) he2),rfl⟩ (b2 (b2 (b2 bn))))))
  ·exact (bc ⟨(congrArg (fun l_=>some (Obj.rows 1 (List.map (Z4 true) l_))) he2),(lb rfl),rfl⟩ bn)
  ·exact nd rfl
 refine VRun.exit (vthn.e (vthn.e (vinB.e (tn (sr (mO (T.os 1 0 0 (((((QD g).take i).map (Je f)).map (Z4 true)).length)) rfl (aO (T.os 1 0 0 (((((QD g).take i).map (Je f)).map (Z4 true)).length)) rfl (nt (rt ?_)))))))))
 refine vfin.eq (r':=(T.sl true 1 ((((QD g).take i).map (Je f)).map (Z4 true)))) ?_ (vfin.r (VRes.tmp (t:=(T.os 1 0 0 (((((QD g).take i).map (Je f)).map (Z4 true)).length))) rfl VRes.nil) (Give.os rfl rfl (okStr.cleanMap _)))
 refine congrArg (fun l_=>T.sl true 1 (List.map (Z4 true) l_)) ?_
 rw [Yt hI' fhc1,ZK,if_pos (by simpa using fhc0)]
end Go.Proofs.YthifchndolccgaaGreatDoor.AE
namespace Go.Proofs.YthifchndolccgaaGreatDoor.AE
open Go Go.RowKit
set_option linter.unusedVariables false
set_option linter.unusedSimpArgs false
set_option maxRecDepth 20000
set_option maxHeartbeats 2000000
noncomputable section
theorem Qab (n:Int) {m:Int} (h:0<m): -m<n.tmod m∧n.tmod m<m:=⟨Int.lt_tmod_of_pos n h,Int.tmod_lt_of_pos n h⟩
def Yy (n m:Int):Int:=if 1≤m∧m≤1000000000000 then (n.tmod m+m).tmod m else 0
theorem Qfx (n:Int):0≤Yy n 2147483647∧Yy n 2147483647<2147483647:=by
 unfold Yy
 rw [if_pos (by omega)]
 have h1:=Qab n (m:=2147483647) (by decide)
 have h2:=Qab (n.tmod 2147483647+2147483647) (m:=2147483647) (by decide)
 exact ⟨Int.tmod_nonneg _ (by omega),h2.2⟩
def Qb4 (d x:Int):Int:=(d*1000003+Yy x 2147483647+13).tmod 2147483647
def QU (l:List Int):Int:=l.foldl Qb4 11
theorem Qdv {d x:Int} (h:0≤d∧d<2147483647):0≤Qb4 d x∧Qb4 d x<2147483647:=by
 have h1:=Qfx x
 unfold Qb4
 exact ⟨Int.tmod_nonneg _ (by omega),(Qab _ (by decide)).2⟩
theorem QeR : ∀(l:List Int) (d:Int),0≤d∧d<2147483647→0≤l.foldl Qb4 d∧l.foldl Qb4 d<2147483647
 | [],d,h=>h
 | x::r,d,h=>QeR r _ (Qdv h)
theorem QgJ (l:List Int):0≤QU l∧QU l<2147483647:=QeR l 11 (by decide)
theorem Qdw {l:List Int} {i:Nat} {x:Int} (h:l[i]? =some x):QU (l.take (i+1))=Qb4 (QU (l.take i)) x:=by
 unfold QU
 rw [List.take_add_one,h,Option.toList_some,List.foldl_append]
 rfl
theorem Qjz (s:ByteArray) (i:Nat):0≤Qr s i∧Qr s i<256:=by
 unfold Qr
 split
 ·have:=(s[i]).toNat_lt
  omega
 ·decide
theorem Qlb {s:ByteArray} {i:Nat} (h:i<s.size):(ZB s)[i]? =some (Qr s i):=by
 unfold ZB
 rw [List.getElem?_map,List.getElem?_eq_getElem (by rw [Array.length_toList];exact h),Option.map_some,← Yd h]
 rfl
theorem Qgq {s:ByteArray} {i:Nat} (h:i<s.size):(ZB s).take i++ [Qr s i]=(ZB s).take (i+1):=by
 rw [List.take_add_one,Qlb h];rfl
def Y1 (salt slot:Int) (w:ByteArray):Int:=if Q7 w then QU ([salt,slot,((w.size:Nat):Int)]++ZB w) else 0
def QdK (seals:List Int) (salt slot:Int) (w:ByteArray):Prop:=0≤slot∧Q7 w∧seals[slot.toNat]? =some (Y1 salt slot w)
instance (seals:List Int) (salt slot:Int) (w:ByteArray):Decidable (QdK seals salt slot w):=Classical.propDecidable _
theorem QhT {seals:List Int} {salt slot x:Int} {w:ByteArray} (h0:0≤slot) (hw:Q7 w) (hx:seals[slot.toNat]? =some x):Y1 salt slot w=x↔QdK seals salt slot w:=by
 unfold QdK
 rw [hx]
 exact ⟨fun h=>⟨h0,hw,by rw [h]⟩,fun h=>(Option.some.inj h.2.2).symm⟩
theorem Qdo {seals:List Int} {salt slot:Int} {w:ByteArray} (h:QdK seals salt slot w):slot<((seals.length:Nat):Int):=by
 have:=(List.getElem?_eq_some_iff.1 h.2.2).1
 omega
end
theorem Qhi (n:Nat) (n0:Int) (m:Int):Pure (Qo Tryz.prog (n+2)) 168 [(tI n0),(tI m)] (tI (Yy n0 m)):=by
 refine Pure.intro (rs:= [ResultVar.tmp 4]) Tryz.func168 rfl rfl rfl (E0:= [(0,(tI n0)),(1,(tI m))]) rfl ?_
 obtain ⟨hlim,hmx,hmax⟩:=QF
 refine sr (fO (OF.assign (VEv.int .i64 0)) (nt (sq (sr (mO (tI m) rfl (cO (cS (vc (tv (tI m) rfl) (vc (VEv.int .i64 1) (vc (VEv.int .i64 1000000000000) vn))) (ZQ rfl) (QQ (n+0) m 1 1000000000000) rfl rfl) (fO (QY (tv (tB (decide (1≤m∧m≤1000000000000))) rfl)) (nt ?_))))))))
 refine cn (1≤m∧m≤1000000000000) rfl (fun fhc0=> ?_) fun fhc0=> ?_
 ·refine sr ?_
  refine fO (OF.assign (VEv.int .i64 0)) (nt (rt (tr (vi (n':=0) rfl ?_))))
  unfold Yy;rw [if_neg fhc0]
 have hmd:=Qab n0 (m:=m) (by omega)
 have hmd2:=Qab (n0.tmod m+m) (m:=m) (by omega)
 refine sk (tn (sr (mO (tI n0) rfl (mO (tI m) rfl (fO (B.rem (n:=(n0.tmod m)) (tv (tI n0) rfl) (tv (tI m) rfl) (by omega) (by rfl)) (mO (tI m) rfl (fO (B.add (n:=((n0.tmod m)+m)) (tv (tI (n0.tmod m)) rfl) (tv (tI m) rfl) (by (rw [Qs (by omega)];done))) (mO (tI m) rfl (fO (B.rem (n:=(((n0.tmod m)+m).tmod m)) (tv (tI ((n0.tmod m)+m)) rfl) (tv (tI m) rfl) (by omega) (by rfl)) (aO (tI (((n0.tmod m)+m).tmod m)) rfl (nt ?_)))))))))))
 refine rt (vi (n':=(((n0.tmod m)+m).tmod m)) rfl ?_)
 unfold Yy;rw [if_pos (by omega)]
theorem Qhm (n:Nat) (n0:Int) (m:Int):Pure (Qo Tryz.prog (n+2)) 169 [(tI n0),(tI m)] (tI (Yy n0 m)):=by
 refine Pure.intro (rs:= [ResultVar.tmp 4]) Tryz.func169 rfl rfl rfl (E0:= [(0,(tI n0)),(1,(tI m))]) rfl ?_
 obtain ⟨hlim,hmx,hmax⟩:=QF
 refine sr (fO (OF.assign (VEv.int .i64 0)) (nt (sq (sr (mO (tI m) rfl (cO (cS (vc (tv (tI m) rfl) (vc (VEv.int .i64 1) (vc (VEv.int .i64 1000000000000) vn))) (ZQ rfl) (Q9 (n+0) m 1 1000000000000) rfl rfl) (fO (QY (tv (tB (decide (1≤m∧m≤1000000000000))) rfl)) (nt ?_))))))))
 refine cn (1≤m∧m≤1000000000000) rfl (fun fhc0=> ?_) fun fhc0=> ?_
 ·refine sr ?_
  refine fO (OF.assign (VEv.int .i64 0)) (nt (rt (tr (vi (n':=0) rfl ?_))))
  unfold Yy;rw [if_neg fhc0]
 have hmd:=Qab n0 (m:=m) (by omega)
 have hmd2:=Qab (n0.tmod m+m) (m:=m) (by omega)
 refine sk (tn (sr (mO (tI n0) rfl (mO (tI m) rfl (fO (B.rem (n:=(n0.tmod m)) (tv (tI n0) rfl) (tv (tI m) rfl) (by omega) (by rfl)) (mO (tI m) rfl (fO (B.add (n:=((n0.tmod m)+m)) (tv (tI (n0.tmod m)) rfl) (tv (tI m) rfl) (by (rw [Qs (by omega)];done))) (mO (tI m) rfl (fO (B.rem (n:=(((n0.tmod m)+m).tmod m)) (tv (tI ((n0.tmod m)+m)) rfl) (tv (tI m) rfl) (by omega) (by rfl)) (aO (tI (((n0.tmod m)+m).tmod m)) rfl (nt ?_)))))))))))
 refine rt (vi (n':=(((n0.tmod m)+m).tmod m)) rfl ?_)
 unfold Yy;rw [if_pos (by omega)]
theorem Qgp (n:Nat) (l:List Int) (hl:l.length≤YD):Pure (Qo Tryz.prog (n+3)) 157 [(rd 1 Qc l)] (tI (QU l)):=by
 refine Pure.intro (rs:= [ResultVar.tmp 2]) Tryz.func157 rfl rfl rfl (E0:= [(0,(rd 1 Qc l))]) rfl ?_
 obtain ⟨hlim,hmx,hmax⟩:=QF
 refine sr (fO (OF.assign (VEv.int .i64 0)) (nt (sr (fO (OF.assign (VEv.int .i64 11)) (nt (sq (sr (fO (OF.assign (VEv.int .i64 0)) (nt (VRun.block ?_))))))))))
 refine VRun.loop (A:=Nat) (fun s_=> [(0,(rd 1 Qc l)),(2,(tN 0)),(3,(tI (QU (l.take s_)))),(4,(tN s_))]) (fun s_=>Q0 []) 0 (fun s_=>s_≤l.length) (fun s_=>l.length - s_) (0:Nat) ?_ (Wk.mk (fun k=>k) ?_ ?_ ?_) ?_
 ·(simp;done)
 ·exact (b2 (b2 (bc ⟨(congrArg (T.int .i64) (show 11=QU (l.take 0) from (by rfl))),rfl⟩ (b2 bn))))
 ·exact bn
 ·exact nd rfl
 rintro i (hI':i≤l.length)
 show VRun _ _ _ [(0,(rd 1 Qc l)),(2,(tN 0)),(3,(tI (QU (l.take i)))),(4,(tN i))] (Q0 []) 0 _
 have hhb:=QgJ (l.take i)
 refine sq (sr (mO (tN i) rfl (mO (rd 1 Qc l) rfl (lO (B.lenR (m:=l.length) (tv (rd 1 Qc l) rfl) ZL (List.length_map ..)) (fO (Ze (tv (tN i) rfl) (tv (tN l.length) rfl)) (nt ?_))))))
 refine cd (i<l.length) rfl (fun fhc0=> ?_) fun fhc0=> ?_
 ·refine sk ?_
  refine tn (sq (VRun.block (VRun.region (mO (tI (QU (l.take i))) rfl (fO (B.mul (n:=(QU (l.take i)*1000003)) (tv (tI (QU (l.take i))) rfl) (VEv.int .i64 1000003) (by (rw [Qs (by omega)];done))) (mO (rd 1 Qc l) rfl (mO (tN i) rfl ?_)))))))
  obtain ⟨x1,hx1⟩:∃x,l[i]? =some x:=⟨_,List.getElem?_eq_getElem (by omega)⟩
  have hmz:=Qfx x1
  have hhs:=Qdv (x:=x1) hhb
  have hhs2:Qb4 (QU (l.take i)) x1=(QU (l.take i)*1000003+Yy x1 2147483647+13).tmod 2147483647:=rfl
  refine fO (OF.indexAddrR (row:=(Qc false x1)) (i:=i) (tv (rd 1 Qc l) rfl) (tv (tN i) rfl) rfl (Qw _ hx1) ZL Zv Y7) (lO (OL.loadR1 (t:=(tI x1)) (tv (T.rp [(tI x1)]) rfl) rfl QV) (cO (cS (vc (tv (tI x1) rfl) (vc (VEv.int .i64 2147483647) vn)) (ZQ rfl) (Qhi (n+0) x1 2147483647) rfl rfl) (fO (B.add (n:=((QU (l.take i)*1000003)+Yy x1 2147483647)) (tv (tI (QU (l.take i)*1000003)) rfl) (tv (tI (Yy x1 2147483647)) rfl) (by (rw [Qs (by omega)];done))) (fO (B.add (n:=(((QU (l.take i)*1000003)+Yy x1 2147483647)+13)) (tv (tI ((QU (l.take i)*1000003)+Yy x1 2147483647)) rfl) (VEv.int .i64 13) (by (rw [Qs (by omega)];done))) (fO (B.rem (n:=((((QU (l.take i)*1000003)+Yy x1 2147483647)+13).tmod 2147483647)) (tv (tI (((QU (l.take i)*1000003)+Yy x1 2147483647)+13)) rfl) (VEv.int .i64 2147483647) (by omega) (by rfl)) (aO (tI ((((QU (l.take i)*1000003)+Yy x1 2147483647)+13).tmod 2147483647)) rfl (VRunO.nil (vinB.n (tn (VRun.region (mO (tN i) rfl ?_)))))))))))
  refine fO (QA (tv (tN i) rfl) (VEv.int .i64 1) (by omega)) (aO (tN (i+1)) rfl (VRunO.nil (tn ?_)))
  refine ⟨(i+1:Nat),?_,?_,Wk.mk (fun k=>k) ?_ ?_ ?_⟩
  ·trivial
  ·omega
  ·exact (b2 (b2 (bc ⟨(congrArg (T.int .i64) (show ((((QU (l.take i)*1000003)+Yy x1 2147483647)+13).tmod 2147483647)=QU (l.take (i+1)) from (by exact (Qdw hx1).symm))),rfl⟩ (b2 bn))))
  ·exact bn
  ·exact nd rfl
 refine VRun.exit (vthn.e (vthn.e (vinB.e (tn (sr (mO (tI (QU (l.take i))) rfl (aO (tI (QU (l.take i))) rfl (nt (rt (vi (n':=QU (l.take i)) rfl ?_))))))))))
 rw [Yt hI' fhc0]
theorem QgF (n:Nat) (l:List Int) (hl:l.length≤YD):Pure (Qo Tryz.prog (n+3)) 159 [(rd 1 Qc l)] (tI (QU l)):=by
 refine Pure.intro (rs:= [ResultVar.tmp 2]) Tryz.func159 rfl rfl rfl (E0:= [(0,(rd 1 Qc l))]) rfl ?_
 obtain ⟨hlim,hmx,hmax⟩:=QF
 refine sr (fO (OF.assign (VEv.int .i64 0)) (nt (sr (fO (OF.assign (VEv.int .i64 11)) (nt (sq (sr (mO (rd 1 Qc l) rfl (lO (B.lenR (m:=l.length) (tv (rd 1 Qc l) rfl) ZL (List.length_map ..)) (fO (OF.move (VEv.int .i64 0)) (nt ?_)))))))))))
 refine VRun.block ?_
 refine VRun.loop (A:=Nat) (fun s_=> [(2,(tN 0)),(3,(tI (QU (l.take s_)))),(6,(rd 1 Qc l)),(7,(tN l.length)),(8,(tN s_))]) (fun s_=>Q0 []) 0 (fun s_=>s_≤l.length) (fun s_=>l.length - s_) (0:Nat) ?_ (Wk.mk (fun k=>k) ?_ ?_ ?_) ?_
 ·(simp;done)
 ·exact (b2 (bc ⟨(congrArg (T.int .i64) (show 11=QU (l.take 0) from (by rfl))),rfl⟩ (b2 (b2 (b2 bn)))))
 ·exact bn
 ·exact nd rfl
 rintro i (hI':i≤l.length)
 show VRun _ _ _ [(2,(tN 0)),(3,(tI (QU (l.take i)))),(6,(rd 1 Qc l)),(7,(tN l.length)),(8,(tN i))] (Q0 []) 0 _
 have hhb:=QgJ (l.take i)
 refine sr (fO (Ze (tv (tN i) rfl) (tv (tN l.length) rfl)) (nt (sq ?_)))
 refine cd (i<l.length) rfl (fun fhc0=> ?_) fun fhc0=> ?_
 ·refine sk ?_
  refine tn (sq (VRun.block (sr ?_)))
  obtain ⟨x1,hx1⟩:∃x,l[i]? =some x:=⟨_,List.getElem?_eq_getElem (by omega)⟩
  have hmz:=Qfx x1
  have hhs:=Qdv (x:=x1) hhb
  have hhs2:Qb4 (QU (l.take i)) x1=(QU (l.take i)*1000003+Yy x1 2147483647+13).tmod 2147483647:=rfl
  refine fO (OF.indexAddrR (row:=(Qc false x1)) (i:=i) (tv (rd 1 Qc l) rfl) (tv (tN i) rfl) rfl (Qw _ hx1) ZL Zv Y7) (lO (OL.loadR1 (t:=(tI x1)) (tv (T.rp [(tI x1)]) rfl) rfl QV) (aO (tI x1) rfl (nt (VRun.region (mO (tI (QU (l.take i))) rfl (fO (B.mul (n:=(QU (l.take i)*1000003)) (tv (tI (QU (l.take i))) rfl) (VEv.int .i64 1000003) (by (rw [Qs (by omega)];done))) (mO (tI x1) rfl (cO (cS (vc (tv (tI x1) rfl) (vc (VEv.int .i64 2147483647) vn)) (ZQ rfl) (Qhm (n+0) x1 2147483647) rfl rfl) (fO (B.add (n:=((QU (l.take i)*1000003)+Yy x1 2147483647)) (tv (tI (QU (l.take i)*1000003)) rfl) (tv (tI (Yy x1 2147483647)) rfl) (by (rw [Qs (by omega)];done))) (fO (B.add (n:=(((QU (l.take i)*1000003)+Yy x1 2147483647)+13)) (tv (tI ((QU (l.take i)*1000003)+Yy x1 2147483647)) rfl) (VEv.int .i64 13) (by (rw [Qs (by omega)];done))) (fO (B.rem (n:=((((QU (l.take i)*1000003)+Yy x1 2147483647)+13).tmod 2147483647)) (tv (tI (((QU (l.take i)*1000003)+Yy x1 2147483647)+13)) rfl) (VEv.int .i64 2147483647) (by omega) (by rfl)) ?_)))))))))))
  refine aO (tI ((((QU (l.take i)*1000003)+Yy x1 2147483647)+13).tmod 2147483647)) rfl (VRunO.nil (vinB.n (tn (VRun.region (fO (QA (tv (tN i) rfl) (VEv.int .i64 1) (by omega)) (mO (tN (i+1)) rfl (VRunO.nil (tn ?_))))))))
  refine ⟨(i+1:Nat),?_,?_,Wk.mk (fun k=>k) ?_ ?_ ?_⟩
  ·trivial
  ·omega
  ·exact (b2 (bc ⟨(congrArg (T.int .i64) (show ((((QU (l.take i)*1000003)+Yy x1 2147483647)+13).tmod 2147483647)=QU (l.take (i+1)) from (by exact (Qdw hx1).symm))),rfl⟩ (b2 (b2 (b2 bn)))))
  ·exact bn
  ·exact nd rfl
 refine VRun.exit (vthn.e (vthn.e (vinB.e (tn (sr (mO (tI (QU (l.take i))) rfl (aO (tI (QU (l.take i))) rfl (nt (rt (vi (n':=QU (l.take i)) rfl ?_))))))))))
 rw [Yt hI' fhc0]
theorem QcC (n:Nat) (s:ByteArray) (hs:s.size≤YD):Pure (Qo Tryz.prog (n+1)) 158 [(tS s)] (T.sl true 1 ((ZB s).map (Qc true))):=by
 refine Pure.intro (rs:= [ResultVar.tmp 2]) Tryz.func158 rfl rfl rfl (E0:= [(0,(tS s))]) rfl ?_
 obtain ⟨hlim,hmx,hmax⟩:=QF
 have hbl:=QaK s
 refine sr (fO (OF.assign VEv.nils) (nt (sr (kO (OM.slice0 ZL zo3 (by kernel_rfl) rfl (by rw [Zv];decide) Zv) (aO (T.os 1 0 0 0) rfl (nt (sq (sr (fO (OF.assign (VEv.int .i64 0)) (nt (VRun.block ?_)))))))))))
 have he1: []=(((ZB s).take 0).map (Qc true)):=by rfl
 refine VRun.loop (A:=Nat) (fun s_=> [(0,(tS s)),(2,T.nils),(3,(T.os 1 0 0 ((((ZB s).take s_).map (Qc true)).length))),(4,(tN s_))]) (fun s_=>Q0 [(0,(Obj.rows 1 (((ZB s).take s_).map (Qc true))))]) 1 (fun s_=>s_≤s.size) (fun s_=>s.size - s_) (0:Nat) ?_ (Wk.mk (fun k=>k) ?_ ?_ ?_) ?_
 ·(simp;done)
 ·exact (b2 (b2 (bc ⟨(congrArg (fun n_=>T.os 1 0 0 n_) (show 0=(((ZB s).take 0).map (Qc true)).length from (by rfl))),rfl⟩ (b2 bn))))
 ·exact (bc ⟨(congrArg (fun l_=>some (Obj.rows 1 l_)) he1),(lb rfl),rfl⟩ bn)
 ·exact nd rfl
 rintro i (hI':i≤s.size)
 show VRun _ _ _ [(0,(tS s)),(2,T.nils),(3,(T.os 1 0 0 ((((ZB s).take i).map (Qc true)).length))),(4,(tN i))] (Q0 [(0,(Obj.rows 1 (((ZB s).take i).map (Qc true))))]) 1 _
 have htl:=ZZ (ZB s) i
 have hbb:=Qjz s i
 refine sq (sr (mO (tN i) rfl (mO (tS s) rfl (lO (B.lenS (tv (tS s) rfl) U9) (fO (Ze (tv (tN i) rfl) (tv (tN s.size) rfl)) (nt ?_))))))
 refine cd (i<s.size) rfl (fun fhc0=> ?_) fun fhc0=> ?_
 ·refine sk ?_
  refine tn (sq (VRun.block (VRun.region (mO (T.os 1 0 0 ((((ZB s).take i).map (Qc true)).length)) rfl (mO (tS s) rfl (mO (tN i) rfl ?_))))))
  have hb2:i<s.size:=(by omega)
  refine fO (Js (tv (tS s) rfl) (tv (tN i) rfl) hb2 U9) (fO (xcv (m:=(Qr s i)) (tv (T.int .u8 (Qr s i)) rfl) U5 U3 (Qs (by omega))) (kO (OM.buildSlice (l:= [(tI (Qr s i))]) (VEvp.cons (tv (tI (Qr s i)) rfl) VEvp.nil) rfl (by decide) (bc (nofun) bn) (bc ((bc (rfl) bn)) bn) (bc (rfl) bn) ZL zo3 (by kernel_rfl) rfl (by rw [Zv];decide) Zv (Nat.le_of_ble_eq_true rfl)) (cO (B.append (rows:=(((ZB s).take i).map (Qc true))) (rows2:= [[(tI (Qr s i))]]) (rows3:=(((ZB s).take i++ [Qr s i]).map (Qc true))) (VDst.own (tv (T.os 1 0 0 ((((ZB s).take i).map (Qc true)).length)) rfl) rfl rfl) (VSrc.own (tv (T.os 1 1 0 1) rfl) rfl rfl ZL (bc (bc rfl bn) bn)) (by decide) ZL Zv (by decide) zo3 rfl (of_decide_eq_true (by kernel_rfl)) (by (simp only [List.length_map,List.length_append,List.length_cons,List.length_nil,List.length_replicate,List.length_set,List.length_drop,List.length_take,YD] at *;omega)) ((List.map_append (f:=Qc true) (l₁:=(ZB s).take i) (l₂:= [Qr s i])).symm)) (aO (T.os 1 2 0 ((((ZB s).take i++ [Qr s i]).map (Qc true)).length)) rfl (VRunO.nil (vinB.n (tn (VRun.region (mO (tN i) rfl (fO (QA (tv (tN i) rfl) (VEv.int .i64 1) (by omega)) (aO (tN (i+1)) rfl ?_)))))))))))
  refine VRunO.nil (tn ?_)
  have he3:((ZB s).take i++ [Qr s i])=(ZB s).take (i+1):=by exact Qgq fhc0
  refine ⟨(i+1:Nat),?_,?_,Wk.mk (fun k=>if k=0 then 2 else k) ?_ ?_ ?_⟩
  ·trivial
  ·omega
  ·exact (b2 (b2 (bc ⟨(congrArg (fun l_=>T.os 1 2 0 (List.map (Qc true) l_).length) he3),rfl⟩ (b2 bn))))
  ·exact (bc ⟨(congrArg (fun l_=>some (Obj.rows 1 (List.map (Qc true) l_))) he3),(lb rfl),rfl⟩ bn)
  ·exact nd rfl
 refine VRun.exit (vthn.e (vthn.e (vinB.e (tn (sr (mO (T.os 1 0 0 ((((ZB s).take i).map (Qc true)).length)) rfl (aO (T.os 1 0 0 ((((ZB s).take i).map (Qc true)).length)) rfl (nt (rt ?_)))))))))
 refine vfin.eq (r':=(T.sl true 1 (((ZB s).take i).map (Qc true)))) ?_ (vfin.r (VRes.tmp (t:=(T.os 1 0 0 ((((ZB s).take i).map (Qc true)).length))) rfl VRes.nil) (Give.os rfl rfl (okInt.cleanMap _)))
 refine congrArg (fun l_=>T.sl true 1 (List.map (Qc true) l_)) ?_
 rw [Yt (by omega) (by omega)]
theorem Qcv (n:Nat) (s:ByteArray) (hs:s.size≤YD):Pure (Qo Tryz.prog (n+1)) 160 [(tS s)] (T.sl true 1 ((ZB s).map (Qc true))):=by
 refine Pure.intro (rs:= [ResultVar.tmp 2]) Tryz.func160 rfl rfl rfl (E0:= [(0,(tS s))]) rfl ?_
 obtain ⟨hlim,hmx,hmax⟩:=QF
 have hbl:=QaK s
 refine sr (fO (OF.assign VEv.nils) (nt (sr (fO (OF.assign VEv.nils) (nt (sq (sr (mO (tS s) rfl (lO (B.lenS (tv (tS s) rfl) U9) (fO (OF.move (VEv.int .i64 0)) (nt ?_)))))))))))
 refine VRun.block (VRun.wk (Wk.phantom 3 1 rfl) ?_)
 have he1: []=(((ZB s).take 0).map (Qc true)):=by rfl
 refine VRun.loop (A:=Nat) (fun s_=> [(0,(tS s)),(2,T.nils),(3,(T.os 1 0 0 ((((ZB s).take s_).map (Qc true)).length))),(6,(tN s.size)),(7,(tN s_))]) (fun s_=>Q0 [(0,(Obj.rows 1 (((ZB s).take s_).map (Qc true))))]) 1 (fun s_=>s_≤s.size) (fun s_=>s.size - s_) (0:Nat) ?_ (Wk.mk (fun k=>k) ?_ ?_ ?_) ?_
 ·(simp;done)
 ·exact (b2 (b2 (bc ⟨(congrArg (fun n_=>T.os 1 0 0 n_) (show 0=(((ZB s).take 0).map (Qc true)).length from (by rfl))),rfl⟩ (b2 (b2 bn)))))
 ·exact (bc ⟨(congrArg (fun l_=>some (Obj.rows 1 l_)) he1),(lb rfl),rfl⟩ bn)
 ·exact nd rfl
 rintro i (hI':i≤s.size)
 show VRun _ _ _ [(0,(tS s)),(2,T.nils),(3,(T.os 1 0 0 ((((ZB s).take i).map (Qc true)).length))),(6,(tN s.size)),(7,(tN i))] (Q0 [(0,(Obj.rows 1 (((ZB s).take i).map (Qc true))))]) 1 _
 have htl:=ZZ (ZB s) i
 have hbb:=Qjz s i
 refine sr (fO (Ze (tv (tN i) rfl) (tv (tN s.size) rfl)) (nt (sq ?_)))
 refine cd (i<s.size) rfl (fun fhc0=> ?_) fun fhc0=> ?_
 ·refine sk ?_
  refine tn (sq (VRun.block (sr (mO (tN i) rfl (aO (tN i) rfl (nt (VRun.region (mO (T.os 1 0 0 ((((ZB s).take i).map (Qc true)).length)) rfl (mO (tS s) rfl (mO (tN i) rfl ?_))))))))))
  have hb2:i<s.size:=(by omega)
  refine fO (Js (tv (tS s) rfl) (tv (tN i) rfl) hb2 U9) (fO (xcv (m:=(Qr s i)) (tv (T.int .u8 (Qr s i)) rfl) U5 U3 (Qs (by omega))) (kO (OM.buildSlice (l:= [(tI (Qr s i))]) (VEvp.cons (tv (tI (Qr s i)) rfl) VEvp.nil) rfl (by decide) (bc (nofun) bn) (bc ((bc (rfl) bn)) bn) (bc (rfl) bn) ZL zo3 (by kernel_rfl) rfl (by rw [Zv];decide) Zv (Nat.le_of_ble_eq_true rfl)) (cO (B.append (rows:=(((ZB s).take i).map (Qc true))) (rows2:= [[(tI (Qr s i))]]) (rows3:=(((ZB s).take i++ [Qr s i]).map (Qc true))) (VDst.own (tv (T.os 1 0 0 ((((ZB s).take i).map (Qc true)).length)) rfl) rfl rfl) (VSrc.own (tv (T.os 1 1 0 1) rfl) rfl rfl ZL (bc (bc rfl bn) bn)) (by decide) ZL Zv (by decide) zo3 rfl (of_decide_eq_true (by kernel_rfl)) (by (simp only [List.length_map,List.length_append,List.length_cons,List.length_nil,List.length_replicate,List.length_set,List.length_drop,List.length_take,YD] at *;omega)) ((List.map_append (f:=Qc true) (l₁:=(ZB s).take i) (l₂:= [Qr s i])).symm)) (aO (T.os 1 2 0 ((((ZB s).take i++ [Qr s i]).map (Qc true)).length)) rfl (VRunO.nil (vinB.n (tn (VRun.region (fO (QA (tv (tN i) rfl) (VEv.int .i64 1) (by omega)) (mO (tN (i+1)) rfl (VRunO.nil ?_)))))))))))
  refine tn ?_
  have he3:((ZB s).take i++ [Qr s i])=(ZB s).take (i+1):=by exact Qgq fhc0
  refine ⟨(i+1:Nat),?_,?_,Wk.mk (fun k=>if k=0 then 2 else k) ?_ ?_ ?_⟩
  ·trivial
  ·omega
  ·exact (b2 (b2 (bc ⟨(congrArg (fun l_=>T.os 1 2 0 (List.map (Qc true) l_).length) he3),rfl⟩ (b2 (b2 bn)))))
  ·exact (bc ⟨(congrArg (fun l_=>some (Obj.rows 1 (List.map (Qc true) l_))) he3),(lb rfl),rfl⟩ bn)
  ·exact nd rfl
 refine VRun.exit (vthn.e (vthn.e (vinB.e (tn (sr (mO (T.os 1 0 0 ((((ZB s).take i).map (Qc true)).length)) rfl (aO (T.os 1 0 0 ((((ZB s).take i).map (Qc true)).length)) rfl (nt (rt ?_)))))))))
 refine vfin.eq (r':=(T.sl true 1 (((ZB s).take i).map (Qc true)))) ?_ (vfin.r (VRes.tmp (t:=(T.os 1 0 0 ((((ZB s).take i).map (Qc true)).length))) rfl VRes.nil) (Give.os rfl rfl (okInt.cleanMap _)))
 refine congrArg (fun l_=>T.sl true 1 (List.map (Qc true) l_)) ?_
 rw [Yt (by omega) (by omega)]
theorem QbX (n:Nat) (salt:Int) (slot:Int) (w:ByteArray) (hw:w.size≤maxLen):Pure (Qo Tryz.prog (n+4)) 145 [(tI salt),(tI slot),(tS w)] (tI (Y1 salt slot w)):=by
 refine Pure.intro (rs:= [ResultVar.tmp 6]) Tryz.func145 rfl rfl rfl (E0:= [(0,(tI salt)),(1,(tI slot)),(2,(tS w))]) rfl ?_
 obtain ⟨hlim,hmx,hmax⟩:=QF
 have hbl:=QaK w
 refine sr (fO (OF.assign (VEv.int .i64 0)) (nt (sq (sr (mO (tS w) rfl (cO (cS (vc (tv (tS w) rfl) vn) (ZQ rfl) (JN (n+1) w (by assumption)) rfl rfl) (fO (QY (tv (tB (decide (Q7 w))) rfl)) (nt ?_))))))))
 refine cn (Q7 w) rfl (fun fhc0=> ?_) fun fhc0=> ?_
 ·refine sr ?_
  refine fO (OF.assign (VEv.int .i64 0)) (nt (rt (tr (vi (n':=0) rfl ?_))))
  unfold Y1;rw [if_neg fhc0]
 have hw8:=fhc0.1.2
 refine sk (tn (sr (mO (tI salt) rfl (mO (tI slot) rfl (mO (tS w) rfl (lO (B.lenS (tv (tS w) rfl) U9) (kO (OM.buildSlice (l:= [(tI salt),(tI slot),(tN w.size)]) (VEvp.cons (tv (tI salt) rfl) (VEvp.cons (tv (tI slot) rfl) (VEvp.cons (tv (tN w.size) rfl) VEvp.nil))) rfl (by decide) (bc (nofun) (bc (nofun) (bc (nofun) bn))) (bc ((bc (rfl) bn)) (bc ((bc (rfl) bn)) (bc ((bc (rfl) bn)) bn))) (bc (rfl) (bc (rfl) (bc (rfl) bn))) ZL zo3 (by kernel_rfl) rfl (by rw [Zv];decide) Zv (Nat.le_of_ble_eq_true rfl)) (mO (tS w) rfl (cO (OC.callF (r':=(T.os 1 1 0 (((ZB w).map (Qc true)).length))) (objs:= [(Obj.rows 1 ((ZB w).map (Qc true)))]) rfl (vc (tv (tS w) rfl) vn) (ZQ rfl) (QcC (n+2) w (by omega)) rfl) (cO (B.append (rows:= [[(tI salt)],[(tI slot)],[(tN w.size)]]) (rows2:=((ZB w).map (Qc true))) (rows3:=(([salt,slot,((w.size:Nat):Int)]++ZB w).map (Qc true))) (VDst.own (tv (T.os 1 0 0 3) rfl) rfl rfl) (VSrc.own (tv (T.os 1 1 0 (((ZB w).map (Qc true)).length)) rfl) rfl rfl ZL (okInt.okMap _ _)) (by decide) ZL Zv (by decide) zo3 rfl (of_decide_eq_true (by kernel_rfl)) (by (simp only [List.length_append,List.length_cons,List.length_nil,List.length_map];omega)) ((List.map_append (f:=Qc true) (l₁:= [salt,slot,((w.size:Nat):Int)]) (l₂:=ZB w)).symm)) (cO (cS (us:= [(rd 1 Qc ([salt,slot,((w.size:Nat):Int)]++ZB w))]) (vc (tv (T.os 1 2 0 ((([salt,slot,((w.size:Nat):Int)]++ZB w).map (Qc true)).length)) rfl) vn) (LendL.cons (Lend.os rfl rfl (okInt.fzMap _ _)) ln) (Qgp (n+0) ([salt,slot,((w.size:Nat):Int)]++ZB w) (by (simp only [List.length_append,List.length_cons,List.length_nil,List.length_map];omega))) rfl rfl) ?_)))))))))))
 refine aO (tI (QU ([salt,slot,((w.size:Nat):Int)]++ZB w))) rfl (nt (rt (vi (n':=QU ([salt,slot,((w.size:Nat):Int)]++ZB w)) rfl ?_)))
 unfold Y1;rw [if_pos fhc0]
theorem QbY (n:Nat) (salt:Int) (slot:Int) (w:ByteArray) (hw:w.size≤maxLen):Pure (Qo Tryz.prog (n+4)) 147 [(tI salt),(tI slot),(tS w)] (tI (Y1 salt slot w)):=by
 refine Pure.intro (rs:= [ResultVar.tmp 6]) Tryz.func147 rfl rfl rfl (E0:= [(0,(tI salt)),(1,(tI slot)),(2,(tS w))]) rfl ?_
 obtain ⟨hlim,hmx,hmax⟩:=QF
 have hbl:=QaK w
 refine sr (fO (OF.assign (VEv.int .i64 0)) (nt (sq (sr (mO (tS w) rfl (cO (cS (vc (tv (tS w) rfl) vn) (ZQ rfl) (JM (n+1) w (by assumption)) rfl rfl) (fO (QY (tv (tB (decide (Q7 w))) rfl)) (nt ?_))))))))
 refine cn (Q7 w) rfl (fun fhc0=> ?_) fun fhc0=> ?_
 ·refine sr ?_
  refine fO (OF.assign (VEv.int .i64 0)) (nt (rt (tr (vi (n':=0) rfl ?_))))
  unfold Y1;rw [if_neg fhc0]
 have hw8:=fhc0.1.2
 refine sk (tn (sr (mO (tI salt) rfl (mO (tI slot) rfl (mO (tS w) rfl (lO (B.lenS (tv (tS w) rfl) U9) (kO (OM.buildSlice (l:= [(tI salt),(tI slot),(tN w.size)]) (VEvp.cons (tv (tI salt) rfl) (VEvp.cons (tv (tI slot) rfl) (VEvp.cons (tv (tN w.size) rfl) VEvp.nil))) rfl (by decide) (bc (nofun) (bc (nofun) (bc (nofun) bn))) (bc ((bc (rfl) bn)) (bc ((bc (rfl) bn)) (bc ((bc (rfl) bn)) bn))) (bc (rfl) (bc (rfl) (bc (rfl) bn))) ZL zo3 (by kernel_rfl) rfl (by rw [Zv];decide) Zv (Nat.le_of_ble_eq_true rfl)) (mO (tS w) rfl (cO (OC.callF (r':=(T.os 1 1 0 (((ZB w).map (Qc true)).length))) (objs:= [(Obj.rows 1 ((ZB w).map (Qc true)))]) rfl (vc (tv (tS w) rfl) vn) (ZQ rfl) (Qcv (n+2) w (by omega)) rfl) (cO (B.append (rows:= [[(tI salt)],[(tI slot)],[(tN w.size)]]) (rows2:=((ZB w).map (Qc true))) (rows3:=(([salt,slot,((w.size:Nat):Int)]++ZB w).map (Qc true))) (VDst.own (tv (T.os 1 0 0 3) rfl) rfl rfl) (VSrc.own (tv (T.os 1 1 0 (((ZB w).map (Qc true)).length)) rfl) rfl rfl ZL (okInt.okMap _ _)) (by decide) ZL Zv (by decide) zo3 rfl (of_decide_eq_true (by kernel_rfl)) (by (simp only [List.length_append,List.length_cons,List.length_nil,List.length_map];omega)) ((List.map_append (f:=Qc true) (l₁:= [salt,slot,((w.size:Nat):Int)]) (l₂:=ZB w)).symm)) (cO (cS (us:= [(rd 1 Qc ([salt,slot,((w.size:Nat):Int)]++ZB w))]) (vc (tv (T.os 1 2 0 ((([salt,slot,((w.size:Nat):Int)]++ZB w).map (Qc true)).length)) rfl) vn) (LendL.cons (Lend.os rfl rfl (okInt.fzMap _ _)) ln) (QgF (n+0) ([salt,slot,((w.size:Nat):Int)]++ZB w) (by (simp only [List.length_append,List.length_cons,List.length_nil,List.length_map];omega))) rfl rfl) ?_)))))))))))
 refine aO (tI (QU ([salt,slot,((w.size:Nat):Int)]++ZB w))) rfl (nt (rt (vi (n':=QU ([salt,slot,((w.size:Nat):Int)]++ZB w)) rfl ?_)))
 unfold Y1;rw [if_pos fhc0]
theorem QaU (n:Nat) (seals:List Int) (salt:Int) (slot:Int) (w:ByteArray) (hl:seals.length≤YD) (hw:w.size≤maxLen):Pure (Qo Tryz.prog (n+5)) 121 [(rd 1 Qc seals),(tI salt),(tI slot),(tS w)] (tB (decide (QdK seals salt slot w))):=by
 refine Pure.intro (rs:= [ResultVar.tmp 8]) Tryz.func121 rfl rfl rfl (E0:= [(0,(rd 1 Qc seals)),(1,(tI salt)),(2,(tI slot)),(3,(tS w))]) rfl ?_
 obtain ⟨hlim,hmx,hmax⟩:=QF
 refine sr (fO (OF.assign (VEv.bool false)) (nt (sq (VRun.draw (B:= [[],[],[1],[1,2],[2,1,3,0],[0,3,1,2,4],[4,2,1,3,0,5],[5,0,3,1,2,4,6],[6,7,4,2,1,3,0,5],[5,0,3,1,2,4,7,6,8],[8,6,7,4,2,1,3,0,5,9],[8,6,7,4,2,1,3,0,5,9],[8,6,7,4,2,1,3,0,5,9],[12,11,9,5,0,3,1,2,4,7,6,8,10],[8,6,7,4,2,1,3,0,5,9],[8,6,7,4,2,1,3,0,5,9],[15,9,5,0,3,1,2,4,7,6,8,14],[14,8,6,7,4,2,1,3,0,5,9,15,16],[16,15,14,17,10,8,6,7,4,2,1,3,0,5,9,11,12,13],[13,12,11,10,17,14,15,16,18,8,6,7,4,2,1,3,0,5,9],[9,5,0,3,1,2,4,7,6,8,18,16,15,14,17,10,11,12,13,19]]) (by kernel_rfl) (by kernel_rfl) (mD (tI slot) rfl rfl (mD (rd 1 Qc seals) rfl rfl (lD (B.lenR (m:=seals.length) (tv (rd 1 Qc seals) rfl) ZL (List.length_map ..)) rfl rfl (fD (B.sub (n:=(((seals.length:Nat):Int) - 1)) (tv (tN seals.length) rfl) (VEv.int .i64 1) (by (rw [Qs (by omega)];done))) rfl rfl (VRunD.quiet (bi:= [2,1,3,0]) rfl VWant.always rfl rfl rfl bn (cS (vc (tv (tI slot) rfl) (vc (VEv.int .i64 0) (vc (tv (tI (((seals.length:Nat):Int) - 1)) rfl) vn))) (ZQ rfl) (QQ (n+3) slot 0 (((seals.length:Nat):Int) - 1)) rfl rfl) (mD (tB (decide (0≤slot∧slot≤(((seals.length:Nat):Int) - 1)))) rfl rfl ?_))))))))))
 refine gw (0≤slot∧slot≤(((seals.length:Nat):Int) - 1)) (fun fhg14_1=> ?_) fun fhg14_1=> ?_
 ·refine VRunD.free rfl (VWant.on rfl rfl (dy fhg14_1)) rfl (OF.move (tv (tS w) rfl)) ?_
  refine VRunD.quiet (bi:= [5,0,3,1,2,4,6]) rfl (VWant.on rfl rfl (dy fhg14_1)) rfl rfl rfl bn (cS (vc (tv (tS w) rfl) vn) (ZQ rfl) (JN (n+2) w (by assumption)) rfl rfl) (fD (OF.pickT (VEv.tmpB rfl (dy fhg14_1)) (tv (tB (decide (Q7 w))) rfl)) rfl rfl (mD (tB (decide (Q7 w))) rfl rfl ?_))
  refine gw (Q7 w) (fun fhg18_2=> ?_) fun fhg18_2=> ?_
  ·refine VRunD.free rfl (VWant.on rfl rfl (dy fhg18_2)) rfl (OF.move (tv (tI salt) rfl)) ?_
   refine VRunD.free rfl (VWant.on rfl rfl (dy fhg18_2)) rfl (OF.move (tv (tI slot) rfl)) (VRunD.free rfl (VWant.on rfl rfl (dy fhg18_2)) rfl (OF.move (tv (tS w) rfl)) (VRunD.quiet (bi:= [12,11,9,5,0,3,1,2,4,7,6,8,10]) rfl (VWant.on rfl rfl (dy fhg18_2)) rfl rfl rfl bn (cS (vc (tv (tI salt) rfl) (vc (tv (tI slot) rfl) (vc (tv (tS w) rfl) vn))) (ZQ rfl) (QbX (n+0) salt slot w (by assumption)) rfl rfl) (VRunD.free rfl (VWant.on rfl rfl (dy fhg18_2)) rfl (OF.move (tv (rd 1 Qc seals) rfl)) (VRunD.free rfl (VWant.on rfl rfl (dy fhg18_2)) rfl (OF.move (tv (tI slot) rfl)) ?_))))
   obtain ⟨x1,hx1⟩:∃x,seals[(Int.toNat slot)]? =some x:=⟨_,List.getElem?_eq_getElem (by omega)⟩
   refine VRunD.free rfl (VWant.on rfl rfl (dy fhg18_2)) rfl (OF.indexAddrR (row:=(Qc false x1)) (i:=(Int.toNat slot)) (tv (rd 1 Qc seals) rfl) (tv (tI slot) rfl) (by omega) (Qw _ hx1) ZL Zv Y7) (VRunD.look rfl (VWant.on rfl rfl (dy fhg18_2)) rfl (OL.loadR1 (t:=(tI x1)) (tv (T.rp [(tI x1)]) rfl) rfl QV) (VRunD.free rfl (VWant.on rfl rfl (dy fhg18_2)) rfl (YF (tv (tI (Y1 salt slot w)) rfl) (tv (tI x1) rfl)) (fD (OF.pickT (VEv.tmpB rfl (dy fhg18_2)) (tv (tB (decide (Y1 salt slot w=x1))) rfl)) rfl rfl (fD (OF.assign (tv (tB (decide (Y1 salt slot w=x1))) rfl)) rfl rfl (VRunD.nil (tn (rt (vb (b':=(decide (Y1 salt slot w=x1))) rfl ?_))))))))
   (refine Q4 (QhT ?_ ?_ hx1);omega;assumption)
  refine oD rfl rfl (dz fhg18_2) rfl (oD rfl rfl (dz fhg18_2) rfl (oD rfl rfl (dz fhg18_2) rfl (oD rfl rfl (dz fhg18_2) rfl (oD rfl rfl (dz fhg18_2) rfl (oD rfl rfl (dz fhg18_2) rfl (oD rfl rfl (dz fhg18_2) rfl (oD rfl rfl (dz fhg18_2) rfl (oD rfl rfl (dz fhg18_2) rfl (fD (OF.pickF (VEv.tmpB rfl (dz fhg18_2)) (VEv.bool false)) rfl rfl (fD (OF.assign (tv (tB false) rfl)) rfl rfl (VRunD.nil ?_)))))))))))
  refine tn (rt (vb (b':=false) rfl ?_))
  (symm;rw [decide_eq_false_iff_not];intro h;have h2:=Qdo h;have h3:=h.1;exact absurd h.2.1 (by assumption))
 refine oD rfl rfl (dz fhg14_1) rfl (oD rfl rfl (dz fhg14_1) rfl (fD (OF.pickF (VEv.tmpB rfl (dz fhg14_1)) (VEv.bool false)) rfl rfl (mD (tB false) rfl rfl (VRunD.off rfl (VWant.not (b:=false) rfl rfl rfl) (VRunD.off rfl (VWant.not (b:=false) rfl rfl rfl) (VRunD.off rfl (VWant.not (b:=false) rfl rfl rfl) (VRunD.off rfl (VWant.not (b:=false) rfl rfl rfl) (VRunD.off rfl (VWant.not (b:=false) rfl rfl rfl) (VRunD.off rfl (VWant.not (b:=false) rfl rfl rfl) (VRunD.off rfl (VWant.not (b:=false) rfl rfl rfl) (VRunD.off rfl (VWant.not (b:=false) rfl rfl rfl) ?_)))))))))))
 refine VRunD.off rfl (VWant.not (b:=false) rfl rfl rfl) (fD (OF.pickF (tv (tB false) rfl) (VEv.bool false)) rfl rfl (fD (OF.assign (tv (tB false) rfl)) rfl rfl (VRunD.nil (tn (rt (vb (b':=false) rfl ?_))))))
 (symm;rw [decide_eq_false_iff_not];intro h;have h2:=Qdo h;have h3:=h.1;omega)
theorem Qa1 (n:Nat) (seals:List Int) (salt:Int) (slot:Int) (w:ByteArray) (hl:seals.length≤YD) (hw:w.size≤maxLen):Pure (Qo Tryz.prog (n+5)) 126 [(rd 1 Qc seals),(tI salt),(tI slot),(tS w)] (tB (decide (QdK seals salt slot w))):=by
 refine Pure.intro (rs:= [ResultVar.tmp 8]) Tryz.func126 rfl rfl rfl (E0:= [(0,(rd 1 Qc seals)),(1,(tI salt)),(2,(tI slot)),(3,(tS w))]) rfl ?_
 obtain ⟨hlim,hmx,hmax⟩:=QF
 refine sr (fO (OF.assign (VEv.bool false)) (nt (sq (VRun.draw (B:= [[],[],[1],[1,2,0],[0,2,1,3],[3,1,2,0,4],[4,0,2,1,3,5],[5,6,3,1,2,0,4],[4,0,2,1,3,6,5,7],[7,5,6,3,1,2,0,4,8],[7,5,6,3,1,2,0,4,8],[7,5,6,3,1,2,0,4,8],[11,10,8,4,0,2,1,3,6,5,7,9],[7,5,6,3,1,2,0,4,8],[7,5,6,3,1,2,0,4,8],[14,8,4,0,2,1,3,6,5,7,13],[13,7,5,6,3,1,2,0,4,8,14,15],[15,14,13,16,9,7,5,6,3,1,2,0,4,8,10,11,12],[12,11,10,9,16,13,14,15,17,7,5,6,3,1,2,0,4,8],[8,4,0,2,1,3,6,5,7,17,15,14,13,16,9,10,11,12,18]]) (by kernel_rfl) (by kernel_rfl) (mD (tI slot) rfl rfl (mD (rd 1 Qc seals) rfl rfl (lD (B.lenR (m:=seals.length) (tv (rd 1 Qc seals) rfl) ZL (List.length_map ..)) rfl rfl (VRunD.quiet (bi:= [1,2,0]) rfl VWant.always rfl rfl rfl bn (cS (vc (tv (tI slot) rfl) (vc (tv (tN seals.length) rfl) vn)) (ZQ rfl) (YI (n+3) slot ((seals.length:Nat):Int)) rfl rfl) (mD (tB (decide (0≤slot∧slot<((seals.length:Nat):Int)))) rfl rfl ?_)))))))))
 refine gw (0≤slot∧slot<((seals.length:Nat):Int)) (fun fhg13_1=> ?_) fun fhg13_1=> ?_
 ·refine VRunD.free rfl (VWant.on rfl rfl (dy fhg13_1)) rfl (OF.move (tv (tS w) rfl)) ?_
  refine VRunD.quiet (bi:= [4,0,2,1,3,5]) rfl (VWant.on rfl rfl (dy fhg13_1)) rfl rfl rfl bn (cS (vc (tv (tS w) rfl) vn) (ZQ rfl) (JM (n+2) w (by assumption)) rfl rfl) (fD (OF.pickT (VEv.tmpB rfl (dy fhg13_1)) (tv (tB (decide (Q7 w))) rfl)) rfl rfl (mD (tB (decide (Q7 w))) rfl rfl ?_))
  refine gw (Q7 w) (fun fhg17_2=> ?_) fun fhg17_2=> ?_
  ·refine VRunD.free rfl (VWant.on rfl rfl (dy fhg17_2)) rfl (OF.move (tv (tI salt) rfl)) ?_
   refine VRunD.free rfl (VWant.on rfl rfl (dy fhg17_2)) rfl (OF.move (tv (tI slot) rfl)) (VRunD.free rfl (VWant.on rfl rfl (dy fhg17_2)) rfl (OF.move (tv (tS w) rfl)) (VRunD.quiet (bi:= [11,10,8,4,0,2,1,3,6,5,7,9]) rfl (VWant.on rfl rfl (dy fhg17_2)) rfl rfl rfl bn (cS (vc (tv (tI salt) rfl) (vc (tv (tI slot) rfl) (vc (tv (tS w) rfl) vn))) (ZQ rfl) (QbY (n+0) salt slot w (by assumption)) rfl rfl) (VRunD.free rfl (VWant.on rfl rfl (dy fhg17_2)) rfl (OF.move (tv (rd 1 Qc seals) rfl)) (VRunD.free rfl (VWant.on rfl rfl (dy fhg17_2)) rfl (OF.move (tv (tI slot) rfl)) ?_))))
   obtain ⟨x1,hx1⟩:∃x,seals[(Int.toNat slot)]? =some x:=⟨_,List.getElem?_eq_getElem (by omega)⟩
   refine VRunD.free rfl (VWant.on rfl rfl (dy fhg17_2)) rfl (OF.indexAddrR (row:=(Qc false x1)) (i:=(Int.toNat slot)) (tv (rd 1 Qc seals) rfl) (tv (tI slot) rfl) (by omega) (Qw _ hx1) ZL Zv Y7) (VRunD.look rfl (VWant.on rfl rfl (dy fhg17_2)) rfl (OL.loadR1 (t:=(tI x1)) (tv (T.rp [(tI x1)]) rfl) rfl QV) (VRunD.free rfl (VWant.on rfl rfl (dy fhg17_2)) rfl (YF (tv (tI (Y1 salt slot w)) rfl) (tv (tI x1) rfl)) (fD (OF.pickT (VEv.tmpB rfl (dy fhg17_2)) (tv (tB (decide (Y1 salt slot w=x1))) rfl)) rfl rfl (fD (OF.assign (tv (tB (decide (Y1 salt slot w=x1))) rfl)) rfl rfl (VRunD.nil (tn (rt (vb (b':=(decide (Y1 salt slot w=x1))) rfl ?_))))))))
   (refine Q4 (QhT ?_ ?_ hx1);omega;assumption)
  refine oD rfl rfl (dz fhg17_2) rfl (oD rfl rfl (dz fhg17_2) rfl (oD rfl rfl (dz fhg17_2) rfl (oD rfl rfl (dz fhg17_2) rfl (oD rfl rfl (dz fhg17_2) rfl (oD rfl rfl (dz fhg17_2) rfl (oD rfl rfl (dz fhg17_2) rfl (oD rfl rfl (dz fhg17_2) rfl (oD rfl rfl (dz fhg17_2) rfl (fD (OF.pickF (VEv.tmpB rfl (dz fhg17_2)) (VEv.bool false)) rfl rfl (fD (OF.assign (tv (tB false) rfl)) rfl rfl (VRunD.nil ?_)))))))))))
  refine tn (rt (vb (b':=false) rfl ?_))
  (symm;rw [decide_eq_false_iff_not];intro h;have h2:=Qdo h;have h3:=h.1;exact absurd h.2.1 (by assumption))
 refine oD rfl rfl (dz fhg13_1) rfl (oD rfl rfl (dz fhg13_1) rfl (fD (OF.pickF (VEv.tmpB rfl (dz fhg13_1)) (VEv.bool false)) rfl rfl (mD (tB false) rfl rfl (VRunD.off rfl (VWant.not (b:=false) rfl rfl rfl) (VRunD.off rfl (VWant.not (b:=false) rfl rfl rfl) (VRunD.off rfl (VWant.not (b:=false) rfl rfl rfl) (VRunD.off rfl (VWant.not (b:=false) rfl rfl rfl) (VRunD.off rfl (VWant.not (b:=false) rfl rfl rfl) (VRunD.off rfl (VWant.not (b:=false) rfl rfl rfl) (VRunD.off rfl (VWant.not (b:=false) rfl rfl rfl) (VRunD.off rfl (VWant.not (b:=false) rfl rfl rfl) ?_)))))))))))
 refine VRunD.off rfl (VWant.not (b:=false) rfl rfl rfl) (fD (OF.pickF (tv (tB false) rfl) (VEv.bool false)) rfl rfl (fD (OF.assign (tv (tB false) rfl)) rfl rfl (VRunD.nil (tn (rt (vb (b':=false) rfl ?_))))))
 (symm;rw [decide_eq_false_iff_not];intro h;have h2:=Qdo h;have h3:=h.1;omega)
noncomputable section
def QG (g:D.Grid) (f:ByteArray) (seals:List Int) (salt:Int):Nat→List Int
 | 0=> []
 | i+1=>QG g f seals salt i++(if QdK seals salt ((i:Nat):Int) (ZU g f ((i:Nat):Int)) then [((i:Nat):Int)] else [])
def Zs (g:D.Grid) (f:ByteArray) (seals:List Int) (salt:Int):List Int:=if QS g f then QG g f seals salt (Qa g).length else []
theorem J7 (g:D.Grid) (f:ByteArray) (seals:List Int) (salt:Int):∀i,(QG g f seals salt i).length≤i
 | 0=>Nat.le_refl _
 | i+1=>by
  have:=J7 g f seals salt i
  unfold QG
  rw [List.length_append]
  split<;>simp only [List.length_cons,List.length_nil]<;>omega
theorem QdP (g:D.Grid) (f:ByteArray) (seals:List Int) (salt:Int):(Zs g f seals salt).length≤72:=by
 unfold Zs
 split
 ·exact Nat.le_trans (J7 _ _ _ _ _) (Q5 g)
 ·simp
theorem QeP {g:D.Grid} {f:ByteArray} {seals:List Int} {salt:Int} {i:Nat} (h:QdK seals salt ((i:Nat):Int) (ZU g f ((i:Nat):Int))):QG g f seals salt i++ [((i:Nat):Int)]=QG g f seals salt (i+1):=by rw [QG,if_pos h]
theorem Qgo {g:D.Grid} {f:ByteArray} {seals:List Int} {salt:Int} {i:Nat} (h:¬QdK seals salt ((i:Nat):Int) (ZU g f ((i:Nat):Int))):QG g f seals salt i=QG g f seals salt (i+1):=by rw [QG,if_neg h,List.append_nil]
theorem QeW {g:D.Grid} {f:ByteArray} {seals:List Int} {salt:Int} {i:Nat} (h1:i≤(Qa g).length) (h2:QS g f∨i=0) (h3:¬(i<(Qa g).length∧QS g f)):QG g f seals salt i=Zs g f seals salt:=by
 unfold Zs
 by_cases h:QS g f
 ·rw [if_pos h,show i=(Qa g).length by have:¬i<(Qa g).length:=fun e=>h3 ⟨e,h⟩;omega]
 ·rw [if_neg h,h2.resolve_left h];rfl
theorem QbM (g:D.Grid) (f:ByteArray) (slot:Int):(ZU g f slot).size≤6:=by
 unfold ZU
 split
 ·split
  ·rename_i s hs
   split
   ·rw [Qgh];exact QaP hs
   ·exact Nat.zero_le _
  ·exact Nat.zero_le _
 ·exact Nat.zero_le _
theorem QgO (g:D.Grid) (f:ByteArray):(ZK g f).length≤(Qa g).length:=by
 by_cases h:QS g f
 ·rw [QeO h];exact Nat.le_refl _
 ·unfold ZK;rw [if_neg h];exact Nat.zero_le _
theorem Qjq {g:D.Grid} {f:ByteArray} (h:¬QS g f):ZK g f= []:=if_neg h
theorem Qhg {g:D.Grid} {f:ByteArray} {seals:List Int} {salt:Int} {i:Nat} (h1:i≤(ZK g f).length) (h2:¬i<(ZK g f).length):QG g f seals salt i=Zs g f seals salt:=by
 have hpl:=QgO g f
 refine QeW (by omega) ?_ ?_
 ·by_cases h:QS g f
  ·exact .inl h
  ·right;rw [Qjq h] at h1;exact Nat.le_zero.1 h1
 ·rintro ⟨h3,h4⟩;rw [QeO h4] at h2;exact h2 h3
end
theorem Qb2 (n:Nat) (g:D.Grid) (f:ByteArray) (seals:List Int) (salt:Int) (hc:g.Cells.size≤maxLen) (hf:f.size≤maxLen) (hl:seals.length≤YD):Pure (Qo Tryz.prog (n+6)) 88 [(T.agg (Qb false g)),(tS f),(rd 1 Qc seals),(tI salt)] (T.sl true 1 ((Zs g f seals salt).map (Qc true))):=by
 refine Pure.intro (rs:= [ResultVar.tmp 8]) Tryz.func88 rfl rfl rfl (E0:= [(0,(T.agg (Qb false g))),(1,(tS f)),(2,(rd 1 Qc seals)),(3,(tI salt))]) rfl ?_
 obtain ⟨hlim,hmx,hmax⟩:=QF
 have hsl:=Q5 g
 refine sr (kO (B.box (ts:=(Qb false g)) (tv (T.agg (Qb false g)) rfl) nofun rfl) (fO (OF.assign VEv.nils) (nt (sr (kO (OM.slice0 ZL zo3 (by kernel_rfl) rfl (by rw [Zv];decide) Zv) (aO (T.os 1 1 0 0) rfl (nt (sr (lO (OL.loadOn (us:=(Qb false g)) (tv (T.op 0 0) rfl) rfl QP QN (lb rfl) rfl) (cO (OC.callF (r':=(T.os 4 2 0 (((Qa g).map (Qf true)).length))) (objs:= [(Obj.rows 4 ((Qa g).map (Qf true)))]) rfl (vc (tv (T.agg (Qb false g)) rfl) vn) (LendL.cons (lg Qq) ln) (Zi (n+2) g (by assumption)) rfl) (aO (T.os 4 2 0 (((Qa g).map (Qf true)).length)) rfl ?_)))))))))))
 refine nt (sq (sr (fO (OF.assign (VEv.int .i64 0)) (nt (VRun.block ?_)))))
 have he1: []=((QG g f seals salt 0).map (Qc true)):=by rfl
 refine VRun.loop (A:=Nat) (fun s_=> [(1,(tS f)),(2,(rd 1 Qc seals)),(3,(tI salt)),(4,(T.op 0 0)),(8,T.nils),(9,(T.os 1 2 0 (((QG g f seals salt s_).map (Qc true)).length))),(10,(T.os 4 1 0 (((Qa g).map (Qf true)).length))),(11,(tN s_))]) (fun s_=>Q0 [(0,(Obj.cells (Qb false g))),(1,(Obj.rows 4 ((Qa g).map (Qf true)))),(2,(Obj.rows 1 ((QG g f seals salt s_).map (Qc true))))]) 3 (fun s_=>s_≤(Qa g).length∧(QS g f∨s_=0)) (fun s_=>(Qa g).length - s_) (0:Nat) ?_ (Wk.mk (fun k=>if k=1 then 2 else if k=2 then 1 else k) ?_ ?_ ?_) ?_
 ·exact ⟨Nat.zero_le _, .inr rfl⟩
 ·exact (b2 (b2 (b2 (b2 (b2 (bc ⟨(congrArg (fun n_=>T.os 1 1 0 n_) (show 0=((QG g f seals salt 0).map (Qc true)).length from (by rfl))),rfl⟩ (b2 (b2 bn))))))))
 ·exact (b3 (b3 (bc ⟨(congrArg (fun l_=>some (Obj.rows 1 l_)) he1),(lb rfl),rfl⟩ bn)))
 ·exact nd rfl
 rintro i (hI':i≤(Qa g).length∧(QS g f∨i=0))
 show VRun _ _ _ [(1,(tS f)),(2,(rd 1 Qc seals)),(3,(tI salt)),(4,(T.op 0 0)),(8,T.nils),(9,(T.os 1 2 0 (((QG g f seals salt i).map (Qc true)).length))),(10,(T.os 4 1 0 (((Qa g).map (Qf true)).length))),(11,(tN i))] (Q0 [(0,(Obj.cells (Qb false g))),(1,(Obj.rows 4 ((Qa g).map (Qf true)))),(2,(Obj.rows 1 ((QG g f seals salt i).map (Qc true))))]) 3 _
 have hI1:=hI'.1
 have hrl:=J7 g f seals salt i
 have hps:=QbM g f ((i:Nat):Int)
 refine sq (sr (mO (tN i) rfl (mO (T.os 4 1 0 (((Qa g).map (Qf true)).length)) rfl (lO (B.lenO (m:=(Qa g).length) (tv (T.os 4 1 0 (((Qa g).map (Qf true)).length)) rfl) J6 (List.length_map ..)) (fO (Ze (tv (tN i) rfl) (tv (tN ((Qa g).length)) rfl)) (mO (tB (decide (i<(Qa g).length))) rfl ?_))))))
 refine VRunO.joinB 4 [20,21,22] 23 (tB (decide ((i<(Qa g).length)∧(QS g f)))) ?_ ?_
 ·refine gw (i<(Qa g).length) (fun fhg19_2=> ?_) fun fhg19_2=> ?_
  ·refine gL (dy fhg19_2) rfl rfl (OL.loadOn (us:=(Qb false g)) (tv (T.op 0 0) rfl) rfl QP QN (lb rfl) rfl) ?_
   refine gF (dy fhg19_2) rfl rfl (OF.move (tv (tS f) rfl)) (VRunO.chain (VWant.on rfl rfl (dy fhg19_2)) (cS (vc (tv (T.agg (Qb false g)) rfl) (vc (tv (tS f) rfl) vn)) (LendL.cons (lg Qq) (lp rfl ln)) (JF (n+2) g f (by assumption) (by assumption)) rfl rfl) (fO (OF.pickT (VEv.tmpB rfl (dy fhg19_2)) (tv (tB (decide (QS g f))) rfl)) (VRunO.nil ?_)))
   exact jq (congrArg T.bool (kAT fhg19_2 rfl)) (js rfl (js rfl (js rfl (jn))))
  ·refine Qx 3 4 true 19 (dz fhg19_2) rfl rfl rfl ?_
   refine fO (OF.pickF (VEv.tmpB rfl (dz fhg19_2)) (VEv.bool false)) (VRunO.nil ?_)
   exact jq (congrArg T.bool (kAF fhg19_2)) (js rfl (js rfl (js rfl (jn))))
 refine nt ?_
 refine cd ((i<(Qa g).length)∧(QS g f)) rfl (fun fhc0=> ?_) fun fhc0=> ?_
 ·refine sk ?_
  refine tn (sq (VRun.block (sr (mO (rd 1 Qc seals) rfl (mO (tI salt) rfl (mO (tN i) rfl (lO (OL.loadOn (us:=(Qb false g)) (tv (T.op 0 0) rfl) rfl QP QN (lb rfl) rfl) (mO (tS f) rfl (mO (tN i) rfl (cO (cS (vc (tv (T.agg (Qb false g)) rfl) (vc (tv (tS f) rfl) (vc (tv (tN i) rfl) vn))) (LendL.cons (lg Qq) (lp rfl (lp rfl ln))) (Qbs (n+0) g f ((i:Nat):Int) (by assumption) (by assumption)) rfl rfl) (cO (cS (vc (tv (rd 1 Qc seals) rfl) (vc (tv (tI salt) rfl) (vc (tv (tN i) rfl) (vc (tv (tS (ZU g f ((i:Nat):Int))) rfl) vn)))) (ZQ rfl) (QaU (n+0) seals salt ((i:Nat):Int) (ZU g f ((i:Nat):Int)) (by assumption) (by omega)) rfl rfl) ?_)))))))))))
  refine nt ?_
  refine cd (QdK seals salt ((i:Nat):Int) (ZU g f ((i:Nat):Int))) rfl (fun fhc1=> ?_) fun fhc1=> ?_
  ·refine VRun.region ?_
   refine mO (T.os 1 2 0 (((QG g f seals salt i).map (Qc true)).length)) rfl (mO (tN i) rfl (kO (OM.buildSlice (l:= [(tN i)]) (VEvp.cons (tv (tN i) rfl) VEvp.nil) rfl (by decide) (bc (nofun) bn) (bc ((bc (rfl) bn)) bn) (bc (rfl) bn) ZL zo3 (by kernel_rfl) rfl (by rw [Zv];decide) Zv (Nat.le_of_ble_eq_true rfl)) (cO (B.append (rows:=((QG g f seals salt i).map (Qc true))) (rows2:= [[(tN i)]]) (rows3:=((QG g f seals salt i++ [((i:Nat):Int)]).map (Qc true))) (VDst.own (tv (T.os 1 2 0 (((QG g f seals salt i).map (Qc true)).length)) rfl) rfl rfl) (VSrc.own (tv (T.os 1 3 0 1) rfl) rfl rfl ZL (bc (bc rfl bn) bn)) (by decide) ZL Zv (by decide) zo3 rfl (of_decide_eq_true (by kernel_rfl)) (by (simp only [List.length_map,List.length_append,List.length_cons,List.length_nil,List.length_replicate,List.length_set,List.length_drop,List.length_take,YD] at *;omega)) ((List.map_append (f:=Qc true) (l₁:=QG g f seals salt i) (l₂:= [((i:Nat):Int)])).symm)) (aO (T.os 1 4 0 (((QG g f seals salt i++ [((i:Nat):Int)]).map (Qc true)).length)) rfl (VRunO.nil (vinB.n (tn (VRun.region (mO (tN i) rfl (fO (QA (tv (tN i) rfl) (VEv.int .i64 1) (by omega)) (aO (tN (i+1)) rfl ?_)))))))))))
   refine VRunO.nil (tn ?_)
   have he3:(QG g f seals salt i++ [((i:Nat):Int)])=QG g f seals salt (i+1):=by exact QeP fhc1
   refine ⟨(i+1:Nat),?_,?_,Wk.mk (fun k=>if k=2 then 4 else k) ?_ ?_ ?_⟩
   ·exact ⟨by omega, .inl fhc0.2⟩
   ·omega
   ·exact (b2 (b2 (b2 (b2 (b2 (bc ⟨(congrArg (fun l_=>T.os 1 4 0 (List.map (Qc true) l_).length) he3),rfl⟩ (b2 (b2 bn))))))))
   ·exact (b3 (b3 (bc ⟨(congrArg (fun l_=>some (Obj.rows 1 (List.map (Qc true) l_))) he3),(lb rfl),rfl⟩ bn)))
   ·exact nd rfl
  refine sk (vinB.n (tn (VRun.region (mO (tN i) rfl (fO (QA (tv (tN i) rfl) (VEv.int .i64 1) (by omega)) (aO (tN (i+1)) rfl (VRunO.nil (tn ?_))))))))
  have he4:QG g f seals salt i=QG g f seals salt (i+1):=by exact Qgo fhc1
  refine ⟨(i+1:Nat),?_,?_,Wk.mk (fun k=>k) ?_ ?_ ?_⟩
  ·exact ⟨by omega, .inl fhc0.2⟩
  ·omega
  ·exact (b2 (b2 (b2 (b2 (b2 (bc ⟨(congrArg (fun l_=>T.os 1 2 0 (List.map (Qc true) l_).length) he4),rfl⟩ (b2 (b2 bn))))))))
  ·exact (b3 (b3 (bc ⟨(congrArg (fun l_=>some (Obj.rows 1 (List.map (Qc true) l_))) he4),(lb rfl),rfl⟩ bn)))
  ·exact nd rfl
 refine VRun.exit (vthn.e (vthn.e (vinB.e (tn (sr (mO (T.os 1 2 0 (((QG g f seals salt i).map (Qc true)).length)) rfl (aO (T.os 1 2 0 (((QG g f seals salt i).map (Qc true)).length)) rfl (nt (rt ?_)))))))))
 refine vfin.eq (r':=(T.sl true 1 ((QG g f seals salt i).map (Qc true)))) ?_ (vfin.r (VRes.tmp (t:=(T.os 1 2 0 (((QG g f seals salt i).map (Qc true)).length))) rfl VRes.nil) (Give.os rfl rfl (okInt.cleanMap _)))
 refine congrArg (fun l_=>T.sl true 1 (List.map (Qc true) l_)) ?_
 exact QeW hI1 hI'.2 fhc0
theorem QbP (n:Nat) (g:D.Grid) (f:ByteArray) (seals:List Int) (salt:Int) (hc:g.Cells.size≤maxLen) (hf:f.size≤maxLen) (hl:seals.length≤YD):Pure (Qo Tryz.prog (n+6)) 90 [(T.agg (Qb false g)),(tS f),(rd 1 Qc seals),(tI salt)] (T.sl true 1 ((Zs g f seals salt).map (Qc true))):=by
 refine Pure.intro (rs:= [ResultVar.tmp 8]) Tryz.func90 rfl rfl rfl (E0:= [(0,(T.agg (Qb false g))),(1,(tS f)),(2,(rd 1 Qc seals)),(3,(tI salt))]) rfl ?_
 obtain ⟨hlim,hmx,hmax⟩:=QF
 have hsl:=Q5 g
 have hpl:=QgO g f
 refine sr (kO (B.box (ts:=(Qb false g)) (tv (T.agg (Qb false g)) rfl) nofun rfl) (fO (OF.assign VEv.nils) (nt (sr (fO (OF.assign VEv.nils) (nt (sq (sr (lO (OL.loadOn (us:=(Qb false g)) (tv (T.op 0 0) rfl) rfl QP QN (lb rfl) rfl) (mO (tS f) rfl (cO (OC.callF (r':=(T.os 1 1 0 (((ZK g f).map (Z4 true)).length))) (objs:= [(Obj.rows 1 ((ZK g f).map (Z4 true)))]) rfl (vc (tv (T.agg (Qb false g)) rfl) (vc (tv (tS f) rfl) vn)) (LendL.cons (lg Qq) (lp rfl ln)) (Qc3 (n+0) g f (by assumption) (by assumption)) rfl) ?_)))))))))))
 refine lO (B.lenO (m:=(ZK g f).length) (tv (T.os 1 1 0 (((ZK g f).map (Z4 true)).length)) rfl) U52 (List.length_map ..)) (fO (OF.move (VEv.int .i64 0)) (nt (VRun.block (VRun.wk (Wk.freeze (sz:=1) (k:=1) (rows':=((ZK g f).map (Z4 false))) [14] (bc rfl bn) rfl rfl (okStr.fzMap _ _)) (VRun.wk (Wk.phantom 9 1 rfl) ?_)))))
 have he1: []=((QG g f seals salt 0).map (Qc true)):=by rfl
 refine VRun.loop (A:=Nat) (fun s_=> [(2,(rd 1 Qc seals)),(3,(tI salt)),(8,T.nils),(9,(T.os 1 0 0 (((QG g f seals salt s_).map (Qc true)).length))),(14,(rd 1 Z4 (ZK g f))),(15,(tN ((ZK g f).length))),(16,(tN s_))]) (fun s_=>Q0 [(0,(Obj.rows 1 ((QG g f seals salt s_).map (Qc true))))]) 1 (fun s_=>s_≤(ZK g f).length) (fun s_=>(ZK g f).length - s_) (0:Nat) ?_ (Wk.mk (fun k=>if k=0 then 2 else k) ?_ ?_ ?_) ?_
 ·(simp;done)
 ·exact (b2 (b2 (b2 (bc ⟨(congrArg (fun n_=>T.os 1 2 0 n_) (show 0=((QG g f seals salt 0).map (Qc true)).length from (by rfl))),rfl⟩ (b2 (b2 (b2 bn)))))))
 ·exact (bc ⟨(congrArg (fun l_=>some (Obj.rows 1 l_)) he1),(lb rfl),rfl⟩ bn)
 ·exact nd rfl
 rintro i (hI':i≤(ZK g f).length)
 show VRun _ _ _ [(2,(rd 1 Qc seals)),(3,(tI salt)),(8,T.nils),(9,(T.os 1 0 0 (((QG g f seals salt i).map (Qc true)).length))),(14,(rd 1 Z4 (ZK g f))),(15,(tN ((ZK g f).length))),(16,(tN i))] (Q0 [(0,(Obj.rows 1 ((QG g f seals salt i).map (Qc true))))]) 1 _
 have hrl:=J7 g f seals salt i
 have hps:=QbM g f ((i:Nat):Int)
 refine sr (fO (Ze (tv (tN i) rfl) (tv (tN ((ZK g f).length)) rfl)) (nt (sq ?_)))
 refine cd (i<(ZK g f).length) rfl (fun fhc0=> ?_) fun fhc0=> ?_
 ·refine sk ?_
  refine tn (sq (VRun.block (sr (mO (tN i) rfl ?_))))
  obtain ⟨x1,hx1⟩:∃x,(ZK g f)[i]? =some x:=⟨_,List.getElem?_eq_getElem (by omega)⟩
  have hpx:=Qjk hx1
  refine fO (OF.indexAddrR (row:=(Z4 false x1)) (i:=i) (tv (rd 1 Z4 (ZK g f)) rfl) (tv (tN i) rfl) rfl (Qw _ hx1) U52 sz9 if9) (lO (OL.loadR1 (t:=(tS x1)) (tv (T.rp [(tS x1)]) rfl) rfl ZN) (aO (tN i) rfl (aO (tS x1) rfl (nt (sr (mO (rd 1 Qc seals) rfl (mO (tI salt) rfl (mO (tN i) rfl (mO (tS x1) rfl (cO (cS (vc (tv (rd 1 Qc seals) rfl) (vc (tv (tI salt) rfl) (vc (tv (tN i) rfl) (vc (tv (tS x1) rfl) vn)))) (ZQ rfl) (Qa1 (n+0) seals salt ((i:Nat):Int) x1 (by assumption) (by (rw [hpx];omega))) rfl rfl) (nt ?_)))))))))))
  refine cd (QdK seals salt ((i:Nat):Int) x1) rfl (fun fhc1=> ?_) fun fhc1=> ?_
  ·refine VRun.region ?_
   refine mO (T.os 1 0 0 (((QG g f seals salt i).map (Qc true)).length)) rfl (mO (tN i) rfl (kO (OM.buildSlice (l:= [(tN i)]) (VEvp.cons (tv (tN i) rfl) VEvp.nil) rfl (by decide) (bc (nofun) bn) (bc ((bc (rfl) bn)) bn) (bc (rfl) bn) ZL zo3 (by kernel_rfl) rfl (by rw [Zv];decide) Zv (Nat.le_of_ble_eq_true rfl)) (cO (B.append (rows:=((QG g f seals salt i).map (Qc true))) (rows2:= [[(tN i)]]) (rows3:=((QG g f seals salt i++ [((i:Nat):Int)]).map (Qc true))) (VDst.own (tv (T.os 1 0 0 (((QG g f seals salt i).map (Qc true)).length)) rfl) rfl rfl) (VSrc.own (tv (T.os 1 1 0 1) rfl) rfl rfl ZL (bc (bc rfl bn) bn)) (by decide) ZL Zv (by decide) zo3 rfl (of_decide_eq_true (by kernel_rfl)) (by (simp only [List.length_map,List.length_append,List.length_cons,List.length_nil,List.length_replicate,List.length_set,List.length_drop,List.length_take,YD] at *;omega)) ((List.map_append (f:=Qc true) (l₁:=QG g f seals salt i) (l₂:= [((i:Nat):Int)])).symm)) (aO (T.os 1 2 0 (((QG g f seals salt i++ [((i:Nat):Int)]).map (Qc true)).length)) rfl (VRunO.nil (vinB.n (tn (VRun.region (fO (QA (tv (tN i) rfl) (VEv.int .i64 1) (by omega)) (mO (tN (i+1)) rfl (VRunO.nil ?_)))))))))))
   refine tn ?_
   have he2:(QG g f seals salt i++ [((i:Nat):Int)])=QG g f seals salt (i+1):=by (rw [hpx] at fhc1;exact QeP fhc1)
   refine ⟨(i+1:Nat),?_,?_,Wk.mk (fun k=>if k=0 then 2 else k) ?_ ?_ ?_⟩
   ·trivial
   ·omega
   ·exact (b2 (b2 (b2 (bc ⟨(congrArg (fun l_=>T.os 1 2 0 (List.map (Qc true) l_).length) he2),rfl⟩ (b2 (b2 (b2 bn)))))))
   ·exact (bc ⟨(congrArg (fun l_=>some (Obj.rows 1 (List.map (Qc true) l_))) he2),(lb rfl),rfl⟩ bn)
   ·exact nd rfl
  refine sk (vinB.n (tn (VRun.region (fO (QA (tv (tN i) rfl) (VEv.int .i64 1) (by omega)) (mO (tN (i+1)) rfl (VRunO.nil (tn ?_)))))))
  have he3:QG g f seals salt i=QG g f seals salt (i+1):=by (rw [hpx] at fhc1;exact Qgo fhc1)
  refine ⟨(i+1:Nat),?_,?_,Wk.mk (fun k=>k) ?_ ?_ ?_⟩
  ·trivial
  ·omega
  ·exact (b2 (b2 (b2 (bc ⟨(congrArg (fun l_=>T.os 1 0 0 (List.map (Qc true) l_).length) he3),rfl⟩ (b2 (b2 (b2 bn)))))))
  ·exact (bc ⟨(congrArg (fun l_=>some (Obj.rows 1 (List.map (Qc true) l_))) he3),(lb rfl),rfl⟩ bn)
  ·exact nd rfl
 refine VRun.exit (vthn.e (vthn.e (vinB.e (tn (sr (mO (T.os 1 0 0 (((QG g f seals salt i).map (Qc true)).length)) rfl (aO (T.os 1 0 0 (((QG g f seals salt i).map (Qc true)).length)) rfl (nt (rt ?_)))))))))
 refine vfin.eq (r':=(T.sl true 1 ((QG g f seals salt i).map (Qc true)))) ?_ (vfin.r (VRes.tmp (t:=(T.os 1 0 0 (((QG g f seals salt i).map (Qc true)).length))) rfl VRes.nil) (Give.os rfl rfl (okInt.cleanMap _)))
 refine congrArg (fun l_=>T.sl true 1 (List.map (Qc true) l_)) ?_
 exact Qhg hI' fhc0
end Go.Proofs.YthifchndolccgaaGreatDoor.AE
namespace Go.Proofs.YthifchndolccgaaGreatDoor.AE
open Go Go.RowKit
set_option linter.unusedVariables false
set_option linter.unusedSimpArgs false
set_option maxRecDepth 20000
set_option maxHeartbeats 2000000
noncomputable section
def Y6 (f:ByteArray):Prop:=∃j,j<f.size∧Qr f j=63
instance (f:ByteArray):Decidable (Y6 f):=Classical.propDecidable _
def YB (f:ByteArray):Nat→Nat
 | 0=>0
 | i+1=>YB f i+(if Qr f i=63 then 1 else 0)
theorem QhZ (f:ByteArray):∀i,YB f i≤i
 | 0=>Nat.le_refl _
 | i+1=>by
  have:=QhZ f i
  unfold YB
  split<;>omega
theorem Qe7 (f:ByteArray):∀i,YB f i=0↔∀j,j<i→¬Qr f j=63
 | 0=>⟨fun _ j hj=>by omega,fun _=>rfl⟩
 | i+1=>by
  have ih:=Qe7 f i
  unfold YB
  constructor
  ·intro h j hj
   by_cases e:j=i
   ·subst e;intro e2;rw [if_pos e2] at h;omega
   ·exact ih.1 (by omega) j (by omega)
  ·intro h
   rw [if_neg (h i (by omega)),ih.2 (fun j hj=>h j (by omega))]
theorem Qkf (f:ByteArray):YB f f.size=0↔¬Y6 f:=by
 rw [Qe7]
 exact ⟨fun h ⟨j,h1,h2⟩=>h j h1 h2,fun h j h1 h2=>h ⟨j,h1,h2⟩⟩
end
theorem Qed (n:Nat) (f:ByteArray) (hf:f.size≤maxLen):Pure (Qo Tryz.prog (n+1)) 120 [(tS f)] (tB (decide (Y6 f))):=by
 refine Pure.intro (rs:= [ResultVar.tmp 2]) Tryz.func120 rfl rfl rfl (E0:= [(0,(tS f))]) rfl ?_
 obtain ⟨hlim,hmx,hmax⟩:=QF
 refine sr (fO (OF.assign (VEv.bool false)) (nt (sq (sr (fO (OF.assign (VEv.int .i64 0)) (nt (VRun.block ?_)))))))
 refine VRun.loop (A:=Nat) (fun s_=> [(0,(tS f)),(3,(tN s_))]) (fun s_=>Q0 []) 0 (fun s_=>s_≤f.size∧∀j,j<s_→¬Qr f j=63) (fun s_=>f.size - s_) (0:Nat) ?_ (Wk.mk (fun k=>k) ?_ ?_ ?_) ?_
 ·exact ⟨Nat.zero_le _,fun j hj=>by omega⟩
 ·exact (b2 (b2 bn))
 ·exact bn
 ·exact nd rfl
 rintro i (hI':i≤f.size∧∀j,j<i→¬Qr f j=63)
 show VRun _ _ _ [(0,(tS f)),(3,(tN i))] (Q0 []) 0 _
 have hI1:=hI'.1
 refine sq (sr (mO (tN i) rfl (mO (tS f) rfl (lO (B.lenS (tv (tS f) rfl) U9) (fO (Ze (tv (tN i) rfl) (tv (tN f.size) rfl)) (nt ?_))))))
 refine cd (i<f.size) rfl (fun fhc0=> ?_) fun fhc0=> ?_
 ·refine sk ?_
  refine tn (sq (VRun.block (sr (mO (tS f) rfl (mO (tN i) rfl ?_)))))
  have hb1:i<f.size:=(by omega)
  refine fO (Js (tv (tS f) rfl) (tv (tN i) rfl) hb1 U9) (fO (YF (tv (T.int .u8 (Qr f i)) rfl) (VEv.int .u8 63)) (nt ?_))
  refine cd (Qr f i=63) rfl (fun fhc1=> ?_) fun fhc1=> ?_
  ·refine sr ?_
   refine fO (OF.assign (VEv.bool true)) (nt (rt (vinB.r (tr (tr (vinB.r (tr (vb (b':=true) rfl ?_))))))))
   symm;rw [decide_eq_true_eq];exact ⟨i,fhc0,fhc1⟩
  refine sk (vinB.n (tn (VRun.region (mO (tN i) rfl (fO (QA (tv (tN i) rfl) (VEv.int .i64 1) (by omega)) (aO (tN (i+1)) rfl (VRunO.nil (tn ?_))))))))
  refine ⟨(i+1:Nat),?_,?_,Wk.mk (fun k=>k) ?_ ?_ ?_⟩
  ·exact QT hI' fhc0 fhc1
  ·omega
  ·exact (b2 (b2 bn))
  ·exact bn
  ·exact nd rfl
 refine VRun.exit (vthn.e (vthn.e (vinB.e (tn (sr (fO (OF.assign (VEv.bool false)) (nt (rt (vb (b':=false) rfl ?_)))))))))
 symm;rw [decide_eq_false_iff_not];rintro ⟨j,h1,h2⟩;exact hI'.2 j (by omega) h2
theorem QeH (n:Nat) (f:ByteArray) (hf:f.size≤maxLen):Pure (Qo Tryz.prog (n+1)) 124 [(tS f)] (tN (YB f f.size)):=by
 refine Pure.intro (rs:= [ResultVar.tmp 2]) Tryz.func124 rfl rfl rfl (E0:= [(0,(tS f))]) rfl ?_
 obtain ⟨hlim,hmx,hmax⟩:=QF
 refine sr (fO (OF.assign (VEv.int .i64 0)) (nt (sr (fO (OF.assign (VEv.int .i64 0)) (nt (sq (sr (mO (tS f) rfl (lO (B.lenS (tv (tS f) rfl) U9) (fO (OF.move (VEv.int .i64 0)) (nt ?_)))))))))))
 refine VRun.block ?_
 refine VRun.loop (A:=Nat) (fun s_=> [(0,(tS f)),(2,(tN 0)),(3,(tN (YB f s_))),(6,(tN f.size)),(7,(tN s_))]) (fun s_=>Q0 []) 0 (fun s_=>s_≤f.size) (fun s_=>f.size - s_) (0:Nat) ?_ (Wk.mk (fun k=>k) ?_ ?_ ?_) ?_
 ·(simp;done)
 ·exact (b2 (b2 (bc ⟨(congrArg (T.int .i64) (show 0=((YB f 0:Nat):Int) from (by rfl))),rfl⟩ (b2 (b2 bn)))))
 ·exact bn
 ·exact nd rfl
 rintro i (hI':i≤f.size)
 show VRun _ _ _ [(0,(tS f)),(2,(tN 0)),(3,(tN (YB f i))),(6,(tN f.size)),(7,(tN i))] (Q0 []) 0 _
 have hol:=QhZ f i
 refine sr (fO (Ze (tv (tN i) rfl) (tv (tN f.size) rfl)) (nt (sq ?_)))
 refine cd (i<f.size) rfl (fun fhc0=> ?_) fun fhc0=> ?_
 ·refine sk ?_
  refine tn (sq (VRun.block (sr (mO (tN i) rfl (aO (tN i) rfl (nt (sr (mO (tS f) rfl (mO (tN i) rfl ?_)))))))))
  have hb1:i<f.size:=(by omega)
  refine fO (Js (tv (tS f) rfl) (tv (tN i) rfl) hb1 U9) (fO (YF (tv (T.int .u8 (Qr f i)) rfl) (VEv.int .u8 63)) (nt ?_))
  refine cd (Qr f i=63) rfl (fun fhc1=> ?_) fun fhc1=> ?_
  ·refine VRun.region ?_
   refine mO (tN (YB f i)) rfl (fO (QA (tv (tN (YB f i)) rfl) (VEv.int .i64 1) (by omega)) (aO (tN (YB f i+1)) rfl (VRunO.nil (vinB.n (tn (VRun.region (fO (QA (tv (tN i) rfl) (VEv.int .i64 1) (by omega)) (mO (tN (i+1)) rfl (VRunO.nil (tn ?_))))))))))
   refine ⟨(i+1:Nat),?_,?_,Wk.mk (fun k=>k) ?_ ?_ ?_⟩
   ·trivial
   ·omega
   ·exact (b2 (b2 (bc ⟨(congrArg (T.int .i64) (show (((YB f i+1):Nat):Int)=((YB f (i+1):Nat):Int) from (by (rw [YB,if_pos fhc1];done)))),rfl⟩ (b2 (b2 bn)))))
   ·exact bn
   ·exact nd rfl
  refine sk (vinB.n (tn (VRun.region (fO (QA (tv (tN i) rfl) (VEv.int .i64 1) (by omega)) (mO (tN (i+1)) rfl (VRunO.nil (tn ?_)))))))
  refine ⟨(i+1:Nat),?_,?_,Wk.mk (fun k=>k) ?_ ?_ ?_⟩
  ·trivial
  ·omega
  ·exact (b2 (b2 (bc ⟨(congrArg (T.int .i64) (show ((YB f i:Nat):Int)=((YB f (i+1):Nat):Int) from (by (rw [YB,if_neg fhc1];rfl)))),rfl⟩ (b2 (b2 bn)))))
  ·exact bn
  ·exact nd rfl
 refine VRun.exit (vthn.e (vthn.e (vinB.e (tn (sr (mO (tN (YB f i)) rfl (aO (tN (YB f i)) rfl (nt (rt (vi (n':=((YB f i:Nat):Int)) rfl ?_))))))))))
 rw [show i=f.size by omega]
noncomputable section
def JJ (g:D.Grid) (f:ByteArray):Prop:=QS g f∧¬Y6 f
instance (g:D.Grid) (f:ByteArray):Decidable (JJ g f):=Classical.propDecidable _
end
theorem Qeq (n:Nat) (g:D.Grid) (f:ByteArray) (hc:g.Cells.size≤maxLen) (hf:f.size≤maxLen):Pure (Qo Tryz.prog (n+4)) 87 [(T.agg (Qb false g)),(tS f)] (tB (decide (JJ g f))):=by
 refine Pure.intro (rs:= [ResultVar.tmp 4]) Tryz.func87 rfl rfl rfl (E0:= [(0,(T.agg (Qb false g))),(1,(tS f))]) rfl ?_
 obtain ⟨hlim,hmx,hmax⟩:=QF
 refine sr (kO (B.box (ts:=(Qb false g)) (tv (T.agg (Qb false g)) rfl) nofun rfl) (fO (OF.assign (VEv.bool false)) (nt (sr (lO (OL.loadOn (us:=(Qb false g)) (tv (T.op 0 0) rfl) rfl QP QN (lb rfl) rfl) (mO (tS f) rfl (cO (cS (vc (tv (T.agg (Qb false g)) rfl) (vc (tv (tS f) rfl) vn)) (LendL.cons (lg Qq) (lp rfl ln)) (JF (n+0) g f (by assumption) (by assumption)) rfl rfl) (mO (tB (decide (QS g f))) rfl ?_))))))))
 refine VRunO.joinB 4 [9,10,11] 12 (tB (decide ((QS g f)∧(¬(Y6 f))))) ?_ ?_
 ·refine gw (QS g f) (fun fhg8_1=> ?_) fun fhg8_1=> ?_
  ·refine gF (dy fhg8_1) rfl rfl (OF.move (tv (tS f) rfl)) ?_
   refine VRunO.chain (VWant.on rfl rfl (dy fhg8_1)) (cS (vc (tv (tS f) rfl) vn) (ZQ rfl) (Qed (n+2) f (by assumption)) rfl rfl) (gF (dy fhg8_1) rfl rfl (QY (tv (tB (decide (Y6 f))) rfl)) (fO (OF.pickT (VEv.tmpB rfl (dy fhg8_1)) (tv (tB (!(decide (Y6 f)))) rfl)) (VRunO.nil ?_)))
   exact jq (congrArg T.bool (kAT fhg8_1 dN)) (js rfl (js rfl (js rfl (jn))))
  ·refine Qx 3 3 true 8 (dz fhg8_1) rfl rfl rfl ?_
   refine fO (OF.pickF (VEv.tmpB rfl (dz fhg8_1)) (VEv.bool false)) (VRunO.nil ?_)
   exact jq (congrArg T.bool (kAF fhg8_1)) (js rfl (js rfl (js rfl (jn))))
 refine aO (tB (decide ((QS g f)∧(¬(Y6 f))))) rfl (nt (rt (vb (b':=(decide ((QS g f)∧(¬(Y6 f))))) rfl ?_)))
 exact Q4 Iff.rfl
theorem QeI (n:Nat) (g:D.Grid) (f:ByteArray) (hc:g.Cells.size≤maxLen) (hf:f.size≤maxLen):Pure (Qo Tryz.prog (n+4)) 89 [(T.agg (Qb false g)),(tS f)] (tB (decide (JJ g f))):=by
 refine Pure.intro (rs:= [ResultVar.tmp 4]) Tryz.func89 rfl rfl rfl (E0:= [(0,(T.agg (Qb false g))),(1,(tS f))]) rfl ?_
 obtain ⟨hlim,hmx,hmax⟩:=QF
 refine sr (kO (B.box (ts:=(Qb false g)) (tv (T.agg (Qb false g)) rfl) nofun rfl) (fO (OF.assign (VEv.bool false)) (nt (sr (lO (OL.loadOn (us:=(Qb false g)) (tv (T.op 0 0) rfl) rfl QP QN (lb rfl) rfl) (mO (tS f) rfl (cO (cS (vc (tv (T.agg (Qb false g)) rfl) (vc (tv (tS f) rfl) vn)) (LendL.cons (lg Qq) (lp rfl ln)) (Qa8 (n+0) g f (by assumption) (by assumption)) rfl rfl) (mO (tB (decide (QS g f))) rfl ?_))))))))
 refine VRunO.joinB 4 [9,10,11] 12 (tB (decide ((QS g f)∧(YB f f.size=0)))) ?_ ?_
 ·refine gw (QS g f) (fun fhg8_1=> ?_) fun fhg8_1=> ?_
  ·refine gF (dy fhg8_1) rfl rfl (OF.move (tv (tS f) rfl)) ?_
   refine VRunO.chain (VWant.on rfl rfl (dy fhg8_1)) (cS (vc (tv (tS f) rfl) vn) (ZQ rfl) (QeH (n+2) f (by assumption)) rfl rfl) (gF (dy fhg8_1) rfl rfl (B.eql (c:=(decide (YB f f.size=0))) (tv (tN (YB f f.size)) rfl) (VEv.int .i64 0) (Q4 (by omega))) (fO (OF.pickT (VEv.tmpB rfl (dy fhg8_1)) (tv (tB (decide (YB f f.size=0))) rfl)) (VRunO.nil ?_)))
   exact jq (congrArg T.bool (kAT fhg8_1 rfl)) (js rfl (js rfl (js rfl (jn))))
  ·refine Qx 3 3 true 8 (dz fhg8_1) rfl rfl rfl ?_
   refine fO (OF.pickF (VEv.tmpB rfl (dz fhg8_1)) (VEv.bool false)) (VRunO.nil ?_)
   exact jq (congrArg T.bool (kAF fhg8_1)) (js rfl (js rfl (js rfl (jn))))
 refine aO (tB (decide ((QS g f)∧(YB f f.size=0)))) rfl (nt (rt (vb (b':=(decide ((QS g f)∧(YB f f.size=0)))) rfl ?_)))
 refine Q4 ?_;rw [Qkf];exact Iff.rfl
noncomputable section
def QbT (p:D.Puzzle):Prop:=ZF p.Grid=0∧p.Clues.length=(Qa p.Grid).length∧p.Seals.length=(Qa p.Grid).length∧(1≤p.Salt∧p.Salt≤9999)∧∀c∈p.Clues,okC c
instance (p:D.Puzzle):Decidable (QbT p):=Classical.propDecidable _
def noC (c:D.Clue):Prop:=¬okC c
instance (c:D.Clue):Decidable (noC c):=Classical.propDecidable _
end
theorem QbU (n:Nat) (c:D.Clue) (hz:QO c≤mx):Pure (Qo Tryz.prog (n+5)) 58 [(T.agg (Qi false c))] (tB (decide (noC c))):=by
 refine Pure.intro (rs:= [ResultVar.tmp 2]) Tryz.func58 rfl rfl rfl (E0:= [(0,(T.agg (Qi false c)))]) rfl ?_
 obtain ⟨hlim,hmx,hmax⟩:=QF
 refine sr (kO (B.box (ts:=(Qi false c)) (tv (T.agg (Qi false c)) rfl) nofun rfl) (fO (OF.assign (VEv.bool false)) (nt (sr (lO (OL.loadOn (us:=(Qi false c)) (tv (T.op 0 0) rfl) rfl Qg4 Qa2 (lb rfl) rfl) (cO (cS (vc (tv (T.agg (Qi false c)) rfl) vn) (LendL.cons (lg okeClue) ln) (Qet (n+0) c (by assumption)) rfl rfl) (fO (QY (tv (tB (decide ((1≤c.Sense∧c.Sense≤99)∧ZX c.Play))) rfl)) (aO (tB (!(decide ((1≤c.Sense∧c.Sense≤99)∧ZX c.Play)))) rfl (nt (rt (vb (b':=(!(decide ((1≤c.Sense∧c.Sense≤99)∧ZX c.Play)))) rfl ?_)))))))))))
 rw [dN];exact Q4 Iff.rfl
theorem Zn (n:Nat) (l:List D.Clue) (hz:zL QO l≤mx):Pure (Qo Tryz.prog (n+6)) 83 [(rd 2 Qi l),(T.fn 58 [])] (tI (ixF noC l)):=by
 refine Pure.intro (rs:= [ResultVar.tmp 4]) Tryz.func83 rfl rfl rfl (E0:= [(0,(rd 2 Qi l)),(1,(T.fn 58 []))]) rfl ?_
 obtain ⟨hlim,hmx,hmax⟩:=QF
 have hl:=Zf (z:=QO) l
 refine sr (fO (OF.assign (VEv.int .i64 0)) (nt (sq (sr (mO (rd 2 Qi l) rfl (lO (B.lenR (m:=l.length) (tv (rd 2 Qi l) rfl) U34 (List.length_map ..)) (fO (OF.move (VEv.int .i64 0)) (nt (VRun.block ?_)))))))))
 refine VRun.loop (A:=Nat) (fun s_=> [(0,(rd 2 Qi l)),(1,(T.fn 58 [])),(7,(tN l.length)),(8,(tN s_))]) (fun s_=>Q0 []) 0 (fun s_=>NoneTo noC l s_) (fun s_=>l.length - s_) (0:Nat) ?_ (Wk.mk (fun k=>k) ?_ ?_ ?_) ?_
 ·exact NoneTo.start _ _
 ·exact (b2 (b2 (b2 (b2 bn))))
 ·exact bn
 ·exact nd rfl
 rintro i (hI':NoneTo noC l i)
 show VRun _ _ _ [(0,(rd 2 Qi l)),(1,(T.fn 58 [])),(7,(tN l.length)),(8,(tN i))] (Q0 []) 0 _
 have hI1:=hI'.1
 refine sr (fO (Ze (tv (tN i) rfl) (tv (tN l.length) rfl)) (nt (sq ?_)))
 refine cd (i<l.length) rfl (fun fhc0=> ?_) fun fhc0=> ?_
 ·refine sk ?_
  refine tn (sq (VRun.block (sr (mO (tN i) rfl (aO (tN i) rfl (nt (sr (mO (T.fn 58 []) rfl (mO (rd 2 Qi l) rfl (mO (tN i) rfl ?_))))))))))
  obtain ⟨x1,hx1⟩:∃x,l[i]? =some x:=⟨_,List.getElem?_eq_getElem (by omega)⟩
  refine fO (OF.indexAddrR (row:=(Qi false x1)) (i:=i) (tv (rd 2 Qi l) rfl) (tv (tN i) rfl) rfl (Qw _ hx1) U34 Qa2 Qhn) (lO (OL.loadRn (us:=(Qi false x1)) (tv (T.rp (Qi false x1)) rfl) Qg4 Qa2 (lb rfl) rfl) (cO (OC.callv (us:= [(T.agg (Qi false x1))]) (ucaps:= []) (r:=(tB (decide (noC x1)))) (r':=(tB (decide (noC x1)))) (objs:= []) rfl rfl (vc (tv (T.agg (Qi false x1)) rfl) vn) (LendL.cons (lg okeClue) ln) ln (QbU (n+0) x1 (by exact Nat.le_trans (Qe0 hx1) hz)) rfl) (nt ?_)))
  refine cd (noC x1) rfl (fun fhc1=> ?_) fun fhc1=> ?_
  ·refine sr ?_
   refine mO (tN i) rfl (aO (tN i) rfl (nt (rt (vinB.r (tr (tr (vinB.r (tr (vi (n':=((i:Nat):Int)) rfl ?_)))))))))
   exact (Qcn hx1 fhc1 hI'.2).symm
  refine sk (vinB.n (tn (VRun.region (fO (QA (tv (tN i) rfl) (VEv.int .i64 1) (by omega)) (mO (tN (i+1)) rfl (VRunO.nil (tn ?_)))))))
  refine ⟨(i+1:Nat),?_,?_,Wk.mk (fun k=>k) ?_ ?_ ?_⟩
  ·exact hI'.next hx1 fhc1
  ·omega
  ·exact (b2 (b2 (b2 (b2 bn))))
  ·exact bn
  ·exact nd rfl
 refine VRun.exit (vthn.e (vthn.e (vinB.e (tn (sr (fO (OF.assign (VEv.int .i64 (-1))) (nt (rt (vi (n':=(-1)) rfl ?_)))))))))
 exact (QdJ (hI'.all fhc0)).symm
theorem Zh (n:Nat) (l:List D.Clue) (hz:zL QO l≤mx):Pure (Qo Tryz.prog (n+7)) 57 [(rd 2 Qi l),(T.fn 58 [])] (tB (decide (∃c∈l,noC c))):=by
 refine Pure.intro (rs:= [ResultVar.tmp 4]) Tryz.func57 rfl rfl rfl (E0:= [(0,(rd 2 Qi l)),(1,(T.fn 58 []))]) rfl ?_
 obtain ⟨hlim,hmx,hmax⟩:=QF
 refine sr (fO (OF.assign (VEv.bool false)) (nt (sr (mO (rd 2 Qi l) rfl (mO (T.fn 58 []) rfl (cO (cS (us:= [(rd 2 Qi l),(T.fn 58 [])]) (vc (tv (rd 2 Qi l) rfl) (vc (tv (T.fn 58 []) rfl) vn)) (lp rfl (LendL.cons (Lend.fn ln) ln)) (Zn (n+0) l (by assumption)) rfl rfl) (fO (xge (tv (tI (ixF noC l)) rfl) (VEv.int .i64 0)) (aO (tB (decide (0≤ixF noC l))) rfl (nt (rt (vb (b':=(decide (0≤ixF noC l))) rfl ?_)))))))))))
 refine Q4 ?_;exact Qg0
theorem Qc2 (n:Nat) (a:D.Puzzle) (hz:QI a≤mx):Pure (Qo Tryz.prog (n+10)) 29 [(T.agg (Qv false a))] (tB (decide (QbT a))):=by
 refine Pure.intro (rs:= [ResultVar.tmp 2]) Tryz.func29 rfl rfl rfl (E0:= [(0,(T.agg (Qv false a)))]) rfl ?_
 obtain ⟨hlim,hmx,hmax⟩:=QF
 simp only [QI,Zp] at hz
 have hl:=Zf (z:=QO) a.Clues
 have hl2:=Zf (z:=zI) a.Seals
 refine sr (kO (B.box (ts:=(Qv false a)) (tv (T.agg (Qv false a)) rfl) nofun rfl) (fO (OF.assign (VEv.bool false)) (nt (sq (sr (fO (OF.assign (VEv.int .i64 0)) (nt (VRun.block ?_))))))))
 refine VRun.loop (A:=Nat) (fun s_=> [(1,(T.op 0 0)),(3,(tN s_))]) (fun s_=>Q0 [(0,(Obj.cells (Qv false a)))]) 1 (fun s_=>NoneTo noC a.Clues s_) (fun s_=>a.Clues.length - s_) (0:Nat) ?_ (Wk.mk (fun k=>k) ?_ ?_ ?_) ?_
 ·exact NoneTo.start _ _
 ·exact (b2 (b2 bn))
 ·exact (b3 bn)
 ·exact nd rfl
 rintro i (hI':NoneTo noC a.Clues i)
 show VRun _ _ _ [(1,(T.op 0 0)),(3,(tN i))] (Q0 [(0,(Obj.cells (Qv false a)))]) 1 _
 have hI1:=hI'.1
 refine sq (sr (mO (tN i) rfl (lf (rd 2 Qi a.Clues) rfl Qah rfl rfl Qgc (lO (B.lenR (m:=a.Clues.length) (tv (rd 2 Qi a.Clues) rfl) U34 (List.length_map ..)) (fO (Ze (tv (tN i) rfl) (tv (tN a.Clues.length) rfl)) (nt ?_))))))
 refine cd (i<a.Clues.length) rfl (fun fhc0=> ?_) fun fhc0=> ?_
 ·refine sk ?_
  refine tn (sq (VRun.block (sr (lf (rd 2 Qi a.Clues) rfl Qah rfl rfl Qgc (mO (tN i) rfl ?_)))))
  obtain ⟨x1,hx1⟩:∃x,a.Clues[i]? =some x:=⟨_,List.getElem?_eq_getElem (by omega)⟩
  refine fO (OF.indexAddrR (row:=(Qi false x1)) (i:=i) (tv (rd 2 Qi a.Clues) rfl) (tv (tN i) rfl) rfl (Qw _ hx1) U34 Qa2 Qhn) (lO (OL.loadRn (us:=(Qi false x1)) (tv (T.rp (Qi false x1)) rfl) Qg4 Qa2 (lb rfl) rfl) (cO (cS (vc (tv (T.agg (Qi false x1)) rfl) vn) (LendL.cons (lg okeClue) ln) (Qey (n+4) x1 (by exact Nat.le_trans (Qe0 hx1) (by omega))) rfl rfl) (fO (QY (tv (tB (decide ((1≤x1.Sense∧x1.Sense≤99)∧ZX x1.Play))) rfl)) (nt ?_))))
  refine cn ((1≤x1.Sense∧x1.Sense≤99)∧ZX x1.Play) rfl (fun fhc1=> ?_) fun fhc1=> ?_
  ·refine sr ?_
   refine fO (OF.assign (VEv.bool false)) (nt (rt (vinB.r (tr (tr (vinB.r (tr (vb (b':=false) rfl ?_))))))))
   symm;rw [decide_eq_false_iff_not];rintro ⟨_,_,_,_,h⟩;exact fhc1 (h x1 (List.mem_of_getElem? hx1))
  refine sk (vinB.n (tn (VRun.region (mO (tN i) rfl (fO (QA (tv (tN i) rfl) (VEv.int .i64 1) (by omega)) (aO (tN (i+1)) rfl (VRunO.nil (tn ?_))))))))
  refine ⟨(i+1:Nat),?_,?_,Wk.mk (fun k=>k) ?_ ?_ ?_⟩
  ·exact hI'.next hx1 (fun h=>h fhc1)
  ·omega
  ·exact (b2 (b2 bn))
  ·exact (b3 bn)
  ·exact nd rfl
 refine VRun.exit (vthn.e (vthn.e (vinB.e (tn (sr (fO (OF.fieldAddrO (tv (T.op 0 0) rfl) YM) (lO (OL.loadOn (us:=(Qb false a.Grid)) (tv (T.op 0 0) rfl) rfl QP QN (lb rfl) rfl) (cO (OC.callF (r':=(T.os 4 1 0 (((Qa a.Grid).map (Qf true)).length))) (objs:= [(Obj.rows 4 ((Qa a.Grid).map (Qf true)))]) rfl (vc (tv (T.agg (Qb false a.Grid)) rfl) vn) (LendL.cons (lg Qq) ln) (Zi (n+6) a.Grid (by omega)) rfl) (lO (B.lenO (m:=(Qa a.Grid).length) (tv (T.os 4 1 0 (((Qa a.Grid).map (Qf true)).length)) rfl) J6 (List.length_map ..)) (aO (tN ((Qa a.Grid).length)) rfl (nt ?_)))))))))))
 refine sr (fO (OF.fieldAddrO (tv (T.op 0 0) rfl) YM) (lO (OL.loadOn (us:=(Qb false a.Grid)) (tv (T.op 0 0) rfl) rfl QP QN (lb rfl) rfl) (cO (cS (vc (tv (T.agg (Qb false a.Grid)) rfl) vn) (LendL.cons (lg Qq) ln) (QeA (n+0) a.Grid (by omega)) rfl rfl) (fO (YF (tv (tI (ZF a.Grid)) rfl) (VEv.int .i64 0)) (mO (tB (decide (ZF a.Grid=0))) rfl ?_)))))
 refine VRunO.joinB 6 [28,29,30,31,32] 33 (tB (decide ((ZF a.Grid=0)∧(a.Clues.length=(Qa a.Grid).length)))) ?_ ?_
 ·refine gw (ZF a.Grid=0) (fun fhg27_1=> ?_) fun fhg27_1=> ?_
  ·refine ZV (rd 2 Qi a.Clues) (dy fhg27_1) rfl rfl rfl rfl Qah rfl rfl Qgc ?_
   refine gL (dy fhg27_1) rfl rfl (B.lenR (m:=a.Clues.length) (tv (rd 2 Qi a.Clues) rfl) U34 (List.length_map ..)) (gF (dy fhg27_1) rfl rfl (OF.move (tv (tN ((Qa a.Grid).length)) rfl)) (gF (dy fhg27_1) rfl rfl (Qif (tv (tN a.Clues.length) rfl) (tv (tN ((Qa a.Grid).length)) rfl)) (fO (OF.pickT (VEv.tmpB rfl (dy fhg27_1)) (tv (tB (decide (a.Clues.length=(Qa a.Grid).length))) rfl)) (VRunO.nil ?_))))
   exact jq (congrArg T.bool (kAT fhg27_1 rfl)) (js rfl (js rfl (js rfl (js rfl (js rfl (jn))))))
  ·refine Qx 5 4 true 27 (dz fhg27_1) rfl rfl rfl ?_
   refine fO (OF.pickF (VEv.tmpB rfl (dz fhg27_1)) (VEv.bool false)) (VRunO.nil ?_)
   exact jq (congrArg T.bool (kAF fhg27_1)) (js rfl (js rfl (js rfl (js rfl (js rfl (jn))))))
 refine mO (tB (decide ((ZF a.Grid=0)∧(a.Clues.length=(Qa a.Grid).length)))) rfl ?_
 refine VRunO.joinB 6 [35,36,37,38,39] 40 (tB (decide (((ZF a.Grid=0)∧(a.Clues.length=(Qa a.Grid).length))∧(a.Seals.length=(Qa a.Grid).length)))) ?_ ?_
 ·refine gw ((ZF a.Grid=0)∧(a.Clues.length=(Qa a.Grid).length)) (fun fhg34_2=> ?_) fun fhg34_2=> ?_
  ·refine ZV (rd 1 Qc a.Seals) (dy fhg34_2) rfl rfl rfl rfl Qav rfl rfl QcI ?_
   refine gL (dy fhg34_2) rfl rfl (B.lenR (m:=a.Seals.length) (tv (rd 1 Qc a.Seals) rfl) ZL (List.length_map ..)) (gF (dy fhg34_2) rfl rfl (OF.move (tv (tN ((Qa a.Grid).length)) rfl)) (gF (dy fhg34_2) rfl rfl (Qif (tv (tN a.Seals.length) rfl) (tv (tN ((Qa a.Grid).length)) rfl)) (fO (OF.pickT (VEv.tmpB rfl (dy fhg34_2)) (tv (tB (decide (a.Seals.length=(Qa a.Grid).length))) rfl)) (VRunO.nil ?_))))
   exact jq (congrArg T.bool (kAT fhg34_2 rfl)) (js rfl (js rfl (js rfl (js rfl (js rfl (jn))))))
  ·refine Qx 5 11 true 34 (dz fhg34_2) rfl rfl rfl ?_
   refine fO (OF.pickF (VEv.tmpB rfl (dz fhg34_2)) (VEv.bool false)) (VRunO.nil ?_)
   exact jq (congrArg T.bool (kAF fhg34_2)) (js rfl (js rfl (js rfl (js rfl (js rfl (jn))))))
 refine mO (tB (decide (((ZF a.Grid=0)∧(a.Clues.length=(Qa a.Grid).length))∧(a.Seals.length=(Qa a.Grid).length)))) rfl ?_
 refine VRunO.joinB 4 [42,43,44] 45 (tB (decide ((((ZF a.Grid=0)∧(a.Clues.length=(Qa a.Grid).length))∧(a.Seals.length=(Qa a.Grid).length))∧(1≤a.Salt∧a.Salt≤9999)))) ?_ ?_
 ·refine gw (((ZF a.Grid=0)∧(a.Clues.length=(Qa a.Grid).length))∧(a.Seals.length=(Qa a.Grid).length)) (fun fhg41_3=> ?_) fun fhg41_3=> ?_
  ·refine ZV (tI a.Salt) (dy fhg41_3) rfl rfl rfl rfl Qba rfl rfl QV ?_
   refine VRunO.chain (VWant.on rfl rfl (dy fhg41_3)) (cS (vc (tv (tI a.Salt) rfl) (vc (VEv.int .i64 1) (vc (VEv.int .i64 9999) vn))) (ZQ rfl) (QQ (n+8) a.Salt 1 9999) rfl rfl) (fO (OF.pickT (VEv.tmpB rfl (dy fhg41_3)) (tv (tB (decide (1≤a.Salt∧a.Salt≤9999))) rfl)) (VRunO.nil ?_))
   exact jq (congrArg T.bool (kAT fhg41_3 rfl)) (js rfl (js rfl (js rfl (jn))))
  ·refine Qx 3 18 true 41 (dz fhg41_3) rfl rfl rfl ?_
   refine fO (OF.pickF (VEv.tmpB rfl (dz fhg41_3)) (VEv.bool false)) (VRunO.nil ?_)
   exact jq (congrArg T.bool (kAF fhg41_3)) (js rfl (js rfl (js rfl (jn))))
 refine aO (tB (decide ((((ZF a.Grid=0)∧(a.Clues.length=(Qa a.Grid).length))∧(a.Seals.length=(Qa a.Grid).length))∧(1≤a.Salt∧a.Salt≤9999)))) rfl (nt (rt (vb (b':=(decide ((((ZF a.Grid=0)∧(a.Clues.length=(Qa a.Grid).length))∧(a.Seals.length=(Qa a.Grid).length))∧(1≤a.Salt∧a.Salt≤9999)))) rfl ?_)))
 refine Q4 ⟨fun h=>⟨h.1.1.1,h.1.1.2,h.1.2,h.2,fun c hc=>Classical.byContradiction fun e=>hI'.mem fhc0 c hc e⟩,fun h=>⟨⟨⟨h.1,h.2.1⟩,h.2.2.1⟩,h.2.2.2.1⟩⟩
theorem Qdb (n:Nat) (a:D.Puzzle) (hz:QI a≤mx):Pure (Qo Tryz.prog (n+42)) 35 [(T.agg (Qv false a))] (tB (decide (QbT a))):=by
 refine Pure.intro (rs:= [ResultVar.tmp 2]) Tryz.func35 rfl rfl rfl (E0:= [(0,(T.agg (Qv false a)))]) rfl ?_
 obtain ⟨hlim,hmx,hmax⟩:=QF
 simp only [QI,Zp] at hz
 have hl:=Zf (z:=QO) a.Clues
 have hl2:=Zf (z:=zI) a.Seals
 refine sr (kO (B.box (ts:=(Qv false a)) (tv (T.agg (Qv false a)) rfl) nofun rfl) (fO (OF.assign (VEv.bool false)) (nt (sq (sr (fO (OF.fieldAddrO (tv (T.op 0 0) rfl) YM) (lO (OL.loadOn (us:=(Qb false a.Grid)) (tv (T.op 0 0) rfl) rfl QP QN (lb rfl) rfl) (cO (cS (vc (tv (T.agg (Qb false a.Grid)) rfl) vn) (LendL.cons (lg Qq) ln) (QeN (n+0) a.Grid (by omega)) rfl rfl) (fO (xne (tv (tI (ZF a.Grid)) rfl) (VEv.int .i64 0)) (nt ?_))))))))))
 refine cn (ZF a.Grid=0) rfl (fun fhc0=> ?_) fun fhc0=> ?_
 ·refine sr ?_
  refine fO (OF.assign (VEv.bool false)) (nt (rt (tr (vb (b':=false) rfl ?_))))
  symm;rw [decide_eq_false_iff_not];intro h;exact fhc0 h.1
 refine sk (tn (sr (fO (OF.fieldAddrO (tv (T.op 0 0) rfl) YM) (lO (OL.loadOn (us:=(Qb false a.Grid)) (tv (T.op 0 0) rfl) rfl QP QN (lb rfl) rfl) (cO (OC.callF (r':=(T.os 4 1 0 (((Qa a.Grid).map (Qf true)).length))) (objs:= [(Obj.rows 4 ((Qa a.Grid).map (Qf true)))]) rfl (vc (tv (T.agg (Qb false a.Grid)) rfl) vn) (LendL.cons (lg Qq) ln) (Jo (n+38) a.Grid (by omega)) rfl) (lO (B.lenO (m:=(Qa a.Grid).length) (tv (T.os 4 1 0 (((Qa a.Grid).map (Qf true)).length)) rfl) J6 (List.length_map ..)) (aO (tN ((Qa a.Grid).length)) rfl (nt (sr (lf (rd 2 Qi a.Clues) rfl Qah rfl rfl Qgc (lO (B.lenR (m:=a.Clues.length) (tv (rd 2 Qi a.Clues) rfl) U34 (List.length_map ..)) ?_)))))))))))
 refine mO (tN ((Qa a.Grid).length)) rfl (fO (Qif (tv (tN a.Clues.length) rfl) (tv (tN ((Qa a.Grid).length)) rfl)) (mO (tB (decide (a.Clues.length=(Qa a.Grid).length))) rfl ?_))
 refine gw (a.Clues.length=(Qa a.Grid).length) (fun fhg17_1=> ?_) fun fhg17_1=> ?_
 ·refine ZV (rd 1 Qc a.Seals) (dy fhg17_1) rfl rfl rfl rfl Qav rfl rfl QcI ?_
  refine gL (dy fhg17_1) rfl rfl (B.lenR (m:=a.Seals.length) (tv (rd 1 Qc a.Seals) rfl) ZL (List.length_map ..)) (gF (dy fhg17_1) rfl rfl (OF.move (tv (tN ((Qa a.Grid).length)) rfl)) (gF (dy fhg17_1) rfl rfl (Qif (tv (tN a.Seals.length) rfl) (tv (tN ((Qa a.Grid).length)) rfl)) (fO (OF.pickT (VEv.tmpB rfl (dy fhg17_1)) (tv (tB (decide (a.Seals.length=(Qa a.Grid).length))) rfl)) (mO (tB (decide (a.Seals.length=(Qa a.Grid).length))) rfl ?_))))
  refine gw (a.Seals.length=(Qa a.Grid).length) (fun fhg24_2=> ?_) fun fhg24_2=> ?_
  ·refine ZV (tI a.Salt) (dy fhg24_2) rfl rfl rfl rfl Qba rfl rfl QV ?_
   refine VRunO.chain (VWant.on rfl rfl (dy fhg24_2)) (cS (vc (tv (tI a.Salt) rfl) (vc (VEv.int .i64 1) (vc (VEv.int .i64 9999) vn))) (ZQ rfl) (Q9 (n+40) a.Salt 1 9999) rfl rfl) (fO (OF.pickT (VEv.tmpB rfl (dy fhg24_2)) (tv (tB (decide (1≤a.Salt∧a.Salt≤9999))) rfl)) (mO (tB (decide (1≤a.Salt∧a.Salt≤9999))) rfl ?_))
   refine gw (1≤a.Salt∧a.Salt≤9999) (fun fhg29_3=> ?_) fun fhg29_3=> ?_
   ·refine ZV (rd 2 Qi a.Clues) (dy fhg29_3) rfl rfl rfl rfl Qah rfl rfl Qgc ?_
    refine VRunO.chain (VWant.on rfl rfl (dy fhg29_3)) (cS (us:= [(rd 2 Qi a.Clues),(T.fn 58 [])]) (vc (tv (rd 2 Qi a.Clues) rfl) (vc (VEv.func 58) vn)) (lp rfl (LendL.cons (Lend.fn ln) ln)) (Zh (n+34) a.Clues (by omega)) rfl rfl) (gF (dy fhg29_3) rfl rfl (QY (tv (tB (decide (∃c∈a.Clues,noC c))) rfl)) (fO (OF.pickT (VEv.tmpB rfl (dy fhg29_3)) (tv (tB (!(decide (∃c∈a.Clues,noC c)))) rfl)) (aO (tB (!(decide (∃c∈a.Clues,noC c)))) rfl (nt (rt (vb (b':=(!(decide (∃c∈a.Clues,noC c)))) rfl ?_))))))
    (rw [dN];refine Q4 ⟨fun h=>⟨?_,?_,?_,?_,fun c hc=>Classical.byContradiction fun e=>h ⟨c,hc,e⟩⟩,fun h=> ?_⟩<;>first | assumption | (rintro ⟨c,hc,hb⟩;exact hb (h.2.2.2.2 c hc)))
   refine Qx 4 17 true 29 (dz fhg29_3) rfl rfl rfl (fO (OF.pickF (VEv.tmpB rfl (dz fhg29_3)) (VEv.bool false)) (aO (tB false) rfl (nt (rt (vb (b':=false) rfl ?_)))))
   (symm;rw [decide_eq_false_iff_not];rintro ⟨h1,h2,h3,h4,h5⟩;contradiction)
  refine Qx 3 12 true 24 (dz fhg24_2) rfl rfl rfl (fO (OF.pickF (VEv.tmpB rfl (dz fhg24_2)) (VEv.bool false)) (mO (tB false) rfl (Qx 4 17 true 29 (b:=false) rfl rfl rfl rfl (fO (OF.pickF (tv (tB false) rfl) (VEv.bool false)) (aO (tB false) rfl (nt (rt (vb (b':=false) rfl ?_))))))))
  (symm;rw [decide_eq_false_iff_not];rintro ⟨h1,h2,h3,h4,h5⟩;contradiction)
 refine Qx 5 5 true 17 (dz fhg17_1) rfl rfl rfl (fO (OF.pickF (VEv.tmpB rfl (dz fhg17_1)) (VEv.bool false)) (mO (tB false) rfl (Qx 3 12 true 24 (b:=false) rfl rfl rfl rfl (fO (OF.pickF (tv (tB false) rfl) (VEv.bool false)) (mO (tB false) rfl (Qx 4 17 true 29 (b:=false) rfl rfl rfl rfl (fO (OF.pickF (tv (tB false) rfl) (VEv.bool false)) (aO (tB false) rfl (nt (rt (vb (b':=false) rfl ?_)))))))))))
 (symm;rw [decide_eq_false_iff_not];rintro ⟨h1,h2,h3,h4,h5⟩;contradiction)
noncomputable section
def QJ (p:D.Puzzle) (f:ByteArray):Prop:=QbT p∧JJ p.Grid f∧(Zs p.Grid f p.Seals p.Salt).length=p.Clues.length
instance (p:D.Puzzle) (f:ByteArray):Decidable (QJ p f):=Classical.propDecidable _
end
theorem Qc8 (n:Nat) (a:D.Puzzle) (f:ByteArray) (hz:QI a≤mx) (hf:f.size≤maxLen):Pure (Qo Tryz.prog (n+11)) 64 [(T.agg (Qv false a)),(tS f)] (tB (decide (QJ a f))):=by
 refine Pure.intro (rs:= [ResultVar.tmp 4]) Tryz.func64 rfl rfl rfl (E0:= [(0,(T.agg (Qv false a))),(1,(tS f))]) rfl ?_
 obtain ⟨hlim,hmx,hmax⟩:=QF
 have hz2:=hz
 simp only [QI,Zp] at hz2
 have hl:=Zf (z:=QO) a.Clues
 have hl2:=Zf (z:=zI) a.Seals
 have hrl:=QdP a.Grid f a.Seals a.Salt
 refine sr (kO (B.box (ts:=(Qv false a)) (tv (T.agg (Qv false a)) rfl) nofun rfl) (fO (OF.assign (VEv.bool false)) (nt (sq (VRun.draw (B:= [[],[0],[0,1],[1,0,2],[2,0,1,3],[1,0,2],[5,3,1,0,2,4],[4,3,5,6,1,0,2],[2,0,1,6,5,3,4,7],[7,4,3,5,6,1,0,2,8],[8,2,0,1,6,5,3,4,7,9],[7,4,3,5,6,1,0,2,8],[7,4,3,5,6,1,0,2,8],[8,2,0,1,6,5,3,4,7,12],[7,4,3,5,6,1,0,2,8],[8,2,0,1,6,5,3,4,7,14],[14,15,12,13,11,9,7,4,3,5,6,1,0,2,8,10],[10,8,2,0,1,6,5,3,4,7,9,11,13,12,15,14,16],[7,4,3,5,6,1,0,2,8],[8,2,0,1,6,5,3,4,7,18],[18,7,4,3,5,6,1,0,2,8,19],[19,18,20,16,14,15,12,13,11,9,7,4,3,5,6,1,0,2,8,10,17],[17,10,9,11,13,12,15,14,16,20,18,19,21,7,4,3,5,6,1,0,2,8],[8,2,0,1,6,5,3,4,7,21,19,18,20,16,14,15,12,13,11,9,10,17,22]]) (by kernel_rfl) (by kernel_rfl) (lD (OL.loadOn (us:=(Qv false a)) (tv (T.op 0 0) rfl) rfl Qge Qdq (lb rfl) rfl) rfl rfl (VRunD.quiet (bi:= [0]) rfl VWant.always rfl rfl rfl bn (cS (vc (tv (T.agg (Qv false a)) rfl) vn) (LendL.cons (lg Yh) ln) (Qc2 (n+0) a (by assumption)) rfl rfl) (mD (tB (decide (QbT a))) rfl rfl ?_))))))))
 refine gw (QbT a) (fun fhg7_1=> ?_) fun fhg7_1=> ?_
 ·refine VRunD.free rfl (VWant.on rfl rfl (dy fhg7_1)) rfl (OF.fieldAddrO (tv (T.op 0 0) rfl) YM) ?_
  refine VRunD.look rfl (VWant.on rfl rfl (dy fhg7_1)) rfl (OL.loadOn (us:=(Qb false a.Grid)) (tv (T.op 0 0) rfl) rfl QP QN (lb rfl) rfl) (VRunD.free rfl (VWant.on rfl rfl (dy fhg7_1)) rfl (OF.move (tv (tS f) rfl)) (VRunD.quiet (bi:= [5,3,1,0,2,4]) rfl (VWant.on rfl rfl (dy fhg7_1)) rfl rfl rfl bn (cS (vc (tv (T.agg (Qb false a.Grid)) rfl) (vc (tv (tS f) rfl) vn)) (LendL.cons (lg Qq) (lp rfl ln)) (Qeq (n+6) a.Grid f (by omega) (by assumption)) rfl rfl) (fD (OF.pickT (VEv.tmpB rfl (dy fhg7_1)) (tv (tB (decide (JJ a.Grid f))) rfl)) rfl rfl (mD (tB (decide (JJ a.Grid f))) rfl rfl ?_))))
  refine gw (JJ a.Grid f) (fun fhg13_2=> ?_) fun fhg13_2=> ?_
  ·refine VRunD.free rfl (VWant.on rfl rfl (dy fhg13_2)) rfl (OF.fieldAddrO (tv (T.op 0 0) rfl) YM) ?_
   refine VRunD.look rfl (VWant.on rfl rfl (dy fhg13_2)) rfl (OL.loadOn (us:=(Qb false a.Grid)) (tv (T.op 0 0) rfl) rfl QP QN (lb rfl) rfl) (VRunD.free rfl (VWant.on rfl rfl (dy fhg13_2)) rfl (OF.move (tv (tS f) rfl)) (VRunD.free rfl (VWant.on rfl rfl (dy fhg13_2)) rfl (OF.fieldAddrO (tv (T.op 0 0) rfl) Qav) (VRunD.look rfl (VWant.on rfl rfl (dy fhg13_2)) rfl (OL.loadO1 (t:=(rd 1 Qc a.Seals)) (tv (T.op 0 4) rfl) rfl rfl QcI) (VRunD.free rfl (VWant.on rfl rfl (dy fhg13_2)) rfl (OF.fieldAddrO (tv (T.op 0 0) rfl) Qba) (VRunD.look rfl (VWant.on rfl rfl (dy fhg13_2)) rfl (OL.loadO1 (t:=(tI a.Salt)) (tv (T.op 0 5) rfl) rfl rfl QV) (VRunD.quiet (bi:= [14,15,12,13,11,9,7,4,3,5,6,1,0,2,8,10]) rfl (VWant.on rfl rfl (dy fhg13_2)) rfl rfl rfl bn (OC.callF (r':=(T.os 1 1 0 (((Zs a.Grid f a.Seals a.Salt).map (Qc true)).length))) (objs:= [(Obj.rows 1 ((Zs a.Grid f a.Seals a.Salt).map (Qc true)))]) rfl (vc (tv (T.agg (Qb false a.Grid)) rfl) (vc (tv (tS f) rfl) (vc (tv (rd 1 Qc a.Seals) rfl) (vc (tv (tI a.Salt) rfl) vn)))) (LendL.cons (lg Qq) (lp rfl (lp rfl (lp rfl ln)))) (Qb2 (n+4) a.Grid f a.Seals a.Salt (by omega) (by assumption) (by omega)) rfl) (VRunD.look rfl (VWant.on rfl rfl (dy fhg13_2)) rfl (B.lenO (m:=(Zs a.Grid f a.Seals a.Salt).length) (tv (T.os 1 1 0 (((Zs a.Grid f a.Seals a.Salt).map (Qc true)).length)) rfl) ZL (List.length_map ..)) (VRunD.free rfl (VWant.on rfl rfl (dy fhg13_2)) rfl (OF.fieldAddrO (tv (T.op 0 0) rfl) Qah) (VRunD.look rfl (VWant.on rfl rfl (dy fhg13_2)) rfl (OL.loadO1 (t:=(rd 2 Qi a.Clues)) (tv (T.op 0 3) rfl) rfl rfl Qgc) (VRunD.look rfl (VWant.on rfl rfl (dy fhg13_2)) rfl (B.lenR (m:=a.Clues.length) (tv (rd 2 Qi a.Clues) rfl) U34 (List.length_map ..)) (VRunD.free rfl (VWant.on rfl rfl (dy fhg13_2)) rfl (Qif (tv (tN ((Zs a.Grid f a.Seals a.Salt).length)) rfl) (tv (tN a.Clues.length) rfl)) ?_)))))))))))
   refine fD (OF.pickT (VEv.tmpB rfl (dy fhg13_2)) (tv (tB (decide ((Zs a.Grid f a.Seals a.Salt).length=a.Clues.length))) rfl)) rfl rfl (fD (OF.assign (tv (tB (decide ((Zs a.Grid f a.Seals a.Salt).length=a.Clues.length))) rfl)) rfl rfl (VRunD.nil (tn (rt (vb (b':=(decide ((Zs a.Grid f a.Seals a.Salt).length=a.Clues.length))) rfl ?_)))))
   (refine Q4 ⟨fun h=>⟨?_,?_,h⟩,fun h=>h.2.2⟩<;>assumption)
  refine oD rfl rfl (dz fhg13_2) rfl (oD rfl rfl (dz fhg13_2) rfl (oD rfl rfl (dz fhg13_2) rfl (oD rfl rfl (dz fhg13_2) rfl (oD rfl rfl (dz fhg13_2) rfl (oD rfl rfl (dz fhg13_2) rfl (oD rfl rfl (dz fhg13_2) rfl (oD rfl rfl (dz fhg13_2) rfl (oD rfl rfl (dz fhg13_2) rfl (oD rfl rfl (dz fhg13_2) rfl (oD rfl rfl (dz fhg13_2) rfl (oD rfl rfl (dz fhg13_2) rfl ?_)))))))))))
  refine oD rfl rfl (dz fhg13_2) rfl (fD (OF.pickF (VEv.tmpB rfl (dz fhg13_2)) (VEv.bool false)) rfl rfl (fD (OF.assign (tv (tB false) rfl)) rfl rfl (VRunD.nil (tn (rt (vb (b':=false) rfl ?_))))))
  (symm;rw [decide_eq_false_iff_not];rintro ⟨h1,h2,h3⟩;contradiction)
 refine oD rfl rfl (dz fhg7_1) rfl (oD rfl rfl (dz fhg7_1) rfl (oD rfl rfl (dz fhg7_1) rfl (oD rfl rfl (dz fhg7_1) rfl (fD (OF.pickF (VEv.tmpB rfl (dz fhg7_1)) (VEv.bool false)) rfl rfl (mD (tB false) rfl rfl (VRunD.off rfl (VWant.not (b:=false) rfl rfl rfl) (VRunD.off rfl (VWant.not (b:=false) rfl rfl rfl) (VRunD.off rfl (VWant.not (b:=false) rfl rfl rfl) (VRunD.off rfl (VWant.not (b:=false) rfl rfl rfl) (VRunD.off rfl (VWant.not (b:=false) rfl rfl rfl) (VRunD.off rfl (VWant.not (b:=false) rfl rfl rfl) ?_)))))))))))
 refine VRunD.off rfl (VWant.not (b:=false) rfl rfl rfl) (VRunD.off rfl (VWant.not (b:=false) rfl rfl rfl) (VRunD.off rfl (VWant.not (b:=false) rfl rfl rfl) (VRunD.off rfl (VWant.not (b:=false) rfl rfl rfl) (VRunD.off rfl (VWant.not (b:=false) rfl rfl rfl) (VRunD.off rfl (VWant.not (b:=false) rfl rfl rfl) (VRunD.off rfl (VWant.not (b:=false) rfl rfl rfl) (fD (OF.pickF (tv (tB false) rfl) (VEv.bool false)) rfl rfl (fD (OF.assign (tv (tB false) rfl)) rfl rfl (VRunD.nil (tn (rt ?_)))))))))))
 refine vb (b':=false) rfl ?_
 (symm;rw [decide_eq_false_iff_not];rintro ⟨h1,h2,h3⟩;contradiction)
theorem Qdh (n:Nat) (a:D.Puzzle) (f:ByteArray) (hz:QI a≤mx) (hf:f.size≤maxLen):Pure (Qo Tryz.prog (n+43)) 65 [(T.agg (Qv false a)),(tS f)] (tB (decide (QJ a f))):=by
 refine Pure.intro (rs:= [ResultVar.tmp 4]) Tryz.func65 rfl rfl rfl (E0:= [(0,(T.agg (Qv false a))),(1,(tS f))]) rfl ?_
 obtain ⟨hlim,hmx,hmax⟩:=QF
 have hz2:=hz
 simp only [QI,Zp] at hz2
 have hl:=Zf (z:=QO) a.Clues
 have hl2:=Zf (z:=zI) a.Seals
 have hrl:=QdP a.Grid f a.Seals a.Salt
 refine sr (kO (B.box (ts:=(Qv false a)) (tv (T.agg (Qv false a)) rfl) nofun rfl) (fO (OF.assign (VEv.bool false)) (nt (sq (VRun.draw (B:= [[],[0],[0,1],[1,0,2],[2,0,1,3],[1,0,2],[5,3,1,0,2,4],[4,3,5,6,1,0,2],[2,0,1,6,5,3,4,7],[7,4,3,5,6,1,0,2,8],[8,2,0,1,6,5,3,4,7,9],[7,4,3,5,6,1,0,2,8],[7,4,3,5,6,1,0,2,8],[8,2,0,1,6,5,3,4,7,12],[7,4,3,5,6,1,0,2,8],[8,2,0,1,6,5,3,4,7,14],[14,15,12,13,11,9,7,4,3,5,6,1,0,2,8,10],[10,8,2,0,1,6,5,3,4,7,9,11,13,12,15,14,16],[7,4,3,5,6,1,0,2,8],[8,2,0,1,6,5,3,4,7,18],[18,7,4,3,5,6,1,0,2,8,19],[19,18,20,16,14,15,12,13,11,9,7,4,3,5,6,1,0,2,8,10,17],[17,10,9,11,13,12,15,14,16,20,18,19,21,7,4,3,5,6,1,0,2,8],[8,2,0,1,6,5,3,4,7,21,19,18,20,16,14,15,12,13,11,9,10,17,22]]) (by kernel_rfl) (by kernel_rfl) (lD (OL.loadOn (us:=(Qv false a)) (tv (T.op 0 0) rfl) rfl Qge Qdq (lb rfl) rfl) rfl rfl (VRunD.quiet (bi:= [0]) rfl VWant.always rfl rfl rfl bn (cS (vc (tv (T.agg (Qv false a)) rfl) vn) (LendL.cons (lg Yh) ln) (Qdb (n+0) a (by assumption)) rfl rfl) (mD (tB (decide (QbT a))) rfl rfl ?_))))))))
 refine gw (QbT a) (fun fhg7_1=> ?_) fun fhg7_1=> ?_
 ·refine VRunD.free rfl (VWant.on rfl rfl (dy fhg7_1)) rfl (OF.fieldAddrO (tv (T.op 0 0) rfl) YM) ?_
  refine VRunD.look rfl (VWant.on rfl rfl (dy fhg7_1)) rfl (OL.loadOn (us:=(Qb false a.Grid)) (tv (T.op 0 0) rfl) rfl QP QN (lb rfl) rfl) (VRunD.free rfl (VWant.on rfl rfl (dy fhg7_1)) rfl (OF.move (tv (tS f) rfl)) (VRunD.quiet (bi:= [5,3,1,0,2,4]) rfl (VWant.on rfl rfl (dy fhg7_1)) rfl rfl rfl bn (cS (vc (tv (T.agg (Qb false a.Grid)) rfl) (vc (tv (tS f) rfl) vn)) (LendL.cons (lg Qq) (lp rfl ln)) (QeI (n+38) a.Grid f (by omega) (by assumption)) rfl rfl) (fD (OF.pickT (VEv.tmpB rfl (dy fhg7_1)) (tv (tB (decide (JJ a.Grid f))) rfl)) rfl rfl (mD (tB (decide (JJ a.Grid f))) rfl rfl ?_))))
  refine gw (JJ a.Grid f) (fun fhg13_2=> ?_) fun fhg13_2=> ?_
  ·refine VRunD.free rfl (VWant.on rfl rfl (dy fhg13_2)) rfl (OF.fieldAddrO (tv (T.op 0 0) rfl) YM) ?_
   refine VRunD.look rfl (VWant.on rfl rfl (dy fhg13_2)) rfl (OL.loadOn (us:=(Qb false a.Grid)) (tv (T.op 0 0) rfl) rfl QP QN (lb rfl) rfl) (VRunD.free rfl (VWant.on rfl rfl (dy fhg13_2)) rfl (OF.move (tv (tS f) rfl)) (VRunD.free rfl (VWant.on rfl rfl (dy fhg13_2)) rfl (OF.fieldAddrO (tv (T.op 0 0) rfl) Qav) (VRunD.look rfl (VWant.on rfl rfl (dy fhg13_2)) rfl (OL.loadO1 (t:=(rd 1 Qc a.Seals)) (tv (T.op 0 4) rfl) rfl rfl QcI) (VRunD.free rfl (VWant.on rfl rfl (dy fhg13_2)) rfl (OF.fieldAddrO (tv (T.op 0 0) rfl) Qba) (VRunD.look rfl (VWant.on rfl rfl (dy fhg13_2)) rfl (OL.loadO1 (t:=(tI a.Salt)) (tv (T.op 0 5) rfl) rfl rfl QV) (VRunD.quiet (bi:= [14,15,12,13,11,9,7,4,3,5,6,1,0,2,8,10]) rfl (VWant.on rfl rfl (dy fhg13_2)) rfl rfl rfl bn (OC.callF (r':=(T.os 1 1 0 (((Zs a.Grid f a.Seals a.Salt).map (Qc true)).length))) (objs:= [(Obj.rows 1 ((Zs a.Grid f a.Seals a.Salt).map (Qc true)))]) rfl (vc (tv (T.agg (Qb false a.Grid)) rfl) (vc (tv (tS f) rfl) (vc (tv (rd 1 Qc a.Seals) rfl) (vc (tv (tI a.Salt) rfl) vn)))) (LendL.cons (lg Qq) (lp rfl (lp rfl (lp rfl ln)))) (QbP (n+36) a.Grid f a.Seals a.Salt (by omega) (by assumption) (by omega)) rfl) (VRunD.look rfl (VWant.on rfl rfl (dy fhg13_2)) rfl (B.lenO (m:=(Zs a.Grid f a.Seals a.Salt).length) (tv (T.os 1 1 0 (((Zs a.Grid f a.Seals a.Salt).map (Qc true)).length)) rfl) ZL (List.length_map ..)) (VRunD.free rfl (VWant.on rfl rfl (dy fhg13_2)) rfl (OF.fieldAddrO (tv (T.op 0 0) rfl) Qav) (VRunD.look rfl (VWant.on rfl rfl (dy fhg13_2)) rfl (OL.loadO1 (t:=(rd 1 Qc a.Seals)) (tv (T.op 0 4) rfl) rfl rfl QcI) (VRunD.look rfl (VWant.on rfl rfl (dy fhg13_2)) rfl (B.lenR (m:=a.Seals.length) (tv (rd 1 Qc a.Seals) rfl) ZL (List.length_map ..)) (VRunD.free rfl (VWant.on rfl rfl (dy fhg13_2)) rfl (Qif (tv (tN ((Zs a.Grid f a.Seals a.Salt).length)) rfl) (tv (tN a.Seals.length) rfl)) ?_)))))))))))
   refine fD (OF.pickT (VEv.tmpB rfl (dy fhg13_2)) (tv (tB (decide ((Zs a.Grid f a.Seals a.Salt).length=a.Seals.length))) rfl)) rfl rfl (fD (OF.assign (tv (tB (decide ((Zs a.Grid f a.Seals a.Salt).length=a.Seals.length))) rfl)) rfl rfl (VRunD.nil (tn (rt (vb (b':=(decide ((Zs a.Grid f a.Seals a.Salt).length=a.Seals.length))) rfl ?_)))))
   (refine Q4 ⟨fun h=>⟨?_,?_,?_⟩,fun h=> ?_⟩<;>first | assumption | (have h9:=h.1;rw [h.2.2,h9.2.1,h9.2.2.1]) | (have h9:QbT a:=(by assumption);rw [h,h9.2.2.1,h9.2.1]))
  refine oD rfl rfl (dz fhg13_2) rfl (oD rfl rfl (dz fhg13_2) rfl (oD rfl rfl (dz fhg13_2) rfl (oD rfl rfl (dz fhg13_2) rfl (oD rfl rfl (dz fhg13_2) rfl (oD rfl rfl (dz fhg13_2) rfl (oD rfl rfl (dz fhg13_2) rfl (oD rfl rfl (dz fhg13_2) rfl (oD rfl rfl (dz fhg13_2) rfl (oD rfl rfl (dz fhg13_2) rfl (oD rfl rfl (dz fhg13_2) rfl (oD rfl rfl (dz fhg13_2) rfl ?_)))))))))))
  refine oD rfl rfl (dz fhg13_2) rfl (fD (OF.pickF (VEv.tmpB rfl (dz fhg13_2)) (VEv.bool false)) rfl rfl (fD (OF.assign (tv (tB false) rfl)) rfl rfl (VRunD.nil (tn (rt (vb (b':=false) rfl ?_))))))
  (symm;rw [decide_eq_false_iff_not];rintro ⟨h1,h2,h3⟩;contradiction)
 refine oD rfl rfl (dz fhg7_1) rfl (oD rfl rfl (dz fhg7_1) rfl (oD rfl rfl (dz fhg7_1) rfl (oD rfl rfl (dz fhg7_1) rfl (fD (OF.pickF (VEv.tmpB rfl (dz fhg7_1)) (VEv.bool false)) rfl rfl (mD (tB false) rfl rfl (VRunD.off rfl (VWant.not (b:=false) rfl rfl rfl) (VRunD.off rfl (VWant.not (b:=false) rfl rfl rfl) (VRunD.off rfl (VWant.not (b:=false) rfl rfl rfl) (VRunD.off rfl (VWant.not (b:=false) rfl rfl rfl) (VRunD.off rfl (VWant.not (b:=false) rfl rfl rfl) (VRunD.off rfl (VWant.not (b:=false) rfl rfl rfl) ?_)))))))))))
 refine VRunD.off rfl (VWant.not (b:=false) rfl rfl rfl) (VRunD.off rfl (VWant.not (b:=false) rfl rfl rfl) (VRunD.off rfl (VWant.not (b:=false) rfl rfl rfl) (VRunD.off rfl (VWant.not (b:=false) rfl rfl rfl) (VRunD.off rfl (VWant.not (b:=false) rfl rfl rfl) (VRunD.off rfl (VWant.not (b:=false) rfl rfl rfl) (VRunD.off rfl (VWant.not (b:=false) rfl rfl rfl) (fD (OF.pickF (tv (tB false) rfl) (VEv.bool false)) rfl rfl (fD (OF.assign (tv (tB false) rfl)) rfl rfl (VRunD.nil (tn (rt ?_)))))))))))
 refine vb (b':=false) rfl ?_
 (symm;rw [decide_eq_false_iff_not];rintro ⟨h1,h2,h3⟩;contradiction)
noncomputable section
def Yp (x:D.Issue):Prop:=(1≤x.Number∧x.Number≤999)∧QJ x.Puzzle x.Fill∧0≤x.Open∧x.Open<x.Close∧x.Close≤1000
instance (x:D.Issue):Decidable (Yp x):=Classical.propDecidable _
theorem QcM (x:D.Issue):((((1≤x.Number∧x.Number≤999)∧QJ x.Puzzle x.Fill)∧0≤x.Open)∧x.Open<x.Close)∧x.Close≤1000↔Yp x:=by
 unfold Yp
 simp only [and_assoc]
end
theorem QdR (n:Nat) (a:D.Issue) (hz:Zd a≤mx):Pure (Qo Tryz.prog (n+12)) 44 [(T.agg (QE false a))] (tB (decide (Yp a))):=by
 refine Pure.intro (rs:= [ResultVar.tmp 2]) Tryz.func44 rfl rfl rfl (E0:= [(0,(T.agg (QE false a)))]) rfl ?_
 obtain ⟨hlim,hmx,hmax⟩:=QF
 simp only [Zd] at hz
 refine sr (kO (B.box (ts:=(QE false a)) (tv (T.agg (QE false a)) rfl) nofun rfl) (fO (OF.assign (VEv.bool false)) (nt (sr (lf (tI a.Number) rfl QdL rfl rfl QV (cO (cS (vc (tv (tI a.Number) rfl) (vc (VEv.int .i64 1) (vc (VEv.int .i64 999) vn))) (ZQ rfl) (QQ (n+10) a.Number 1 999) rfl rfl) (mO (tB (decide (1≤a.Number∧a.Number≤999))) rfl ?_)))))))
 refine VRunO.joinB 6 [7,8,9,10,11] 12 (tB (decide ((1≤a.Number∧a.Number≤999)∧(QJ a.Puzzle a.Fill)))) ?_ ?_
 ·refine gw (1≤a.Number∧a.Number≤999) (fun fhg6_1=> ?_) fun fhg6_1=> ?_
  ·refine gF (dy fhg6_1) rfl rfl (OF.fieldAddrO (tv (T.op 0 0) rfl) Qa9) ?_
   refine gL (dy fhg6_1) rfl rfl (OL.loadOn (us:=(Qv false a.Puzzle)) (tv (T.op 0 1) rfl) rfl Qge Qdq (lb rfl) rfl) (ZV (tS a.Fill) (dy fhg6_1) rfl rfl rfl rfl Qbm rfl rfl ZN (VRunO.chain (VWant.on rfl rfl (dy fhg6_1)) (cS (vc (tv (T.agg (Qv false a.Puzzle)) rfl) (vc (tv (tS a.Fill) rfl) vn)) (LendL.cons (lg Yh) (lp rfl ln)) (Qc8 (n+0) a.Puzzle a.Fill (by omega) (by omega)) rfl rfl) (fO (OF.pickT (VEv.tmpB rfl (dy fhg6_1)) (tv (tB (decide (QJ a.Puzzle a.Fill))) rfl)) (VRunO.nil ?_))))
   exact jq (congrArg T.bool (kAT fhg6_1 rfl)) (js rfl (js rfl (js rfl (js rfl (js rfl (jn))))))
  ·refine Qx 5 3 true 6 (dz fhg6_1) rfl rfl rfl ?_
   refine fO (OF.pickF (VEv.tmpB rfl (dz fhg6_1)) (VEv.bool false)) (VRunO.nil ?_)
   exact jq (congrArg T.bool (kAF fhg6_1)) (js rfl (js rfl (js rfl (js rfl (js rfl (jn))))))
 refine mO (tB (decide ((1≤a.Number∧a.Number≤999)∧(QJ a.Puzzle a.Fill)))) rfl ?_
 refine VRunO.joinB 4 [14,15,16] 17 (tB (decide (((1≤a.Number∧a.Number≤999)∧(QJ a.Puzzle a.Fill))∧(0≤a.Open)))) ?_ ?_
 ·refine gw ((1≤a.Number∧a.Number≤999)∧(QJ a.Puzzle a.Fill)) (fun fhg13_2=> ?_) fun fhg13_2=> ?_
  ·refine ZV (tI a.Open) (dy fhg13_2) rfl rfl rfl rfl Qbw rfl rfl QV ?_
   refine gF (dy fhg13_2) rfl rfl (xge (tv (tI a.Open) rfl) (VEv.int .i64 0)) (fO (OF.pickT (VEv.tmpB rfl (dy fhg13_2)) (tv (tB (decide (0≤a.Open))) rfl)) (VRunO.nil ?_))
   exact jq (congrArg T.bool (kAT fhg13_2 rfl)) (js rfl (js rfl (js rfl (jn))))
  ·refine Qx 3 10 true 13 (dz fhg13_2) rfl rfl rfl ?_
   refine fO (OF.pickF (VEv.tmpB rfl (dz fhg13_2)) (VEv.bool false)) (VRunO.nil ?_)
   exact jq (congrArg T.bool (kAF fhg13_2)) (js rfl (js rfl (js rfl (jn))))
 refine mO (tB (decide (((1≤a.Number∧a.Number≤999)∧(QJ a.Puzzle a.Fill))∧(0≤a.Open)))) rfl ?_
 refine VRunO.joinB 6 [19,20,21,22,23] 24 (tB (decide ((((1≤a.Number∧a.Number≤999)∧(QJ a.Puzzle a.Fill))∧(0≤a.Open))∧(a.Open<a.Close)))) ?_ ?_
 ·refine gw (((1≤a.Number∧a.Number≤999)∧(QJ a.Puzzle a.Fill))∧(0≤a.Open)) (fun fhg18_3=> ?_) fun fhg18_3=> ?_
  ·refine ZV (tI a.Open) (dy fhg18_3) rfl rfl rfl rfl Qbw rfl rfl QV ?_
   refine ZV (tI a.Close) (dy fhg18_3) rfl rfl rfl rfl Qac rfl rfl QV (gF (dy fhg18_3) rfl rfl (xls (tv (tI a.Open) rfl) (tv (tI a.Close) rfl)) (fO (OF.pickT (VEv.tmpB rfl (dy fhg18_3)) (tv (tB (decide (a.Open<a.Close))) rfl)) (VRunO.nil ?_)))
   exact jq (congrArg T.bool (kAT fhg18_3 rfl)) (js rfl (js rfl (js rfl (js rfl (js rfl (jn))))))
  ·refine Qx 5 15 true 18 (dz fhg18_3) rfl rfl rfl ?_
   refine fO (OF.pickF (VEv.tmpB rfl (dz fhg18_3)) (VEv.bool false)) (VRunO.nil ?_)
   exact jq (congrArg T.bool (kAF fhg18_3)) (js rfl (js rfl (js rfl (js rfl (js rfl (jn))))))
 refine mO (tB (decide ((((1≤a.Number∧a.Number≤999)∧(QJ a.Puzzle a.Fill))∧(0≤a.Open))∧(a.Open<a.Close)))) rfl ?_
 refine VRunO.joinB 4 [26,27,28] 29 (tB (decide (((((1≤a.Number∧a.Number≤999)∧(QJ a.Puzzle a.Fill))∧(0≤a.Open))∧(a.Open<a.Close))∧(a.Close≤1000)))) ?_ ?_
 ·refine gw ((((1≤a.Number∧a.Number≤999)∧(QJ a.Puzzle a.Fill))∧(0≤a.Open))∧(a.Open<a.Close)) (fun fhg25_4=> ?_) fun fhg25_4=> ?_
  ·refine ZV (tI a.Close) (dy fhg25_4) rfl rfl rfl rfl Qac rfl rfl QV ?_
   refine gF (dy fhg25_4) rfl rfl (xle (tv (tI a.Close) rfl) (VEv.int .i64 1000)) (fO (OF.pickT (VEv.tmpB rfl (dy fhg25_4)) (tv (tB (decide (a.Close≤1000))) rfl)) (VRunO.nil ?_))
   exact jq (congrArg T.bool (kAT fhg25_4 rfl)) (js rfl (js rfl (js rfl (jn))))
  ·refine Qx 3 22 true 25 (dz fhg25_4) rfl rfl rfl ?_
   refine fO (OF.pickF (VEv.tmpB rfl (dz fhg25_4)) (VEv.bool false)) (VRunO.nil ?_)
   exact jq (congrArg T.bool (kAF fhg25_4)) (js rfl (js rfl (js rfl (jn))))
 refine aO (tB (decide (((((1≤a.Number∧a.Number≤999)∧(QJ a.Puzzle a.Fill))∧(0≤a.Open))∧(a.Open<a.Close))∧(a.Close≤1000)))) rfl (nt (rt (vb (b':=(decide (((((1≤a.Number∧a.Number≤999)∧(QJ a.Puzzle a.Fill))∧(0≤a.Open))∧(a.Open<a.Close))∧(a.Close≤1000)))) rfl ?_)))
 exact Q4 (QcM a)
theorem Qd5 (n:Nat) (a:D.Issue) (hz:Zd a≤mx):Pure (Qo Tryz.prog (n+44)) 45 [(T.agg (QE false a))] (tB (decide (Yp a))):=by
 refine Pure.intro (rs:= [ResultVar.tmp 2]) Tryz.func45 rfl rfl rfl (E0:= [(0,(T.agg (QE false a)))]) rfl ?_
 obtain ⟨hlim,hmx,hmax⟩:=QF
 simp only [Zd] at hz
 refine sr (kO (B.box (ts:=(QE false a)) (tv (T.agg (QE false a)) rfl) nofun rfl) (fO (OF.assign (VEv.bool false)) (nt (sr (lf (tI a.Number) rfl QdL rfl rfl QV (cO (cS (vc (tv (tI a.Number) rfl) (vc (VEv.int .i64 1) (vc (VEv.int .i64 999) vn))) (ZQ rfl) (Q9 (n+42) a.Number 1 999) rfl rfl) (mO (tB (decide (1≤a.Number∧a.Number≤999))) rfl ?_)))))))
 refine VRunO.joinB 6 [7,8,9,10,11] 12 (tB (decide ((1≤a.Number∧a.Number≤999)∧(QJ a.Puzzle a.Fill)))) ?_ ?_
 ·refine gw (1≤a.Number∧a.Number≤999) (fun fhg6_1=> ?_) fun fhg6_1=> ?_
  ·refine gF (dy fhg6_1) rfl rfl (OF.fieldAddrO (tv (T.op 0 0) rfl) Qa9) ?_
   refine gL (dy fhg6_1) rfl rfl (OL.loadOn (us:=(Qv false a.Puzzle)) (tv (T.op 0 1) rfl) rfl Qge Qdq (lb rfl) rfl) (ZV (tS a.Fill) (dy fhg6_1) rfl rfl rfl rfl Qbm rfl rfl ZN (VRunO.chain (VWant.on rfl rfl (dy fhg6_1)) (cS (vc (tv (T.agg (Qv false a.Puzzle)) rfl) (vc (tv (tS a.Fill) rfl) vn)) (LendL.cons (lg Yh) (lp rfl ln)) (Qdh (n+0) a.Puzzle a.Fill (by omega) (by omega)) rfl rfl) (fO (OF.pickT (VEv.tmpB rfl (dy fhg6_1)) (tv (tB (decide (QJ a.Puzzle a.Fill))) rfl)) (VRunO.nil ?_))))
   exact jq (congrArg T.bool (kAT fhg6_1 rfl)) (js rfl (js rfl (js rfl (js rfl (js rfl (jn))))))
  ·refine Qx 5 3 true 6 (dz fhg6_1) rfl rfl rfl ?_
   refine fO (OF.pickF (VEv.tmpB rfl (dz fhg6_1)) (VEv.bool false)) (VRunO.nil ?_)
   exact jq (congrArg T.bool (kAF fhg6_1)) (js rfl (js rfl (js rfl (js rfl (js rfl (jn))))))
 refine mO (tB (decide ((1≤a.Number∧a.Number≤999)∧(QJ a.Puzzle a.Fill)))) rfl ?_
 refine VRunO.joinB 4 [14,15,16] 17 (tB (decide (((1≤a.Number∧a.Number≤999)∧(QJ a.Puzzle a.Fill))∧(0≤a.Open)))) ?_ ?_
 ·refine gw ((1≤a.Number∧a.Number≤999)∧(QJ a.Puzzle a.Fill)) (fun fhg13_2=> ?_) fun fhg13_2=> ?_
  ·refine ZV (tI a.Open) (dy fhg13_2) rfl rfl rfl rfl Qbw rfl rfl QV ?_
   refine gF (dy fhg13_2) rfl rfl (xge (tv (tI a.Open) rfl) (VEv.int .i64 0)) (fO (OF.pickT (VEv.tmpB rfl (dy fhg13_2)) (tv (tB (decide (0≤a.Open))) rfl)) (VRunO.nil ?_))
   exact jq (congrArg T.bool (kAT fhg13_2 rfl)) (js rfl (js rfl (js rfl (jn))))
  ·refine Qx 3 10 true 13 (dz fhg13_2) rfl rfl rfl ?_
   refine fO (OF.pickF (VEv.tmpB rfl (dz fhg13_2)) (VEv.bool false)) (VRunO.nil ?_)
   exact jq (congrArg T.bool (kAF fhg13_2)) (js rfl (js rfl (js rfl (jn))))
 refine mO (tB (decide (((1≤a.Number∧a.Number≤999)∧(QJ a.Puzzle a.Fill))∧(0≤a.Open)))) rfl ?_
 refine VRunO.joinB 6 [19,20,21,22,23] 24 (tB (decide ((((1≤a.Number∧a.Number≤999)∧(QJ a.Puzzle a.Fill))∧(0≤a.Open))∧(a.Open<a.Close)))) ?_ ?_
 ·refine gw (((1≤a.Number∧a.Number≤999)∧(QJ a.Puzzle a.Fill))∧(0≤a.Open)) (fun fhg18_3=> ?_) fun fhg18_3=> ?_
  ·refine ZV (tI a.Open) (dy fhg18_3) rfl rfl rfl rfl Qbw rfl rfl QV ?_
   refine ZV (tI a.Close) (dy fhg18_3) rfl rfl rfl rfl Qac rfl rfl QV (gF (dy fhg18_3) rfl rfl (xls (tv (tI a.Open) rfl) (tv (tI a.Close) rfl)) (fO (OF.pickT (VEv.tmpB rfl (dy fhg18_3)) (tv (tB (decide (a.Open<a.Close))) rfl)) (VRunO.nil ?_)))
   exact jq (congrArg T.bool (kAT fhg18_3 rfl)) (js rfl (js rfl (js rfl (js rfl (js rfl (jn))))))
  ·refine Qx 5 15 true 18 (dz fhg18_3) rfl rfl rfl ?_
   refine fO (OF.pickF (VEv.tmpB rfl (dz fhg18_3)) (VEv.bool false)) (VRunO.nil ?_)
   exact jq (congrArg T.bool (kAF fhg18_3)) (js rfl (js rfl (js rfl (js rfl (js rfl (jn))))))
 refine mO (tB (decide ((((1≤a.Number∧a.Number≤999)∧(QJ a.Puzzle a.Fill))∧(0≤a.Open))∧(a.Open<a.Close)))) rfl ?_
 refine VRunO.joinB 4 [26,27,28] 29 (tB (decide (((((1≤a.Number∧a.Number≤999)∧(QJ a.Puzzle a.Fill))∧(0≤a.Open))∧(a.Open<a.Close))∧(a.Close≤1000)))) ?_ ?_
 ·refine gw ((((1≤a.Number∧a.Number≤999)∧(QJ a.Puzzle a.Fill))∧(0≤a.Open))∧(a.Open<a.Close)) (fun fhg25_4=> ?_) fun fhg25_4=> ?_
  ·refine ZV (tI a.Close) (dy fhg25_4) rfl rfl rfl rfl Qac rfl rfl QV ?_
   refine gF (dy fhg25_4) rfl rfl (xle (tv (tI a.Close) rfl) (VEv.int .i64 1000)) (fO (OF.pickT (VEv.tmpB rfl (dy fhg25_4)) (tv (tB (decide (a.Close≤1000))) rfl)) (VRunO.nil ?_))
   exact jq (congrArg T.bool (kAT fhg25_4 rfl)) (js rfl (js rfl (js rfl (jn))))
  ·refine Qx 3 22 true 25 (dz fhg25_4) rfl rfl rfl ?_
   refine fO (OF.pickF (VEv.tmpB rfl (dz fhg25_4)) (VEv.bool false)) (VRunO.nil ?_)
   exact jq (congrArg T.bool (kAF fhg25_4)) (js rfl (js rfl (js rfl (jn))))
 refine aO (tB (decide (((((1≤a.Number∧a.Number≤999)∧(QJ a.Puzzle a.Fill))∧(0≤a.Open))∧(a.Open<a.Close))∧(a.Close≤1000)))) rfl (nt (rt (vb (b':=(decide (((((1≤a.Number∧a.Number≤999)∧(QJ a.Puzzle a.Fill))∧(0≤a.Open))∧(a.Open<a.Close))∧(a.Close≤1000)))) rfl ?_)))
 exact Q4 (QcM a)
end Go.Proofs.YthifchndolccgaaGreatDoor.AE
namespace Go.Proofs.YthifchndolccgaaGreatDoor.AE
open Go Go.RowKit
set_option linter.unusedVariables false
set_option linter.unusedSimpArgs false
set_option maxRecDepth 20000
set_option maxHeartbeats 2000000
noncomputable section
theorem Qf0 : ∀(s:List UInt8),(Lib.index s [46]= -1∧∀b∈s,b≠46)∨∃i:Nat,Lib.index s [46]=i∧i<s.length∧(∀b∈s.take i,b≠46)∧s[i]? =some 46
 | []=> .inl ⟨rfl,fun b hb=>by cases hb⟩
 | b::l=>by
  by_cases hb:b=46
  ·subst hb
   exact .inr ⟨0,by simp [Lib.index],by simp,fun b hb=>by simp at hb,by simp⟩
  ·have hp:([46]:List UInt8).isPrefixOf (b::l)=false:=by
    simp [List.isPrefixOf]
    exact fun e=>hb e.symm
   rcases Qf0 l with ⟨h1,h2⟩ | ⟨i,h1,h2,h3,h4⟩
   ·refine .inl ⟨?_,fun c hc=> ?_⟩
    ·unfold Lib.index
     rw [hp,h1]
     rfl
    ·rcases List.mem_cons.1 hc with rfl | hc
     ·exact hb
     ·exact h2 c hc
   ·refine .inr ⟨i+1,?_,by simp only [List.length_cons];omega,fun c hc=> ?_,by simpa using h4⟩
    ·unfold Lib.index
     rw [hp,h1]
     have:((i:Int) == -1)=false:=by rw [beq_eq_false_iff_ne];omega
     simp only [this]
     simp
    ·rw [List.take_succ_cons] at hc
     rcases List.mem_cons.1 hc with rfl | hc
     ·exact hb
     ·exact h3 c hc
def swB (b:UInt8):UInt8:=if b=46 then 63 else b
theorem Qky {l:List UInt8} (h:∀b∈l,b≠46):l.map swB=l:=by
 induction l with
 | nil=>rfl
 | cons b r ih =>
  rw [List.map_cons,ih (fun c hc=>h c (by simp [hc]))]
  unfold swB
  rw [if_neg (h b (by simp))]
theorem QgC : ∀(n:Nat) (s:List UInt8),s.length≤n→Lib.replaceK [46] [63] (Lib.count s [46]) s=s.map swB
 | n,s,hn=>by
  rcases Qf0 s with ⟨h1,h2⟩ | ⟨i,h1,h2,h3,h4⟩
  ·rw [Lib.count_miss h1,Qky h2]
   rfl
  ·match n,hn with
   | 0,hn=>omega
   | n+1,hn =>
    rw [Lib.count_hit (by simp) h1,Nat.add_comm 1,Lib.replaceK_hit _ _ _ _ _ h1]
    have ih:=QgC n (s.drop (i+([46]:List UInt8).length)) (by simp;omega)
    rw [ih]
    have h5:s=s.take i++46::s.drop (i+1):=by
     have h6:=List.drop_eq_getElem_cons h2
     rw [List.getElem?_eq_getElem h2] at h4
     rw [Option.some.inj h4] at h6
     rw [← h6,List.take_append_drop]
    show s.take i++ [63]++(s.drop (i+1)).map swB=s.map swB
    conv=>rhs;rw [h5]
    rw [List.map_append,Qky h3,List.map_cons]
    simp [swB]
def QbS (s o w:ByteArray):ByteArray:=⟨(Lib.replaceAll s.data.toList o.data.toList w.data.toList).toArray⟩
theorem Qit (s:ByteArray):QbS s ⟨#[46]⟩ ⟨#[63]⟩=⟨(s.data.toList.map swB).toArray⟩:=by
 unfold QbS Lib.replaceAll Lib.replace
 rw [if_neg (by decide)]
 have:Lib.replaceNum s.data.toList [46] (-1)=Lib.count s.data.toList [46]:=by unfold Lib.replaceNum;rw [if_pos (.inl (by decide))]
 show (⟨(Lib.replaceK [46] [63] (Lib.replaceNum s.data.toList [46] (-1)) s.data.toList).toArray⟩:ByteArray)=_
 rw [this,QgC _ _ (Nat.le_refl _)]
theorem R.strInv2 {h:AH} {s:ByteArray} {v:Value} (hr:R h (.str s) v):v= .string s:=by cases hr;rfl
theorem Qi6 {P:Program} {f:FuncId} (n:Nat) (hp:Qar f=false) (hq:Qjt f=QaF) {s o w:ByteArray} (h1:s.size<4294967281) (h2:1≤o.size) (h3:s.size+Lib.countB s o*w.size≤140737488355328):Pure (Qo P (n+1)) f [.str s, .str o, .str w] (.str (QbS s o w)):=by
 intro h p vs hfr hvs
 match vs,hvs with
 | [],hvs=>exact absurd hvs.1 (by simp)
 | [_],hvs=>exact absurd hvs.1 (by simp)
 | [_,_],hvs=>exact absurd hvs.1 (by simp)
 | [a,b,c],hvs =>
  obtain ⟨g1,hvs⟩:=hvs.tail
  obtain ⟨g2,hvs⟩:=hvs.tail
  obtain ⟨g3,hvs⟩:=hvs.tail
  obtain rfl:=R.strInv2 g1
  obtain rfl:=R.strInv2 g2
  obtain rfl:=R.strInv2 g3
  unfold CallS
  refine ⟨.string (QbS s o w),h,?_,fun _ h=> .inl h,fun _ _=>rfl,[], .fz (.str _),by simp,by simp⟩
  rw [Qo,if_neg (by rw [hp];simp),hq]
  unfold QaF
  simp only
  rw [if_pos ⟨h1,h2,h3⟩]
  rfl
 | _::_::_::_::_,hvs=>exact absurd hvs.1 (by simp)
def Ym (s:ByteArray):Nat→ByteArray
 | 0=>⟨#[]⟩
 | i+1=>Ym s i++(if Qr s i=35 then ⟨#[35]⟩ else ⟨#[63]⟩)
theorem Qcl (s:ByteArray):∀i,(Ym s i).size=i
 | 0=>rfl
 | i+1=>by
  rw [Ym,ByteArray.size_append,Qcl s i]
  split<;>rfl
theorem Qe9 (s:ByteArray) (hs:∀j,j<s.size→Qr s j=46∨Qr s j=35):∀i,i≤s.size→(Ym s i).data.toList=(s.data.toList.take i).map swB
 | 0,_=>rfl
 | i+1,hi=>by
  have ih:=Qe9 s hs i (by omega)
  have hlt:i<s.data.toList.length:=by
   rw [Array.length_toList]
   exact hi
  rw [List.take_succ_eq_append_getElem hlt,List.map_append,← ih,Ym]
  have hb:=Yd (s:=s) (i:=i) (by omega)
  have hv:s.data.toList[i]=s[i]'(by omega):=rfl
  rw [hv]
  have h35:∀(b:UInt8) (n:Nat),((b.toNat:Nat):Int)=n→n<256→b=UInt8.ofNat n:=fun b n e hn=>by
   have:b.toNat=n:=by omega
   rw [← this];simp
  rcases hs i (by omega) with h | h
  ·rw [h] at hb
   have:=h35 _ 46 hb (by decide)
   rw [if_neg (by omega),this]
   simp only [ByteArray.data_append,Array.toList_append]
   rfl
  ·rw [h] at hb
   have:=h35 _ 35 hb (by decide)
   rw [if_pos h,this]
   simp only [ByteArray.data_append,Array.toList_append]
   rfl
def QaW (g:D.Grid):ByteArray:=if gridOk g then Ym g.Cells g.Cells.size else ⟨#[]⟩
theorem Qiv (g:D.Grid):(QaW g).size≤g.Cells.size:=by
 unfold QaW
 split
 ·rw [Qcl];exact Nat.le_refl _
 ·exact Nat.zero_le _
theorem Qis {g:D.Grid} (h:gridOk g):QbS g.Cells ⟨#[46]⟩ ⟨#[63]⟩=QaW g:=by
 have h1:=Qe9 g.Cells (fun j hj=>(h.2.2.2 j hj).symm) g.Cells.size (Nat.le_refl _)
 rw [Qit,QaW,if_pos h]
 refine Qcz ?_
 rw [h1,List.take_of_length_le (by simp)]
theorem Qj5 {g:D.Grid} {i:Nat} (h1:i≤g.Cells.size) (h2:i=0∨gridOk g) (h3:¬(i<g.Cells.size∧gridOk g)):Ym g.Cells i=QaW g:=by
 by_cases hg:gridOk g
 ·have h4:i=g.Cells.size:=by
   rcases Nat.lt_or_ge i g.Cells.size with h | h
   ·exact absurd ⟨h,hg⟩ h3
   ·omega
  rw [QaW,if_pos hg,h4]
 ·obtain rfl:=h2.resolve_right hg
  rw [QaW,if_neg hg]
  rfl
theorem Qib (s o:ByteArray) (h:1≤o.size):Lib.countB s o≤s.size:=by
 have h1:=Lib.countB_mul_le o h s.size s (Nat.le_refl _)
 have h2:Lib.countB s o*1≤Lib.countB s o*o.size:=Nat.mul_le_mul_left _ h
 omega
end
theorem Qau (n:Nat) (s:ByteArray) (o:ByteArray) (w:ByteArray) (hs:s.size≤mx+64) (ho:1≤o.size) (hw:w.size≤1):Pure (Qo Tryz.prog (n+1)) 61 [(tS s),(tS o),(tS w)] (tS (QbS s o w)):=by
 obtain ⟨hlim,hmx,hmax⟩:=QF
 have h1:=Qib s o ho
 have h2:Lib.countB s o*w.size≤Lib.countB s o*1:=Nat.mul_le_mul_left _ hw
 exact Qi6 n rfl rfl (by omega) ho (by omega)
theorem Qch (n:Nat) (g:D.Grid) (hc:g.Cells.size≤maxLen - 1):Pure (Qo Tryz.prog (n+3)) 31 [(T.agg (Qb false g))] (tS (QaW g)):=by
 refine Pure.intro (rs:= [ResultVar.tmp 2]) Tryz.func31 rfl rfl rfl (E0:= [(0,(T.agg (Qb false g)))]) rfl ?_
 obtain ⟨hlim,hmx,hmax⟩:=QF
 have e35:(⟨#[35]⟩:ByteArray).size=1:=rfl
 have e63:(⟨#[63]⟩:ByteArray).size=1:=rfl
 refine sr (kO (B.box (ts:=(Qb false g)) (tv (T.agg (Qb false g)) rfl) nofun rfl) (fO (OF.assign (VEv.str (⟨#[]⟩:ByteArray))) (nt (sr (fO (OF.assign (VEv.str (⟨#[]⟩:ByteArray))) (nt (sq (sr (fO (OF.assign (VEv.int .i64 0)) (nt (VRun.block ?_)))))))))))
 refine VRun.loop (A:=Nat) (fun s_=> [(1,(T.op 0 0)),(2,(tS (⟨#[]⟩:ByteArray))),(3,(tS (Ym g.Cells s_))),(4,(tN s_))]) (fun s_=>Q0 [(0,(Obj.cells (Qb false g)))]) 1 (fun s_=>s_≤g.Cells.size∧(s_=0∨gridOk g)) (fun s_=>g.Cells.size - s_) (0:Nat) ?_ (Wk.mk (fun k=>k) ?_ ?_ ?_) ?_
 ·exact ⟨Nat.zero_le _, .inl rfl⟩
 ·exact (b2 (b2 (bc ⟨(congrArg T.str (show (⟨#[]⟩:ByteArray)=Ym g.Cells 0 from (by first | rfl | assumption | rfl | (rw [Ym,if_pos (by assumption)];done) | (rw [Ym,if_neg (by assumption)];done) | (simp_all;done)))),rfl⟩ (b2 bn))))
 ·exact (b3 bn)
 ·exact nd rfl
 rintro i (hI':i≤g.Cells.size∧(i=0∨gridOk g))
 show VRun _ _ _ [(1,(T.op 0 0)),(2,(tS (⟨#[]⟩:ByteArray))),(3,(tS (Ym g.Cells i))),(4,(tN i))] (Q0 [(0,(Obj.cells (Qb false g)))]) 1 _
 have hI1:=hI'.1
 have hes:=Qcl g.Cells i
 refine sq (sr (mO (tN i) rfl (lf (tS g.Cells) rfl Qy rfl rfl ZN (lO (B.lenS (tv (tS g.Cells) rfl) U9) (fO (Ze (tv (tN i) rfl) (tv (tN g.Cells.size) rfl)) (mO (tB (decide (i<g.Cells.size))) rfl ?_))))))
 refine VRunO.joinB 3 [11,12] 13 (tB (decide ((i<g.Cells.size)∧(gridOk g)))) ?_ ?_
 ·refine gw (i<g.Cells.size) (fun fhg10_1=> ?_) fun fhg10_1=> ?_
  ·refine gL (dy fhg10_1) rfl rfl (OL.loadOn (us:=(Qb false g)) (tv (T.op 0 0) rfl) rfl QP QN (lb rfl) rfl) ?_
   refine VRunO.chain (VWant.on rfl rfl (dy fhg10_1)) (cS (vc (tv (T.agg (Qb false g)) rfl) vn) (LendL.cons (lg Qq) ln) (Zt (n+0) g (by first | assumption | omega)) rfl rfl) (fO (OF.pickT (VEv.tmpB rfl (dy fhg10_1)) (tv (tB (decide (gridOk g))) rfl)) (VRunO.nil ?_))
   exact jq (congrArg T.bool (kAT fhg10_1 rfl)) (js rfl (js rfl (jn)))
  ·refine Qx 2 5 true 10 (dz fhg10_1) rfl rfl rfl ?_
   refine fO (OF.pickF (VEv.tmpB rfl (dz fhg10_1)) (VEv.bool false)) (VRunO.nil ?_)
   exact jq (congrArg T.bool (kAF fhg10_1)) (js rfl (js rfl (jn)))
 refine nt ?_
 refine cd ((i<g.Cells.size)∧(gridOk g)) rfl (fun fhc0=> ?_) fun fhc0=> ?_
 ·refine sk ?_
  refine tn (sq (VRun.block (sr (lf (tS g.Cells) rfl Qy rfl rfl ZN (mO (tN i) rfl ?_)))))
  have hb2:i<g.Cells.size:=(by omega)
  refine fO (Js (tv (tS g.Cells) rfl) (tv (tN i) rfl) hb2 U9) (fO (YF (tv (T.int .u8 (Qr g.Cells i)) rfl) (VEv.int .u8 35)) (nt ?_))
  refine cd (Qr g.Cells i=35) rfl (fun fhc1=> ?_) fun fhc1=> ?_
  ·refine VRun.region ?_
   refine mO (tS (Ym g.Cells i)) rfl (fO (B.sadd (tv (tS (Ym g.Cells i)) rfl) (VEv.str (⟨#[35]⟩:ByteArray)) (by first | omega | (simp only [List.length_map];omega) | (simp only [List.length_map,List.length_append,List.length_cons,List.length_nil,List.length_replicate,List.length_set,List.length_drop,List.length_take,YD] at *;omega))) (aO (tS (Ym g.Cells i++(⟨#[35]⟩:ByteArray))) rfl (VRunO.nil (vinB.n (tn (VRun.region (mO (tN i) rfl (fO (QA (tv (tN i) rfl) (VEv.int .i64 1) (by omega)) (aO (tN (i+1)) rfl (VRunO.nil (tn ?_)))))))))))
   refine ⟨(i+1:Nat),?_,?_,Wk.mk (fun k=>k) ?_ ?_ ?_⟩
   ·exact ⟨fhc0.1, .inr fhc0.2⟩
   ·first | omega | (simp only [];omega) | (show _<_;omega) | (simp;omega)
   ·exact (b2 (b2 (bc ⟨(congrArg T.str (show (Ym g.Cells i++(⟨#[35]⟩:ByteArray))=Ym g.Cells (i+1) from (by first | rfl | assumption | rfl | (rw [Ym,if_pos (by assumption)];done) | (rw [Ym,if_neg (by assumption)];done) | (simp_all;done)))),rfl⟩ (b2 bn))))
   ·exact (b3 bn)
   ·exact nd rfl
  refine VRun.region (mO (tS (Ym g.Cells i)) rfl (fO (B.sadd (tv (tS (Ym g.Cells i)) rfl) (VEv.str (⟨#[63]⟩:ByteArray)) (by first | omega | (simp only [List.length_map];omega) | (simp only [List.length_map,List.length_append,List.length_cons,List.length_nil,List.length_replicate,List.length_set,List.length_drop,List.length_take,YD] at *;omega))) (aO (tS (Ym g.Cells i++(⟨#[63]⟩:ByteArray))) rfl (VRunO.nil (vinB.n (tn (VRun.region (mO (tN i) rfl (fO (QA (tv (tN i) rfl) (VEv.int .i64 1) (by omega)) (aO (tN (i+1)) rfl (VRunO.nil ?_)))))))))))
  refine tn ?_
  refine ⟨(i+1:Nat),?_,?_,Wk.mk (fun k=>k) ?_ ?_ ?_⟩
  ·exact ⟨fhc0.1, .inr fhc0.2⟩
  ·first | omega | (simp only [];omega) | (show _<_;omega) | (simp;omega)
  ·exact (b2 (b2 (bc ⟨(congrArg T.str (show (Ym g.Cells i++(⟨#[63]⟩:ByteArray))=Ym g.Cells (i+1) from (by first | rfl | assumption | rfl | (rw [Ym,if_pos (by assumption)];done) | (rw [Ym,if_neg (by assumption)];done) | (simp_all;done)))),rfl⟩ (b2 bn))))
  ·exact (b3 bn)
  ·exact nd rfl
 refine VRun.exit (vthn.e (vthn.e (vinB.e (tn (sr (mO (tS (Ym g.Cells i)) rfl (aO (tS (Ym g.Cells i)) rfl (nt (rt ?_)))))))))
 refine vfin.eq (r':=(tS (Ym g.Cells i))) ?_ (vfin.r (VRes.tmp (t:=(tS (Ym g.Cells i))) rfl VRes.nil) (Give.str _))
 refine congrArg T.str ?_
 exact Qj5 hI'.1 hI'.2 fhc0
theorem Qck (n:Nat) (g:D.Grid) (hc:g.Cells.size≤mx):Pure (Qo Tryz.prog (n+3)) 37 [(T.agg (Qb false g))] (tS (QaW g)):=by
 refine Pure.intro (rs:= [ResultVar.tmp 2]) Tryz.func37 rfl rfl rfl (E0:= [(0,(T.agg (Qb false g)))]) rfl ?_
 obtain ⟨hlim,hmx,hmax⟩:=QF
 refine sr (kO (B.box (ts:=(Qb false g)) (tv (T.agg (Qb false g)) rfl) nofun rfl) (fO (OF.assign (VEv.str (⟨#[]⟩:ByteArray))) (nt (sq (sr (lO (OL.loadOn (us:=(Qb false g)) (tv (T.op 0 0) rfl) rfl QP QN (lb rfl) rfl) (cO (cS (vc (tv (T.agg (Qb false g)) rfl) vn) (LendL.cons (lg Qq) ln) (ZD (n+0) g (by first | decide | assumption | omega)) rfl rfl) (fO (QY (tv (tB (decide (gridOk g))) rfl)) (nt ?_)))))))))
 refine cn (gridOk g) rfl (fun fhc0=> ?_) fun fhc0=> ?_
 ·refine sr ?_
  refine fO (OF.assign (VEv.str (⟨#[]⟩:ByteArray))) (nt (rt (tr ?_)))
  refine vfin.eq (r':=(tS (⟨#[]⟩:ByteArray))) ?_ (vfin.r (VRes.tmp (t:=(tS (⟨#[]⟩:ByteArray))) rfl VRes.nil) (Give.str _))
  refine congrArg T.str ?_
  exact (if_neg fhc0).symm
 refine sk (tn (sr (lf (tS g.Cells) rfl Qy rfl rfl ZN (cO (cS (vc (tv (tS g.Cells) rfl) (vc (VEv.str (⟨#[46]⟩:ByteArray)) (vc (VEv.str (⟨#[63]⟩:ByteArray)) vn))) (ZQ rfl) (Qau (n+1) g.Cells (⟨#[46]⟩:ByteArray) (⟨#[63]⟩:ByteArray) (by first | decide | assumption | omega) (by first | decide | assumption | omega) (by first | decide | assumption | omega)) rfl rfl) (aO (tS (QbS g.Cells (⟨#[46]⟩:ByteArray) (⟨#[63]⟩:ByteArray))) rfl (nt (rt ?_)))))))
 refine vfin.eq (r':=(tS (QbS g.Cells (⟨#[46]⟩:ByteArray) (⟨#[63]⟩:ByteArray)))) ?_ (vfin.r (VRes.tmp (t:=(tS (QbS g.Cells (⟨#[46]⟩:ByteArray) (⟨#[63]⟩:ByteArray)))) rfl VRes.nil) (Give.str _))
 refine congrArg T.str ?_
 exact Qis (by assumption)
end Go.Proofs.YthifchndolccgaaGreatDoor.AE
namespace Go.Proofs.YthifchndolccgaaGreatDoor.AE
open Go Go.RowKit
set_option linter.unusedVariables false
set_option linter.unusedSimpArgs false
set_option maxRecDepth 20000
set_option maxHeartbeats 2000000
noncomputable section
def Yi (a:D.Issue) (tk:Int):ByteArray:=if Yp a then (if a.Close≤tk then a.Fill else QaW a.Puzzle.Grid) else ⟨#[]⟩
theorem QgT (a:D.Issue) (tk:Int):(Yi a tk).size≤Zd a:=by
 have:=Qiv a.Puzzle.Grid
 unfold Yi
 simp only [Zd,QI,Zp]
 split
 ·split<;>omega
 ·exact Nat.zero_le _
end
theorem QbC (n:Nat) (a:D.Issue) (tk:Int) (hz:Zd a≤mx):Pure (Qo Tryz.prog (n+13)) 16 [(T.agg (QE false a)),(tI tk)] (tS (Yi a tk)):=by
 refine Pure.intro (rs:= [ResultVar.tmp 4]) Tryz.func16 rfl rfl rfl (E0:= [(0,(T.agg (QE false a))),(1,(tI tk))]) rfl ?_
 obtain ⟨hlim,hmx,hmax⟩:=QF
 have hz2:=hz
 simp only [Zd,QI,Zp] at hz2
 refine sr (kO (B.box (ts:=(QE false a)) (tv (T.agg (QE false a)) rfl) nofun rfl) (fO (OF.assign (VEv.str (⟨#[]⟩:ByteArray))) (nt (sq (sr (lO (OL.loadOn (us:=(QE false a)) (tv (T.op 0 0) rfl) rfl Qiu QgP (lb rfl) rfl) (cO (cS (vc (tv (T.agg (QE false a)) rfl) vn) (LendL.cons (lg J3) ln) (QdR (n+0) a (by first | assumption | omega)) rfl rfl) (fO (QY (tv (tB (decide (Yp a))) rfl)) (nt ?_)))))))))
 refine cn (Yp a) rfl (fun fhc0=> ?_) fun fhc0=> ?_
 ·refine sr ?_
  refine fO (OF.assign (VEv.str (⟨#[]⟩:ByteArray))) (nt (rt (tr ?_)))
  refine vfin.eq (r':=(tS (⟨#[]⟩:ByteArray))) ?_ (vfin.r (VRes.tmp (t:=(tS (⟨#[]⟩:ByteArray))) rfl VRes.nil) (Give.str _))
  refine congrArg T.str ?_
  unfold Yi;rw [if_neg (by assumption)]
 refine sk (tn (sq (sr (mO (tI tk) rfl (lf (tI a.Close) rfl Qac rfl rfl QV (fO (xge (tv (tI tk) rfl) (tv (tI a.Close) rfl)) (nt ?_)))))))
 refine cd (a.Close≤tk) rfl (fun fhc1=> ?_) fun fhc1=> ?_
 ·refine sr ?_
  refine lf (tS a.Fill) rfl Qbm rfl rfl ZN (aO (tS a.Fill) rfl (nt (rt (tr ?_))))
  refine vfin.eq (r':=(tS a.Fill)) ?_ (vfin.r (VRes.tmp (t:=(tS a.Fill)) rfl VRes.nil) (Give.str _))
  refine congrArg T.str ?_
  unfold Yi;rw [if_pos (by assumption),if_pos (by assumption)]
 refine sk (tn (sr (fO (OF.fieldAddrO (tv (T.op 0 0) rfl) Qa9) (fO (OF.fieldAddrO (tv (T.op 0 1) rfl) YM) (lO (OL.loadOn (us:=(Qb false a.Puzzle.Grid)) (tv (T.op 0 1) rfl) rfl QP QN (lb rfl) rfl) (cO (cS (vc (tv (T.agg (Qb false a.Puzzle.Grid)) rfl) vn) (LendL.cons (lg Qq) ln) (Qch (n+9) a.Puzzle.Grid (by first | assumption | omega)) rfl rfl) (aO (tS (QaW a.Puzzle.Grid)) rfl (nt (rt ?_)))))))))
 refine vfin.eq (r':=(tS (QaW a.Puzzle.Grid))) ?_ (vfin.r (VRes.tmp (t:=(tS (QaW a.Puzzle.Grid))) rfl VRes.nil) (Give.str _))
 refine congrArg T.str ?_
 unfold Yi;rw [if_pos (by assumption),if_neg (by assumption)]
theorem Qb0 (n:Nat) (a:D.Issue) (tk:Int) (hz:Zd a≤mx):Pure (Qo Tryz.prog (n+45)) 18 [(T.agg (QE false a)),(tI tk)] (tS (Yi a tk)):=by
 refine Pure.intro (rs:= [ResultVar.tmp 4]) Tryz.func18 rfl rfl rfl (E0:= [(0,(T.agg (QE false a))),(1,(tI tk))]) rfl ?_
 obtain ⟨hlim,hmx,hmax⟩:=QF
 have hz2:=hz
 simp only [Zd,QI,Zp] at hz2
 refine sr (kO (B.box (ts:=(QE false a)) (tv (T.agg (QE false a)) rfl) nofun rfl) (fO (OF.assign (VEv.str (⟨#[]⟩:ByteArray))) (nt (sq (VRun.block (sr (lO (OL.loadOn (us:=(QE false a)) (tv (T.op 0 0) rfl) rfl Qiu QgP (lb rfl) rfl) (cO (cS (vc (tv (T.agg (QE false a)) rfl) vn) (LendL.cons (lg J3) ln) (Qd5 (n+0) a (by first | assumption | omega)) rfl rfl) (fO (QY (tv (tB (decide (Yp a))) rfl)) (aO (tB (!(decide (Yp a)))) rfl (nt ?_)))))))))))
 refine cn (Yp a) rfl (fun fhc0=> ?_) fun fhc0=> ?_
 ·refine sr ?_
  refine fO (OF.assign (VEv.str (⟨#[]⟩:ByteArray))) (nt (rt (vinB.r (tr ?_))))
  refine vfin.eq (r':=(tS (⟨#[]⟩:ByteArray))) ?_ (vfin.r (VRes.tmp (t:=(tS (⟨#[]⟩:ByteArray))) rfl VRes.nil) (Give.str _))
  refine congrArg T.str ?_
  unfold Yi;rw [if_neg (by assumption)]
 refine sr (mO (tI tk) rfl (lf (tI a.Close) rfl Qac rfl rfl QV (fO (xge (tv (tI tk) rfl) (tv (tI a.Close) rfl)) (aO (tB (decide (a.Close≤tk))) rfl (nt ?_)))))
 refine cd (a.Close≤tk) rfl (fun fhc1=> ?_) fun fhc1=> ?_
 ·refine sr ?_
  refine lf (tS a.Fill) rfl Qbm rfl rfl ZN (aO (tS a.Fill) rfl (nt (rt (vinB.r (tr ?_)))))
  refine vfin.eq (r':=(tS a.Fill)) ?_ (vfin.r (VRes.tmp (t:=(tS a.Fill)) rfl VRes.nil) (Give.str _))
  refine congrArg T.str ?_
  unfold Yi;rw [if_pos (by assumption),if_pos (by assumption)]
 refine sk (vinB.n (tn (sr (fO (OF.fieldAddrO (tv (T.op 0 0) rfl) Qa9) (fO (OF.fieldAddrO (tv (T.op 0 1) rfl) YM) (lO (OL.loadOn (us:=(Qb false a.Puzzle.Grid)) (tv (T.op 0 1) rfl) rfl QP QN (lb rfl) rfl) (cO (cS (vc (tv (T.agg (Qb false a.Puzzle.Grid)) rfl) vn) (LendL.cons (lg Qq) ln) (Qck (n+41) a.Puzzle.Grid (by first | assumption | omega)) rfl rfl) (aO (tS (QaW a.Puzzle.Grid)) rfl (nt (rt ?_))))))))))
 refine vfin.eq (r':=(tS (QaW a.Puzzle.Grid))) ?_ (vfin.r (VRes.tmp (t:=(tS (QaW a.Puzzle.Grid))) rfl VRes.nil) (Give.str _))
 refine congrArg T.str ?_
 unfold Yi;rw [if_pos (by assumption),if_neg (by assumption)]
end Go.Proofs.YthifchndolccgaaGreatDoor.AE
namespace Go.Proofs.YthifchndolccgaaGreatDoor.AE
open Go Go.RowKit
set_option linter.unusedVariables false
set_option linter.unusedSimpArgs false
set_option maxRecDepth 20000
set_option maxHeartbeats 2000000
theorem JD (n:Nat) (a0:D.Issue) (a1:Int) (g0:Qhr a0) (g1:(Lit.int .i64 a1).wf=true):Pure (Qo Tryz.prog (n+46)) 4 [(T.agg (QE false a0)),(tI a1)] (tB true):=by
 refine Pure.intro (rs:= [ResultVar.tmp 4]) Tryz.func4 rfl rfl rfl (E0:= [(0,(T.agg (QE false a0))),(1,(tI a1))]) rfl ?_
 obtain ⟨hlim,hmx,hmax⟩:=QF
 have hl0_0:=Zf (z:=QO) a0.Puzzle.Clues
 have hl0_1:=Zf (z:=zI) a0.Puzzle.Seals
 have hm0:=Qg8 1 a0.Puzzle.Clues
 have hd0:zL QO a0.Puzzle.Clues+zL zI a0.Puzzle.Seals≤Zd a0:=by simp only [Zd,QI];omega
 have hx:=QgT a0 a1
 refine sr (kO (B.box (ts:=(QE false a0)) (tv (T.agg (QE false a0)) rfl) nofun rfl) (fO (OF.assign (VEv.bool false)) (nt (sr (fO (OF.assign (VEv.int .i64 1048576)) (nt (sr (lO (OL.loadOn (us:=(QE false a0)) (tv (T.op 0 0) rfl) rfl Qke Qko (lb rfl) rfl) (mO (tN 1048576) rfl (cO (cS (vc (tv (T.agg (QE false a0)) rfl) (vc (tv (tN 1048576) rfl) vn)) (LendL.cons (lg J3) (lp rfl ln)) (QdN (n+39) a0 1048576 (by first | exact Zg _ _ | (simp only [Qp];omega) | (simp only [Qp,QH];omega) | (simp only [Qp,QH];done) | exact Ya _ _ _ _ | (simp only [QH];omega) | assumption | omega | (simp only [List.length_map];omega) | (simp only [List.length_map,List.length_append,List.length_cons,List.length_nil,List.length_replicate,List.length_set,List.length_drop,List.length_take,YD] at *;omega)) (by first | exact Zg _ _ | (simp only [Qp];omega) | (simp only [Qp,QH];omega) | (simp only [Qp,QH];done) | exact Ya _ _ _ _ | (simp only [QH];omega) | assumption | omega | (simp only [List.length_map];omega) | (simp only [List.length_map,List.length_append,List.length_cons,List.length_nil,List.length_replicate,List.length_set,List.length_drop,List.length_take,YD] at *;omega)) (by first | exact Zg _ _ | (simp only [Qp];omega) | (simp only [Qp,QH];omega) | (simp only [Qp,QH];done) | exact Ya _ _ _ _ | (simp only [QH];omega) | assumption | omega | (simp only [List.length_map];omega) | (simp only [List.length_map,List.length_append,List.length_cons,List.length_nil,List.length_replicate,List.length_set,List.length_drop,List.length_take,YD] at *;omega))) rfl rfl) (aO (tI (Zr (Zd a0) 1048576)) rfl ?_)))))))))))
 refine nt (sq (sr (mO (tI (Zr (Zd a0) 1048576)) rfl (fO (xls (tv (tI (Zr (Zd a0) 1048576)) rfl) (VEv.int .i64 0)) (nt ?_)))))
 refine cd (Zr (Zd a0) 1048576<0) rfl (fun fhc0=> ?_) fun fhc0=> ?_
 ·refine sr ?_
  refine fO (OF.assign (VEv.bool true)) (nt (rt (tr ?_)))
  exact vb rfl rfl
 first | (have hz0:=Y4 fhc0) | skip
 refine sk (tn (sr (lO (OL.loadOn (us:=(QE false a0)) (tv (T.op 0 0) rfl) rfl Qke Qko (lb rfl) rfl) (cO (OC.callF (r':=(T.agg [(tI a0.Number),(tI a0.Puzzle.Grid.Rows),(tI a0.Puzzle.Grid.Cols),(tS a0.Puzzle.Grid.Cells),(T.os 2 1 0 ((a0.Puzzle.Clues.map (Qi true)).length)),(T.os 1 2 0 ((a0.Puzzle.Seals.map (Qc true)).length)),(tI a0.Puzzle.Salt),(tS a0.Fill),(tI a0.Open),(tI a0.Close)])) (objs:= [(Obj.rows 2 (a0.Puzzle.Clues.map (Qi true))),(Obj.rows 1 (a0.Puzzle.Seals.map (Qc true)))]) rfl (vc (tv (T.agg (QE false a0)) rfl) vn) (LendL.cons (lg J3) ln) (Jp (n+39) a0 (by first | exact Zg _ _ | (simp only [Qp];omega) | (simp only [Qp,QH];omega) | (simp only [Qp,QH];done) | exact Ya _ _ _ _ | (simp only [QH];omega) | assumption | omega | (simp only [List.length_map];omega) | (simp only [List.length_map,List.length_append,List.length_cons,List.length_nil,List.length_replicate,List.length_set,List.length_drop,List.length_take,YD] at *;omega))) rfl) (mO (tI a1) rfl (cO (cS (us:= [(T.agg (QE false a0)),(tI a1)]) (vc (tv (T.agg [(tI a0.Number),(tI a0.Puzzle.Grid.Rows),(tI a0.Puzzle.Grid.Cols),(tS a0.Puzzle.Grid.Cells),(T.os 2 1 0 ((a0.Puzzle.Clues.map (Qi true)).length)),(T.os 1 2 0 ((a0.Puzzle.Seals.map (Qc true)).length)),(tI a0.Puzzle.Salt),(tS a0.Fill),(tI a0.Open),(tI a0.Close)]) rfl) (vc (tv (tI a1) rfl) vn)) (LendL.cons (Lend.agg (LendL.cons (Lend.pl rfl) (LendL.cons (Lend.pl rfl) (LendL.cons (Lend.pl rfl) (LendL.cons (Lend.pl rfl) (LendL.cons (Lend.os rfl rfl (okeClue.fzMap _ _)) (LendL.cons (Lend.os rfl rfl (okInt.fzMap _ _)) (LendL.cons (Lend.pl rfl) (LendL.cons (Lend.pl rfl) (LendL.cons (Lend.pl rfl) (LendL.cons (Lend.pl rfl) ln))))))))))) (lp rfl ln)) (QbC (n+32) a0 a1 (by first | exact Zg _ _ | (simp only [Qp];omega) | (simp only [Qp,QH];omega) | (simp only [Qp,QH];done) | exact Ya _ _ _ _ | (simp only [QH];omega) | assumption | omega | (simp only [List.length_map];omega) | (simp only [List.length_map,List.length_append,List.length_cons,List.length_nil,List.length_replicate,List.length_set,List.length_drop,List.length_take,YD] at *;omega))) rfl rfl) (aO (tS (Yi a0 a1)) rfl (nt (sr (lO (OL.loadOn (us:=(QE false a0)) (tv (T.op 0 0) rfl) rfl Qke Qko (lb rfl) rfl) (cO (OC.callF (r':=(T.agg [(tI a0.Number),(tI a0.Puzzle.Grid.Rows),(tI a0.Puzzle.Grid.Cols),(tS a0.Puzzle.Grid.Cells),(T.os 2 3 0 ((a0.Puzzle.Clues.map (Qi true)).length)),(T.os 1 4 0 ((a0.Puzzle.Seals.map (Qc true)).length)),(tI a0.Puzzle.Salt),(tS a0.Fill),(tI a0.Open),(tI a0.Close)])) (objs:= [(Obj.rows 2 (a0.Puzzle.Clues.map (Qi true))),(Obj.rows 1 (a0.Puzzle.Seals.map (Qc true)))]) rfl (vc (tv (T.agg (QE false a0)) rfl) vn) (LendL.cons (lg J3) ln) (Jp (n+39) a0 (by first | exact Zg _ _ | (simp only [Qp];omega) | (simp only [Qp,QH];omega) | (simp only [Qp,QH];done) | exact Ya _ _ _ _ | (simp only [QH];omega) | assumption | omega | (simp only [List.length_map];omega) | (simp only [List.length_map,List.length_append,List.length_cons,List.length_nil,List.length_replicate,List.length_set,List.length_drop,List.length_take,YD] at *;omega))) rfl) ?_)))))))))))
 refine kO (B.alloc (t:=(T.agg [(tN 0),(tN 0),(tN 0),(tS ByteArray.empty),T.nils,T.nils,(tN 0),(tS ByteArray.empty),(tN 0),(tN 0)])) (ts:= [(tN 0),(tN 0),(tN 0),(tS ByteArray.empty),T.nils,T.nils,(tN 0),(tS ByteArray.empty),(tN 0),(tN 0)]) Qlw QkT nofun (fun _=> .agg _ _ rfl (Y8 (RL.cons (.int _ _) (RL.cons (.int _ _) (RL.cons (.int _ _) (RL.cons (.str _) (RL.cons (.nils) (RL.cons (.nils) (RL.cons (.int _ _) (RL.cons (.str _) (RL.cons (.int _ _) (RL.cons (.int _ _) (RL.nil _))))))))))))) rfl) (cO (B.storeW (us:= [(tI a0.Number),(tI a0.Puzzle.Grid.Rows),(tI a0.Puzzle.Grid.Cols),(tS a0.Puzzle.Grid.Cells),(T.os 2 3 0 ((a0.Puzzle.Clues.map (Qi true)).length)),(T.os 1 4 0 ((a0.Puzzle.Seals.map (Qc true)).length)),(tI a0.Puzzle.Salt),(tS a0.Fill),(tI a0.Open),(tI a0.Close)]) (tv (T.op 5 0) rfl) (tv (T.agg [(tI a0.Number),(tI a0.Puzzle.Grid.Rows),(tI a0.Puzzle.Grid.Cols),(tS a0.Puzzle.Grid.Cells),(T.os 2 3 0 ((a0.Puzzle.Clues.map (Qi true)).length)),(T.os 1 4 0 ((a0.Puzzle.Seals.map (Qc true)).length)),(tI a0.Puzzle.Salt),(tS a0.Fill),(tI a0.Open),(tI a0.Close)]) rfl) nofun rfl rfl rfl Ql0 QgP (bc rfl (bc rfl (bc rfl (bc rfl (bc rfl (bc rfl (bc rfl (bc rfl (bc rfl (bc rfl bn))))))))))) (nt (sr (lO (OL.loadOn (us:= [(tI a0.Number),(tI a0.Puzzle.Grid.Rows),(tI a0.Puzzle.Grid.Cols),(tS a0.Puzzle.Grid.Cells),(T.os 2 3 0 ((a0.Puzzle.Clues.map (Qi true)).length)),(T.os 1 4 0 ((a0.Puzzle.Seals.map (Qc true)).length)),(tI a0.Puzzle.Salt),(tS a0.Fill),(tI a0.Open),(tI a0.Close)]) (tv (T.op 5 0) rfl) rfl Qiu QgP (lb rfl) rfl) (mO (tI a1) rfl (cO (cS (us:= [(T.agg (QE false a0)),(tI a1)]) (vc (tv (T.agg [(tI a0.Number),(tI a0.Puzzle.Grid.Rows),(tI a0.Puzzle.Grid.Cols),(tS a0.Puzzle.Grid.Cells),(T.os 2 3 0 ((a0.Puzzle.Clues.map (Qi true)).length)),(T.os 1 4 0 ((a0.Puzzle.Seals.map (Qc true)).length)),(tI a0.Puzzle.Salt),(tS a0.Fill),(tI a0.Open),(tI a0.Close)]) rfl) (vc (tv (tI a1) rfl) vn)) (LendL.cons (Lend.agg (LendL.cons (Lend.pl rfl) (LendL.cons (Lend.pl rfl) (LendL.cons (Lend.pl rfl) (LendL.cons (Lend.pl rfl) (LendL.cons (Lend.os rfl rfl (okeClue.fzMap _ _)) (LendL.cons (Lend.os rfl rfl (okInt.fzMap _ _)) (LendL.cons (Lend.pl rfl) (LendL.cons (Lend.pl rfl) (LendL.cons (Lend.pl rfl) (LendL.cons (Lend.pl rfl) ln))))))))))) (lp rfl ln)) (Qb0 (n+0) a0 a1 (by first | exact Zg _ _ | (simp only [Qp];omega) | (simp only [Qp,QH];omega) | (simp only [Qp,QH];done) | exact Ya _ _ _ _ | (simp only [QH];omega) | assumption | omega | (simp only [List.length_map];omega) | (simp only [List.length_map,List.length_append,List.length_cons,List.length_nil,List.length_replicate,List.length_set,List.length_drop,List.length_take,YD] at *;omega))) rfl rfl) (aO (tS (Yi a0 a1)) rfl (nt (sq (sr (mO (tS (Yi a0 a1)) rfl ?_)))))))))))
 refine mO (tS (Yi a0 a1)) rfl (fO (B.sneq (c:=(!(decide (Yi a0 a1=Yi a0 a1)))) (tv (tS (Yi a0 a1)) rfl) (tv (tS (Yi a0 a1)) rfl) rfl) (nt ?_))
 refine cn (Yi a0 a1=Yi a0 a1) rfl (fun fhc1=> ?_) fun fhc1=> ?_
 ·refine sr ?_
  refine fO (OF.assign (VEv.bool false)) (nt (rt (tr (vb (b':=false) rfl ?_))))
  first | rfl | (exfalso;simp only [Qp,not_true_eq_false] at *;done) | (exfalso;simp only [Qp] at* <;>omega) | (exfalso;simp only [Qp,QH] at* <;>omega) | (exfalso;simp only [Qp,QH,not_true_eq_false] at *;done) | (exfalso;omega) | (exfalso;(simp only [QH] at* <;>omega)) | (exfalso;simp only [QH,not_true_eq_false] at *;done) | (exfalso;simp_all;done)
 first | (have hz1:=Y4 fhc1) | skip
 refine sk (tn (sq (sq (VRun.draw (B:= [[],[],[1],[1,2,0],[0,2,1,3]]) (by kernel_rfl) (by kernel_rfl) (lD (OL.loadOn (us:= [(tI a0.Number),(tI a0.Puzzle.Grid.Rows),(tI a0.Puzzle.Grid.Cols),(tS a0.Puzzle.Grid.Cells),(T.os 2 3 0 ((a0.Puzzle.Clues.map (Qi true)).length)),(T.os 1 4 0 ((a0.Puzzle.Seals.map (Qc true)).length)),(tI a0.Puzzle.Salt),(tS a0.Fill),(tI a0.Open),(tI a0.Close)]) (tv (T.op 5 0) rfl) rfl Qiu QgP (lb rfl) rfl) rfl rfl (lD (OL.loadOn (us:=(QE false a0)) (tv (T.op 0 0) rfl) rfl Qke Qko (lb rfl) rfl) rfl rfl (VRunD.quiet (bi:= [1]) rfl VWant.always rfl rfl rfl bn (OC.callF (r':=(T.agg [(tI a0.Number),(tI a0.Puzzle.Grid.Rows),(tI a0.Puzzle.Grid.Cols),(tS a0.Puzzle.Grid.Cells),(T.os 2 6 0 ((a0.Puzzle.Clues.map (Qi true)).length)),(T.os 1 7 0 ((a0.Puzzle.Seals.map (Qc true)).length)),(tI a0.Puzzle.Salt),(tS a0.Fill),(tI a0.Open),(tI a0.Close)])) (objs:= [(Obj.rows 2 (a0.Puzzle.Clues.map (Qi true))),(Obj.rows 1 (a0.Puzzle.Seals.map (Qc true)))]) rfl (vc (tv (T.agg (QE false a0)) rfl) vn) (LendL.cons (lg J3) ln) (Jp (n+39) a0 (by first | exact Zg _ _ | (simp only [Qp];omega) | (simp only [Qp,QH];omega) | (simp only [Qp,QH];done) | exact Ya _ _ _ _ | (simp only [QH];omega) | assumption | omega | (simp only [List.length_map];omega) | (simp only [List.length_map,List.length_append,List.length_cons,List.length_nil,List.length_replicate,List.length_set,List.length_drop,List.length_take,YD] at *;omega))) rfl) (VRunD.quiet (bi:= [1,2,0]) rfl VWant.always rfl rfl rfl bn (cS (us:= [(T.agg (QE false a0)),(T.agg (QE false a0))]) (vc (tv (T.agg [(tI a0.Number),(tI a0.Puzzle.Grid.Rows),(tI a0.Puzzle.Grid.Cols),(tS a0.Puzzle.Grid.Cells),(T.os 2 3 0 ((a0.Puzzle.Clues.map (Qi true)).length)),(T.os 1 4 0 ((a0.Puzzle.Seals.map (Qc true)).length)),(tI a0.Puzzle.Salt),(tS a0.Fill),(tI a0.Open),(tI a0.Close)]) rfl) (vc (tv (T.agg [(tI a0.Number),(tI a0.Puzzle.Grid.Rows),(tI a0.Puzzle.Grid.Cols),(tS a0.Puzzle.Grid.Cells),(T.os 2 6 0 ((a0.Puzzle.Clues.map (Qi true)).length)),(T.os 1 7 0 ((a0.Puzzle.Seals.map (Qc true)).length)),(tI a0.Puzzle.Salt),(tS a0.Fill),(tI a0.Open),(tI a0.Close)]) rfl) vn)) (LendL.cons (Lend.agg (LendL.cons (Lend.pl rfl) (LendL.cons (Lend.pl rfl) (LendL.cons (Lend.pl rfl) (LendL.cons (Lend.pl rfl) (LendL.cons (Lend.os rfl rfl (okeClue.fzMap _ _)) (LendL.cons (Lend.os rfl rfl (okInt.fzMap _ _)) (LendL.cons (Lend.pl rfl) (LendL.cons (Lend.pl rfl) (LendL.cons (Lend.pl rfl) (LendL.cons (Lend.pl rfl) ln))))))))))) (LendL.cons (Lend.agg (LendL.cons (Lend.pl rfl) (LendL.cons (Lend.pl rfl) (LendL.cons (Lend.pl rfl) (LendL.cons (Lend.pl rfl) (LendL.cons (Lend.os rfl rfl (okeClue.fzMap _ _)) (LendL.cons (Lend.os rfl rfl (okInt.fzMap _ _)) (LendL.cons (Lend.pl rfl) (LendL.cons (Lend.pl rfl) (LendL.cons (Lend.pl rfl) (LendL.cons (Lend.pl rfl) ln))))))))))) ln)) (QdC (n+39) a0 a0 (by first | exact Zg _ _ | (simp only [Qp];omega) | (simp only [Qp,QH];omega) | (simp only [Qp,QH];done) | exact Ya _ _ _ _ | (simp only [QH];omega) | assumption | omega | (simp only [List.length_map];omega) | (simp only [List.length_map,List.length_append,List.length_cons,List.length_nil,List.length_replicate,List.length_set,List.length_drop,List.length_take,YD] at *;omega)) (by first | exact Zg _ _ | (simp only [Qp];omega) | (simp only [Qp,QH];omega) | (simp only [Qp,QH];done) | exact Ya _ _ _ _ | (simp only [QH];omega) | assumption | omega | (simp only [List.length_map];omega) | (simp only [List.length_map,List.length_append,List.length_cons,List.length_nil,List.length_replicate,List.length_set,List.length_drop,List.length_take,YD] at *;omega))) rfl rfl) ?_))))))))
 refine fD (QY (tv (tB (decide (a0=a0))) rfl)) rfl rfl (VRunD.nil (tn ?_))
 refine cn (a0=a0) rfl (fun fhc2=> ?_) fun fhc2=> ?_
 ·refine sr ?_
  refine fO (OF.assign (VEv.bool false)) (nt (rt (tr (vb (b':=false) rfl ?_))))
  first | rfl | (exfalso;simp only [Qp,not_true_eq_false] at *;done) | (exfalso;simp only [Qp] at* <;>omega) | (exfalso;simp only [Qp,QH] at* <;>omega) | (exfalso;simp only [Qp,QH,not_true_eq_false] at *;done) | (exfalso;omega) | (exfalso;(simp only [QH] at* <;>omega)) | (exfalso;simp only [QH,not_true_eq_false] at *;done) | (exfalso;simp_all;done)
 first | (have hz2:=Y4 fhc2) | skip
 refine sk (tn (sr (fO (OF.assign (VEv.bool true)) (nt (rt ?_)))))
 exact vb rfl rfl
end Go.Proofs.YthifchndolccgaaGreatDoor.AE
namespace Go.Proofs.YthifchndolccgaaGreatDoor.AE
open Go Go.RowKit
set_option linter.unusedVariables false
set_option linter.unusedSimpArgs false
theorem Qll {α:Type} {d:AK α} {e:Bool→α→List T} {x:α} {t:T} {h:AH} {v:Value} (hk:RK d e) (he:e false x= [t]) (hr:d.R h x [v]):R h t v:=by
 have h1:=hk h x _ hr
 rw [he] at h1
 exact h1.tail.1
theorem Qli {α:Type} {d:AK α} {e:Bool→α→List T} {x:α} {h:AH} {cs:Array Value} (hk:RK d e) (hr:d.R h x (Qf4 (.agg cs)).cells.toList):R h (.agg (e false x)) (Qf4 (.agg cs)):=by
 have h1:=hk h x _ hr
 refine .agg _ _ (by simpa [Value.cells,Qf4] using h1.1) (fun i hi=> ?_)
 have:=h1.2 i hi
 simpa [Value.cells,Qf4,Array.getD_eq_getD_getElem?,List.getD_eq_getElem?_getD] using this
theorem Pure.bool {call:QM} {f:FuncId} {ts:List T} {b:Bool} (hp:Pure call f ts (.bool b)) {h:AH} {vs:List Value} (hfr:Fr 1 h) (hr:RL h ts vs):CallS call f vs h 1 (fun v _=>v= .bool b):=by
 refine (hp h 1 vs hfr hr).mono ?_
 rintro v h' ⟨_,N,hs,_⟩
 cases hs with
 | fz hr=>cases hr;rfl
end Go.Proofs.YthifchndolccgaaGreatDoor.AE
namespace Go.Proofs.YthifchndolccgaaGreatDoor.AE
open Go Go.RowKit Go.Shelf Go.Proofs
def laysRepl_ren : Go.Shelf.Ren:=⟨fun | 155=>61 | 154=>85 | 138=>112 | 165=>113 | 143=>114 | 166=>115 | 197=>116 | 169=>117 | 195=>139 | 218=>140 | 240=>141 | 241=>142 | 219=>143 | 260=>144 | 276=>151 | 277=>152 | 217=>153 | 225=>154 | 224=>155 | 267=>156 | 266=>166 | 314=>167 | n=>n,fun | 9=>9 | 3=>3 | 4=>4 | 72=>126 | 0=>0 | 76=>130 | 105=>132 | 21=>21 | 5=>5 | 70=>124 | 20=>20 | 37=>92 | 75=>129 | 127=>148 | 164=>153 | 46=>157 | 119=>158 | 139=>161 | 138=>160 | 146=>171 | 51=>170 | 80=>134 | n=>n,fun | 1=>0 | 3=>1 | 4=>2 | n=>n⟩
theorem laysRepl : Go.Proofs.LaysM.n155 Tryz.prog laysRepl_ren where
 mixed:=by kernel_rfl
 f138:=Tryz.func112.trans (congrArg some (by kernel_rfl))
 f143:=Tryz.func114.trans (congrArg some (by kernel_rfl))
 f154:=Tryz.func85.trans (congrArg some (by kernel_rfl))
 f155:=Tryz.func61.trans (congrArg some (by kernel_rfl))
 f165:=Tryz.func113.trans (congrArg some (by kernel_rfl))
 f166:=Tryz.func115.trans (congrArg some (by kernel_rfl))
 f169:=Tryz.func117.trans (congrArg some (by kernel_rfl))
 f195:=Tryz.func139.trans (congrArg some (by kernel_rfl))
 f197:=Tryz.func116.trans (congrArg some (by kernel_rfl))
 f217:=Tryz.func153.trans (congrArg some (by kernel_rfl))
 f218:=Tryz.func140.trans (congrArg some (by kernel_rfl))
 f219:=Tryz.func143.trans (congrArg some (by kernel_rfl))
 f224:=Tryz.func155.trans (congrArg some (by kernel_rfl))
 f225:=Tryz.func154.trans (congrArg some (by kernel_rfl))
 f240:=Tryz.func141.trans (congrArg some (by kernel_rfl))
 f241:=Tryz.func142.trans (congrArg some (by kernel_rfl))
 f260:=Tryz.func144.trans (congrArg some (by kernel_rfl))
 f266:=Tryz.func166.trans (congrArg some (by kernel_rfl))
 f267:=Tryz.func156.trans (congrArg some (by kernel_rfl))
 f276:=Tryz.func151.trans (congrArg some (by kernel_rfl))
 f277:=Tryz.func152.trans (congrArg some (by kernel_rfl))
 f314:=Tryz.func167.trans (congrArg some (by kernel_rfl))
 t0:=Tryz.underlying0
 a0:=Tryz.isAgg0
 z0:=Tryz.sizeOf0
 v0:=Tryz.zeroValue0
 t3:=Tryz.underlying3
 a3:=Tryz.isAgg3
 z3:=Tryz.sizeOf3
 v3:=Tryz.zeroValue3
 t4:=Tryz.underlying4
 a4:=Tryz.isAgg4
 z4:=Tryz.sizeOf4
 v4:=Tryz.zeroValue4
 t5:=Tryz.underlying5
 a5:=Tryz.isAgg5
 z5:=Tryz.sizeOf5
 v5:=Tryz.zeroValue5
 t9:=Tryz.underlying9
 a9:=Tryz.isAgg9
 z9:=Tryz.sizeOf9
 v9:=Tryz.zeroValue9
 t20:=Tryz.underlying20
 a20:=Tryz.isAgg20
 z20:=Tryz.sizeOf20
 v20:=Tryz.zeroValue20
 t21:=Tryz.underlying21
 a21:=Tryz.isAgg21
 z21:=Tryz.sizeOf21
 v21:=Tryz.zeroValue21
 t37:=Tryz.underlying92
 a37:=Tryz.isAgg92
 z37:=Tryz.sizeOf92
 v37:=Tryz.zeroValue92
 t46:=Tryz.underlying157
 a46:=Tryz.isAgg157
 z46:=Tryz.sizeOf157
 v46:=Tryz.zeroValue157
 t51:=Tryz.underlying170
 a51:=Tryz.isAgg170
 z51:=Tryz.sizeOf170
 v51:=Tryz.zeroValue170
 t70:=Tryz.underlying124
 a70:=Tryz.isAgg124
 z70:=Tryz.sizeOf124
 v70:=Tryz.zeroValue124
 t72:=Tryz.underlying126
 a72:=Tryz.isAgg126
 z72:=Tryz.sizeOf126
 v72:=Tryz.zeroValue126
 t75:=Tryz.underlying129
 a75:=Tryz.isAgg129
 z75:=Tryz.sizeOf129
 v75:=Tryz.zeroValue129
 t76:=Tryz.underlying130
 a76:=Tryz.isAgg130
 z76:=Tryz.sizeOf130
 v76:=Tryz.zeroValue130
 t105:=Tryz.underlying132
 a105:=Tryz.isAgg132
 z105:=Tryz.sizeOf132
 v105:=Tryz.zeroValue132
 t119:=Tryz.underlying158
 a119:=Tryz.isAgg158
 z119:=Tryz.sizeOf158
 t127:=Tryz.underlying148
 a127:=Tryz.isAgg148
 z127:=Tryz.sizeOf148
 v127:=Tryz.zeroValue148
 t138:=Tryz.underlying160
 a138:=Tryz.isAgg160
 z138:=Tryz.sizeOf160
 v138:=Tryz.zeroValue160
 t139:=Tryz.underlying161
 a139:=Tryz.isAgg161
 z139:=Tryz.sizeOf161
 v139:=Tryz.zeroValue161
 t146:=Tryz.underlying171
 a146:=Tryz.isAgg171
 z146:=Tryz.sizeOf171
 v146:=Tryz.zeroValue171
 t164:=Tryz.underlying153
 a164:=Tryz.isAgg153
 z164:=Tryz.sizeOf153
 v164:=Tryz.zeroValue153
 g1:=by kernel_rfl
 g3:=by kernel_rfl
 g4:=by kernel_rfl
 t80:=Tryz.underlying134
 a80:=Tryz.isAgg134
 z80:=Tryz.sizeOf134
 v80:=Tryz.zeroValue134
 i0:=by kernel_rfl
 i3:=by kernel_rfl
 i4:=by kernel_rfl
 i5:=by kernel_rfl
 i9:=by kernel_rfl
 i20:=by kernel_rfl
 i21:=by kernel_rfl
 i37:=by kernel_rfl
 i46:=by kernel_rfl
 i51:=by kernel_rfl
 i70:=by kernel_rfl
 i72:=by kernel_rfl
 i75:=by kernel_rfl
 i76:=by kernel_rfl
 i80:=by kernel_rfl
 i105:=by kernel_rfl
 i127:=by kernel_rfl
 i138:=by kernel_rfl
 i139:=by kernel_rfl
 i146:=by kernel_rfl
 i164:=by kernel_rfl
 m1:=by kernel_rfl
 s1_3:=fun w h=>Go.Proofs.cell_of_shapedOpen_int (zero:= #[.int .i64 0]) (t:=3) h (of_decide_eq_true (by kernel_rfl)) (by kernel_rfl) rfl (by kernel_rfl) (by kernel_rfl) Tryz.underlying3
 m3:=by kernel_rfl
 m4:=by kernel_rfl
theorem Qiw : Builder.Extra Tryz.prog laysRepl_ren where
 sizeBuilder:=by kernel_rfl
 liesBuilder:=by kernel_rfl
 t5:=laysRepl.t5
 a5:=laysRepl.a5
 z5:=laysRepl.z5
 v5:=laysRepl.v5
 infoByte:=by kernel_rfl
 cellsByte:=by kernel_rfl
 sizeByte:=by kernel_rfl
 neB5:=by decide
theorem Qld {W:World} (h:W.ShapedOpen Tryz.prog):GlobOk W.heap.size W:=by
 intro g hg
 obtain rfl:=List.mem_singleton.1 hg
 obtain ⟨m,hm⟩:=laysRepl.s1_3 W h
 refine ⟨?_,m,hm⟩
 unfold World.cell? at hm
 split at hm
 ·rename_i e;exact (Array.getElem?_eq_some_iff.1 e).1
 ·cases hm
theorem QkL : Qht Tryz.prog:=by
 intro f hf
 by_cases h0:f=61
 ·subst h0
  exact QgD (g:=laysRepl_ren.g 1) (by decide) ⟨fun s o n m w h1 h2 h3 h4=>Any.strings_ReplaceAll laysRepl.ton155 Qiw s o n m w h1 h2 h3 h4⟩
 exfalso
 simp [Qar,h0] at hf
end Go.Proofs.YthifchndolccgaaGreatDoor.AE
