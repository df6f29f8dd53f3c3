/- A part of what the row of FnExactWriteLetter uses. Conditions: as each theorem states. -/
import Derived.Test.YtcccmceoplcciaaGreatZFnExactWriteLetterd
namespace Go.Proofs.YtcccmceoplcciaaGreat.AE
open Go Go.RowKit
set_option linter.unusedVariables false
set_option linter.unusedSimpArgs false
set_option maxRecDepth 20000
set_option maxHeartbeats 2000000
noncomputable section
def inS (g:D.Grid) (c:Int) (s:D.Slot):Prop:=c∈Qi g s s.Length.toNat
instance (g:D.Grid) (c:Int) (s:D.Slot):Decidable (inS g c s):=Classical.propDecidable _
def atL (g:D.Grid) (c:Int):List D.Slot→Nat→List Int
 | [],_=> []
 | s::r,n=>(if inS g c s then [((n:Nat):Int)] else [])++atL g c r (n+1)
theorem QgO (g:D.Grid) (c:Int) (s:D.Slot):∀(l:List D.Slot) (n:Nat),atL g c (l++ [s]) n=atL g c l n++(if inS g c s then [((n+l.length:Nat):Int)] else [])
 | [],n=>by simp [atL]
 | x::r,n=>by
  rw [List.cons_append,atL,atL,QgO g c s r (n+1),List.append_assoc]
  simp only [List.length_cons,show n+1+r.length=n+(r.length+1) by omega]
def Z3 (g:D.Grid) (c:Int) (i:Nat):List Int:=atL g c ((Qb g).take i) 0
theorem Qcx {g:D.Grid} {c:Int} {i:Nat} {s:D.Slot} (h:(Qb g)[i]? =some s):Z3 g c (i+1)=Z3 g c i++(if inS g c s then [((i:Nat):Int)] else []):=by
 have hi:=(List.getElem?_eq_some_iff.1 h).1
 unfold Z3
 rw [List.take_add_one,h,Option.toList_some,QgO]
 simp [Nat.min_eq_left (Nat.le_of_lt hi)]
theorem Qiq (g:D.Grid) (c:Int):∀(l:List D.Slot) (n:Nat),(atL g c l n).length≤l.length
 | [],n=>by simp [atL]
 | x::r,n=>by
  have:=Qiq g c r (n+1)
  rw [atL,List.length_append,List.length_cons]
  split<;>simp only [List.length_cons,List.length_nil]<;>omega
theorem Qiw (g:D.Grid) (c:Int) (i:Nat):(Z3 g c i).length≤(Qb g).length:=by
 have:=Qiq g c ((Qb g).take i) 0
 rw [List.length_take] at this
 unfold Z3
 omega
theorem QgF {g:D.Grid} {i:Nat} {s:D.Slot} (h:(Qb g)[i]? =some s):(if s∈Qb g then Qi g s s.Length.toNat else [])=Qi g s s.Length.toNat:=if_pos (List.mem_of_getElem? h)
theorem Qgx (g:D.Grid) (s:D.Slot):(if s∈Qb g then Qi g s s.Length.toNat else []).length≤6:=by
 split
 ·rename_i h
  rw [JR]
  have:=(QaA h).2.2.2
  omega
 ·simp
end
theorem Qbi (n:Nat) (g:D.Grid) (c:Int) (hc:g.Cells.size≤maxLen):Pure (Qq Tryz.prog (n+5)) 159 [(T.agg (Qc false g)),(tI c)] (T.sl true 1 ((Z3 g c (Qb g).length).map (Qa true))):=by
 refine Pure.intro (rs:= [ResultVar.tmp 4]) Tryz.func159 rfl rfl rfl (E0:= [(0,(T.agg (Qc false g))),(1,(tI c))]) rfl ?_
 obtain ⟨hlim,hmx,hmax⟩:=QG
 have hsl:=Zn g
 refine sr (kO (B.box (ts:=(Qc false g)) (tv (T.agg (Qc false g)) rfl) nofun rfl) (fO (OF.assign VEv.nils) (nt (sr (kO (OM.slice0 Zt zo3 (by kernel_rfl) rfl (by rw [Za];decide) Za) (aO (T.os 1 1 0 0) rfl (nt (sr (lO (OL.loadOn (us:=(Qc false g)) (tv (T.op 0 0) rfl) rfl Q1 QT (lb rfl) rfl) (cO (OC.callF (us:= [(T.agg (Qc false g))]) (r:=(T.sl true 4 ((Qb g).map (Qg true)))) (r':=(T.os 4 2 0 (((Qb g).map (Qg true)).length))) (objs:= [(Obj.rows 4 ((Qb g).map (Qg true)))]) rfl (vc (tv (T.agg (Qc false g)) rfl) vn) (LendL.cons (lg Qt) ln) (ZJ (n+1) g (by assumption)) rfl) (aO (T.os 4 2 0 (((Qb g).map (Qg true)).length)) rfl ?_)))))))))))
 refine nt (sq (sr (fO (OF.assign (VEv.int .i64 0)) (nt (VRun.block ?_)))))
 have he1: []=((Z3 g c 0).map (Qa true)):=by rfl
 refine VRun.loop (A:=Nat) (fun s_=> [(1,(tI c)),(2,(T.op 0 0)),(4,T.nils),(5,(T.os 1 2 0 (((Z3 g c s_).map (Qa true)).length))),(6,(T.os 4 1 0 (((Qb g).map (Qg true)).length))),(7,(tN s_))]) (fun s_=>Q4 [(0,(Obj.cells (Qc false g))),(1,(Obj.rows 4 ((Qb g).map (Qg true)))),(2,(Obj.rows 1 ((Z3 g c s_).map (Qa true))))]) 3 (fun s_=>s_≤(Qb g).length) (fun s_=>(Qb g).length - s_) (0:Nat) ?_ (Wk.mk (fun k=>if k=1 then 2 else if k=2 then 1 else k) ?_ ?_ ?_) ?_
 ·(simp;done)
 ·exact (b2 (b2 (b2 (bc ⟨(congrArg (fun n_=>T.os 1 1 0 n_) (show 0=((Z3 g c 0).map (Qa true)).length from (by rfl))),rfl⟩ (b2 (b2 bn))))))
 ·exact (b3 (b3 (bc ⟨(congrArg (fun l_=>some (Obj.rows 1 l_)) he1),(lb rfl),rfl⟩ bn)))
 ·exact nd rfl
 rintro i (hI':i≤(Qb g).length)
 show VRun _ _ _ [(1,(tI c)),(2,(T.op 0 0)),(4,T.nils),(5,(T.os 1 2 0 (((Z3 g c i).map (Qa true)).length))),(6,(T.os 4 1 0 (((Qb g).map (Qg true)).length))),(7,(tN i))] (Q4 [(0,(Obj.cells (Qc false g))),(1,(Obj.rows 4 ((Qb g).map (Qg true)))),(2,(Obj.rows 1 ((Z3 g c i).map (Qa true))))]) 3 _
 have hI1:=hI'
 have hal:=Qiw g c i
 refine sq (sr (mO (tN i) rfl (mO (T.os 4 1 0 (((Qb g).map (Qg true)).length)) rfl (lO (B.lenO (m:=(Qb g).length) (tv (T.os 4 1 0 (((Qb g).map (Qg true)).length)) rfl) Z7 (List.length_map ..)) (fO (Ze (tv (tN i) rfl) (tv (tN ((Qb g).length)) rfl)) (nt ?_))))))
 refine cd (i<(Qb g).length) rfl (fun fhc0=> ?_) fun fhc0=> ?_
 ·refine sk ?_
  refine tn (sq (VRun.block (sq (VRun.draw (B:= [[],[],[],[2,1],[1,2,3],[3,2,1,4,0],[],[6,0,4,1,2,3,5]]) (by kernel_rfl) (by kernel_rfl) (lD (OL.loadOn (us:=(Qc false g)) (tv (T.op 0 0) rfl) rfl Q1 QT (lb rfl) rfl) rfl rfl (mD (T.os 4 1 0 (((Qb g).map (Qg true)).length)) rfl rfl (mD (tN i) rfl rfl ?_)))))))
  obtain ⟨x1,hx1⟩:∃x,(Qb g)[i]? =some x:=⟨_,List.getElem?_eq_getElem (by omega)⟩
  refine fD (B.indexAddrO (i:=i) (tv (T.os 4 1 0 (((Qb g).map (Qg true)).length)) rfl) (tv (tN i) rfl) rfl (by (simp only [List.length_map];omega)) Z7 Zb QaX) rfl rfl (lD (OL.loadPn (us:=(Qg false x1)) (row:=(Qg true x1)) (tv (T.orp 4 1 i 0) rfl) rfl (Qu _ hx1) QcD Zb (lb rfl) rfl (bc rfl (bc rfl (bc rfl (bc rfl bn))))) rfl rfl (VRunD.quiet (bi:= [3,2,1,4,0]) rfl VWant.always rfl rfl rfl bn (OC.callF (us:= [(T.agg (Qc false g)),(T.agg (Qg false x1))]) (r:=(T.sl true 1 ((if x1∈Qb g then Qi g x1 x1.Length.toNat else []).map (Qa true)))) (r':=(T.os 1 3 0 (((if x1∈Qb g then Qi g x1 x1.Length.toNat else []).map (Qa true)).length))) (objs:= [(Obj.rows 1 ((if x1∈Qb g then Qi g x1 x1.Length.toNat else []).map (Qa true)))]) rfl (vc (tv (T.agg (Qc false g)) rfl) (vc (tv (T.agg (Qg false x1)) rfl) vn)) (LendL.cons (lg Qt) (LendL.cons (lg okeSlot) ln)) (JB (n+0) g x1 (by assumption)) rfl) (mD (tI c) rfl rfl (VRunD.quiet (bi:= [6,0,4,1,2,3,5]) rfl VWant.always rfl rfl rfl bn (cS (us:= [(rd 1 Qa (if x1∈Qb g then Qi g x1 x1.Length.toNat else [])),(tI c)]) (vc (tv (T.os 1 3 0 (((if x1∈Qb g then Qi g x1 x1.Length.toNat else []).map (Qa true)).length)) rfl) (vc (tv (tI c) rfl) vn)) (LendL.cons (Lend.os rfl rfl (okInt.fzMap _ _)) (lp rfl ln)) (QfY (n+3) (if x1∈Qb g then Qi g x1 x1.Length.toNat else []) c (by exact Nat.le_trans (Qgx g _) (by decide))) rfl rfl) (VRunD.nil (tn ?_))))))
  refine cd (c∈(if x1∈Qb g then Qi g x1 x1.Length.toNat else [])) rfl (fun fhc1=> ?_) fun fhc1=> ?_
  ·rw [QgF hx1] at fhc1
   have q1:inS g c x1:=fhc1
   refine VRun.region (mO (T.os 1 2 0 (((Z3 g c i).map (Qa true)).length)) rfl (mO (tN i) rfl (kO (OM.buildSlice (l:= [(tN i)]) (VEvp.cons (tv (tN i) rfl) VEvp.nil) rfl (by decide) (bc (nofun) bn) (bc ((bc (rfl) bn)) bn) (bc (rfl) bn) Zt zo3 (by kernel_rfl) rfl (by rw [Za];decide) Za (Nat.le_of_ble_eq_true rfl)) (cO (B.append (rows:=((Z3 g c i).map (Qa true))) (rows2:= [[(tN i)]]) (rows3:=((Z3 g c i++ [((i:Nat):Int)]).map (Qa true))) (VDst.own (tv (T.os 1 2 0 (((Z3 g c i).map (Qa true)).length)) rfl) rfl rfl) (VSrc.own (tv (T.os 1 4 0 1) rfl) rfl rfl Zt (bc (bc rfl bn) bn)) (by decide) Zt Za (by decide) zo3 rfl (of_decide_eq_true (by kernel_rfl)) (by (simp only [List.length_map,List.length_append,List.length_cons,List.length_nil,List.length_replicate,List.length_set,List.length_drop,List.length_take,Jn] at *;omega)) ((List.map_append (f:=Qa true) (l₁:=Z3 g c i) (l₂:= [((i:Nat):Int)])).symm)) (aO (T.os 1 5 0 (((Z3 g c i++ [((i:Nat):Int)]).map (Qa true)).length)) rfl (VRunO.nil (vinB.n (tn (VRun.region (mO (tN i) rfl (fO (QB (tv (tN i) rfl) (VEv.int .i64 1) (by omega)) ?_)))))))))))
   refine aO (tN (i+1)) rfl (VRunO.nil (tn ?_))
   have he2:(Z3 g c i++ [((i:Nat):Int)])=Z3 g c (i+1):=by rw [Qcx hx1,if_pos q1]
   refine ⟨(i+1:Nat),?_,?_,Wk.mk (fun k=>if k=2 then 5 else k) ?_ ?_ ?_⟩
   ·trivial
   ·omega
   ·exact (b2 (b2 (b2 (bc ⟨(congrArg (fun l_=>T.os 1 5 0 (List.map (Qa true) l_).length) he2),rfl⟩ (b2 (b2 bn))))))
   ·exact (b3 (b3 (bc ⟨(congrArg (fun l_=>some (Obj.rows 1 (List.map (Qa true) l_))) he2),(lb rfl),rfl⟩ bn)))
   ·exact nd rfl
  rw [QgF hx1] at fhc1
  have q1:¬inS g c x1:=fhc1
  refine sk (vinB.n (tn (VRun.region (mO (tN i) rfl (fO (QB (tv (tN i) rfl) (VEv.int .i64 1) (by omega)) (aO (tN (i+1)) rfl (VRunO.nil (tn ?_))))))))
  have he3:Z3 g c i=Z3 g c (i+1):=by rw [Qcx hx1,if_neg q1,List.append_nil]
  refine ⟨(i+1:Nat),?_,?_,Wk.mk (fun k=>k) ?_ ?_ ?_⟩
  ·trivial
  ·omega
  ·exact (b2 (b2 (b2 (bc ⟨(congrArg (fun l_=>T.os 1 2 0 (List.map (Qa true) l_).length) he3),rfl⟩ (b2 (b2 bn))))))
  ·exact (b3 (b3 (bc ⟨(congrArg (fun l_=>some (Obj.rows 1 (List.map (Qa true) l_))) he3),(lb rfl),rfl⟩ bn)))
  ·exact nd rfl
 refine VRun.exit (vthn.e (vthn.e (vinB.e (tn (sr (mO (T.os 1 2 0 (((Z3 g c i).map (Qa true)).length)) rfl (aO (T.os 1 2 0 (((Z3 g c i).map (Qa true)).length)) rfl (nt (rt ?_)))))))))
 refine vfin.eq (r':=(T.sl true 1 ((Z3 g c i).map (Qa true)))) ?_ (vfin.r (VRes.tmp (t:=(T.os 1 2 0 (((Z3 g c i).map (Qa true)).length))) rfl VRes.nil) (Give.os rfl rfl (okInt.cleanMap _)))
 show (T.sl true 1 ((Z3 g c i).map (Qa true)))=(T.sl true 1 ((Z3 g c (Qb g).length).map (Qa true)))
 refine congrArg (fun l_=>T.sl true 1 (List.map (Qa true) l_)) ?_
 rw [show i=(Qb g).length from by omega]
noncomputable section
theorem QeR {g:D.Grid} {i:Nat} {x:List Int} (h:(QD g)[i]? =some x):∃s,(Qb g)[i]? =some s∧x=Qi g s s.Length.toNat:=by
 unfold QD at h
 rw [List.getElem?_map] at h
 obtain ⟨s,h1,h2⟩:=Option.map_eq_some_iff.1 h
 exact ⟨s,h1,h2.symm⟩
theorem QcE {g:D.Grid} {s:D.Slot} {i:Nat} (h:(Qb g)[i]? =some s):(Qi g s s.Length.toNat).length≤6:=by
 rw [JR]
 have:=(QaA (List.mem_of_getElem? h)).2.2.2
 omega
end
theorem QeG (n:Nat) (g:D.Grid) (c:Int) (hc:g.Cells.size≤maxLen):Pure (Qq Tryz.prog (n+5)) 186 [(T.agg (Qc false g)),(tI c)] (T.sl true 1 ((Z3 g c (Qb g).length).map (Qa true))):=by
 refine Pure.intro (rs:= [ResultVar.tmp 4]) Tryz.func186 rfl rfl rfl (E0:= [(0,(T.agg (Qc false g))),(1,(tI c))]) rfl ?_
 obtain ⟨hlim,hmx,hmax⟩:=QG
 have hsl:=Zn g
 have hll:=QaB g
 refine sr (kO (B.box (ts:=(Qc false g)) (tv (T.agg (Qc false g)) rfl) nofun rfl) (fO (OF.assign VEv.nils) (nt (sr (fO (OF.assign VEv.nils) (nt (sq (sr (lO (OL.loadOn (us:=(Qc false g)) (tv (T.op 0 0) rfl) rfl Q1 QT (lb rfl) rfl) (cO (OC.callF (us:= [(T.agg (Qc false g))]) (r:=(T.sl true 1 ((QD g).map ((YG 1 Qa) true)))) (r':=(T.os 1 1 0 (((QD g).map ((YG 1 Qa) true)).length))) (objs:= [(Obj.rows 1 ((QD g).map ((YG 1 Qa) true)))]) rfl (vc (tv (T.agg (Qc false g)) rfl) vn) (LendL.cons (lg Qt) ln) (Jf (n+0) g (by assumption)) rfl) (lO (B.lenO (m:=(QD g).length) (tv (T.os 1 1 0 (((QD g).map ((YG 1 Qa) true)).length)) rfl) Qew (List.length_map ..)) ?_)))))))))))
 refine fO (OF.move (VEv.int .i64 0)) (nt (VRun.block (VRun.wk (Wk.freeze (sz:=1) (k:=1) (rows':=((QD g).map ((YG 1 Qa) false))) [9] (bc rfl bn) rfl rfl ((QjU okInt).fzMap _ _)) (VRun.wk (Wk.phantom 5 1 rfl) ?_))))
 have he1: []=((Z3 g c 0).map (Qa true)):=by rfl
 refine VRun.loop (A:=Nat) (fun s_=> [(1,(tI c)),(4,T.nils),(5,(T.os 1 0 0 (((Z3 g c s_).map (Qa true)).length))),(9,(rd 1 (YG 1 Qa) (QD g))),(10,(tN ((QD g).length))),(11,(tN s_))]) (fun s_=>Q4 [(0,(Obj.rows 1 ((Z3 g c s_).map (Qa true))))]) 1 (fun s_=>s_≤(QD g).length) (fun s_=>(QD g).length - s_) (0:Nat) ?_ (Wk.mk (fun k=>if k=0 then 2 else k) ?_ ?_ ?_) ?_
 ·(simp;done)
 ·exact (b2 (b2 (bc ⟨(congrArg (fun n_=>T.os 1 2 0 n_) (show 0=((Z3 g c 0).map (Qa true)).length from (by rfl))),rfl⟩ (b2 (b2 (b2 bn))))))
 ·exact (bc ⟨(congrArg (fun l_=>some (Obj.rows 1 l_)) he1),(lb rfl),rfl⟩ bn)
 ·exact nd rfl
 rintro i (hI':i≤(QD g).length)
 show VRun _ _ _ [(1,(tI c)),(4,T.nils),(5,(T.os 1 0 0 (((Z3 g c i).map (Qa true)).length))),(9,(rd 1 (YG 1 Qa) (QD g))),(10,(tN ((QD g).length))),(11,(tN i))] (Q4 [(0,(Obj.rows 1 ((Z3 g c i).map (Qa true))))]) 1 _
 have hI1:=hI'
 have hal:=Qiw g c i
 refine sr (fO (Ze (tv (tN i) rfl) (tv (tN ((QD g).length)) rfl)) (nt (sq ?_)))
 refine cd (i<(QD g).length) rfl (fun fhc0=> ?_) fun fhc0=> ?_
 ·refine sk ?_
  refine tn (sq (VRun.block (sr (mO (tN i) rfl ?_))))
  obtain ⟨x1,hx1⟩:∃x,(QD g)[i]? =some x:=⟨_,List.getElem?_eq_getElem (by omega)⟩
  obtain ⟨y1,hy1,hq1⟩:=QeR hx1
  refine fO (OF.indexAddrR (row:=((YG 1 Qa) false x1)) (i:=i) (tv (rd 1 (YG 1 Qa) (QD g)) rfl) (tv (tN i) rfl) rfl (Qu _ hx1) Qew Qbd QcG) (lO (OL.loadR1 (t:=(rd 1 Qa x1)) (tv (T.rp [(rd 1 Qa x1)]) rfl) rfl Y0) (aO (tN i) rfl (aO (rd 1 Qa x1) rfl (nt (sr (mO (rd 1 Qa x1) rfl (mO (tI c) rfl (cO (cS (vc (tv (rd 1 Qa x1) rfl) (vc (tv (tI c) rfl) vn)) (ZO rfl) (JG (n+2) x1 c (by (rw [hq1];exact Nat.le_trans (QcE hy1) (by decide)))) rfl rfl) (nt ?_)))))))))
  refine cd (c∈x1) rfl (fun fhc1=> ?_) fun fhc1=> ?_
  ·have q1:inS g c y1:=by rw [inS,← hq1];exact fhc1
   refine VRun.region (mO (T.os 1 0 0 (((Z3 g c i).map (Qa true)).length)) rfl (mO (tN i) rfl (kO (OM.buildSlice (l:= [(tN i)]) (VEvp.cons (tv (tN i) rfl) VEvp.nil) rfl (by decide) (bc (nofun) bn) (bc ((bc (rfl) bn)) bn) (bc (rfl) bn) Zt zo3 (by kernel_rfl) rfl (by rw [Za];decide) Za (Nat.le_of_ble_eq_true rfl)) (cO (B.append (rows:=((Z3 g c i).map (Qa true))) (rows2:= [[(tN i)]]) (rows3:=((Z3 g c i++ [((i:Nat):Int)]).map (Qa true))) (VDst.own (tv (T.os 1 0 0 (((Z3 g c i).map (Qa true)).length)) rfl) rfl rfl) (VSrc.own (tv (T.os 1 1 0 1) rfl) rfl rfl Zt (bc (bc rfl bn) bn)) (by decide) Zt Za (by decide) zo3 rfl (of_decide_eq_true (by kernel_rfl)) (by (simp only [List.length_map,List.length_append,List.length_cons,List.length_nil,List.length_replicate,List.length_set,List.length_drop,List.length_take,Jn] at *;omega)) ((List.map_append (f:=Qa true) (l₁:=Z3 g c i) (l₂:= [((i:Nat):Int)])).symm)) (aO (T.os 1 2 0 (((Z3 g c i++ [((i:Nat):Int)]).map (Qa true)).length)) rfl (VRunO.nil (vinB.n (tn (VRun.region (fO (QB (tv (tN i) rfl) (VEv.int .i64 1) (by omega)) (mO (tN (i+1)) rfl ?_)))))))))))
   refine VRunO.nil (tn ?_)
   have he2:(Z3 g c i++ [((i:Nat):Int)])=Z3 g c (i+1):=by rw [Qcx hy1,if_pos q1]
   refine ⟨(i+1:Nat),?_,?_,Wk.mk (fun k=>if k=0 then 2 else k) ?_ ?_ ?_⟩
   ·trivial
   ·omega
   ·exact (b2 (b2 (bc ⟨(congrArg (fun l_=>T.os 1 2 0 (List.map (Qa true) l_).length) he2),rfl⟩ (b2 (b2 (b2 bn))))))
   ·exact (bc ⟨(congrArg (fun l_=>some (Obj.rows 1 (List.map (Qa true) l_))) he2),(lb rfl),rfl⟩ bn)
   ·exact nd rfl
  have q1:¬inS g c y1:=by rw [inS,← hq1];exact fhc1
  refine sk (vinB.n (tn (VRun.region (fO (QB (tv (tN i) rfl) (VEv.int .i64 1) (by omega)) (mO (tN (i+1)) rfl (VRunO.nil (tn ?_)))))))
  have he3:Z3 g c i=Z3 g c (i+1):=by rw [Qcx hy1,if_neg q1,List.append_nil]
  refine ⟨(i+1:Nat),?_,?_,Wk.mk (fun k=>k) ?_ ?_ ?_⟩
  ·trivial
  ·omega
  ·exact (b2 (b2 (bc ⟨(congrArg (fun l_=>T.os 1 0 0 (List.map (Qa true) l_).length) he3),rfl⟩ (b2 (b2 (b2 bn))))))
  ·exact (bc ⟨(congrArg (fun l_=>some (Obj.rows 1 (List.map (Qa true) l_))) he3),(lb rfl),rfl⟩ bn)
  ·exact nd rfl
 refine VRun.exit (vthn.e (vthn.e (vinB.e (tn (sr (mO (T.os 1 0 0 (((Z3 g c i).map (Qa true)).length)) rfl (aO (T.os 1 0 0 (((Z3 g c i).map (Qa true)).length)) rfl (nt (rt ?_)))))))))
 refine vfin.eq (r':=(T.sl true 1 ((Z3 g c i).map (Qa true)))) ?_ (vfin.r (VRes.tmp (t:=(T.os 1 0 0 (((Z3 g c i).map (Qa true)).length))) rfl VRes.nil) (Give.os rfl rfl (okInt.cleanMap _)))
 show (T.sl true 1 ((Z3 g c i).map (Qa true)))=(T.sl true 1 ((Z3 g c (Qb g).length).map (Qa true)))
 refine congrArg (fun l_=>T.sl true 1 (List.map (Qa true) l_)) ?_
 rw [show i=(Qb g).length from by omega]
noncomputable section
def chk (g:D.Grid) (c:Int):Prop:=(Z3 g c (Qb g).length).length=2
instance (g:D.Grid) (c:Int):Decidable (chk g c):=Classical.propDecidable _
end
theorem Qc7 (n:Nat) (g:D.Grid) (c:Int) (hc:g.Cells.size≤maxLen):Pure (Qq Tryz.prog (n+6)) 183 [(T.agg (Qc false g)),(tI c)] (tB (decide (chk g c))):=by
 refine Pure.intro (rs:= [ResultVar.tmp 4]) Tryz.func183 rfl rfl rfl (E0:= [(0,(T.agg (Qc false g))),(1,(tI c))]) rfl ?_
 obtain ⟨hlim,hmx,hmax⟩:=QG
 refine sr (kO (B.box (ts:=(Qc false g)) (tv (T.agg (Qc false g)) rfl) nofun rfl) (fO (OF.assign (VEv.bool false)) (nt (sr (lO (OL.loadOn (us:=(Qc false g)) (tv (T.op 0 0) rfl) rfl Q1 QT (lb rfl) rfl) (mO (tI c) rfl (cO (OC.callF (us:= [(T.agg (Qc false g)),(tI c)]) (r:=(T.sl true 1 ((Z3 g c (Qb g).length).map (Qa true)))) (r':=(T.os 1 1 0 (((Z3 g c (Qb g).length).map (Qa true)).length))) (objs:= [(Obj.rows 1 ((Z3 g c (Qb g).length).map (Qa true)))]) rfl (vc (tv (T.agg (Qc false g)) rfl) (vc (tv (tI c) rfl) vn)) (LendL.cons (lg Qt) (lp rfl ln)) (Qbi (n+0) g c (by assumption)) rfl) (lO (B.lenO (m:=(Z3 g c (Qb g).length).length) (tv (T.os 1 1 0 (((Z3 g c (Qb g).length).map (Qa true)).length)) rfl) Zt (List.length_map ..)) (fO (B.eql (c:=(decide ((Z3 g c (Qb g).length).length=2))) (tv (tN ((Z3 g c (Qb g).length).length)) rfl) (VEv.int .i64 2) (Q9 (by omega))) (aO (tB (decide ((Z3 g c (Qb g).length).length=2))) rfl (nt ?_)))))))))))
 refine rt (vb (b':=(decide ((Z3 g c (Qb g).length).length=2))) rfl ?_)
 exact Q9 Iff.rfl
theorem Qdt (n:Nat) (g:D.Grid) (c:Int) (hc:g.Cells.size≤maxLen):Pure (Qq Tryz.prog (n+6)) 162 [(T.agg (Qc false g)),(tI c)] (tB (decide (chk g c))):=by
 refine Pure.intro (rs:= [ResultVar.tmp 4]) Tryz.func162 rfl rfl rfl (E0:= [(0,(T.agg (Qc false g))),(1,(tI c))]) rfl ?_
 obtain ⟨hlim,hmx,hmax⟩:=QG
 refine sr (kO (B.box (ts:=(Qc false g)) (tv (T.agg (Qc false g)) rfl) nofun rfl) (fO (OF.assign (VEv.bool false)) (nt (sr (lO (OL.loadOn (us:=(Qc false g)) (tv (T.op 0 0) rfl) rfl Q1 QT (lb rfl) rfl) (mO (tI c) rfl (cO (OC.callF (us:= [(T.agg (Qc false g)),(tI c)]) (r:=(T.sl true 1 ((Z3 g c (Qb g).length).map (Qa true)))) (r':=(T.os 1 1 0 (((Z3 g c (Qb g).length).map (Qa true)).length))) (objs:= [(Obj.rows 1 ((Z3 g c (Qb g).length).map (Qa true)))]) rfl (vc (tv (T.agg (Qc false g)) rfl) (vc (tv (tI c) rfl) vn)) (LendL.cons (lg Qt) (lp rfl ln)) (QeG (n+0) g c (by assumption)) rfl) (lO (B.lenO (m:=(Z3 g c (Qb g).length).length) (tv (T.os 1 1 0 (((Z3 g c (Qb g).length).map (Qa true)).length)) rfl) Zt (List.length_map ..)) (fO (B.eql (c:=(decide ((Z3 g c (Qb g).length).length=2))) (tv (tN ((Z3 g c (Qb g).length).length)) rfl) (VEv.int .i64 2) (Q9 (by omega))) (aO (tB (decide ((Z3 g c (Qb g).length).length=2))) rfl (nt ?_)))))))))))
 refine rt (vb (b':=(decide ((Z3 g c (Qb g).length).length=2))) rfl ?_)
 exact Q9 Iff.rfl
end Go.Proofs.YtcccmceoplcciaaGreat.AE
namespace Go.Proofs.YtcccmceoplcciaaGreat.AE
open Go Go.RowKit
set_option linter.unusedVariables false
set_option linter.unusedSimpArgs false
set_option maxRecDepth 20000
set_option maxHeartbeats 2000000
noncomputable section
def nUn (g:D.Grid) (l:List Int):Nat:=(l.filter fun c=> !decide (chk g c)).length
theorem QhL (g:D.Grid) (l:List Int):nUn g l≤l.length:=List.length_filter_le _ _
theorem Qck {g:D.Grid} {l:List Int} {i:Nat} {x:Int} (h:l[i]? =some x):nUn g (l.take (i+1))=nUn g (l.take i)+(if chk g x then 0 else 1):=by
 unfold nUn
 rw [List.take_add_one,h,List.filter_append,List.length_append]
 by_cases hc:chk g x<;>simp [hc]
def unG (g:D.Grid) (slot:Int):Int:=if 0≤slot then (match (Qb g)[slot.toNat]? with | some s=>((nUn g (Qi g s s.Length.toNat):Nat):Int) | none=> -1) else -1
theorem QkP {g:D.Grid} {slot:Int} (h:¬(0≤slot∧slot<(((Qb g).length:Nat):Int))):unG g slot= -1:=by
 unfold unG
 by_cases h1:0≤slot
 ·rw [if_pos h1,List.getElem?_eq_none (by omega)]
 ·rw [if_neg h1]
theorem QkJ {g:D.Grid} {slot:Int} {s:D.Slot} (h1:0≤slot) (h:(Qb g)[slot.toNat]? =some s):unG g slot=((nUn g (Qi g s s.Length.toNat):Nat):Int):=by
 unfold unG
 rw [if_pos h1,h]
theorem Qbh {α:Type} {l:List α} {i:Nat} (h1:i≤l.length) (h2:¬i<l.length):l.take i=l:=List.take_of_length_le (by omega)
theorem Jh {α:Type} (l:List α) (i:Nat):(l.take i).length≤i:=by rw [List.length_take];omega
end
theorem Qcb (n:Nat) (g:D.Grid) (slot:Int) (hc:g.Cells.size≤maxLen):Pure (Qq Tryz.prog (n+7)) 158 [(T.agg (Qc false g)),(tI slot)] (tI (unG g slot)):=by
 refine Pure.intro (rs:= [ResultVar.tmp 4]) Tryz.func158 rfl rfl rfl (E0:= [(0,(T.agg (Qc false g))),(1,(tI slot))]) rfl ?_
 obtain ⟨hlim,hmx,hmax⟩:=QG
 have hsl:=Zn g
 refine sr (kO (B.box (ts:=(Qc false g)) (tv (T.agg (Qc false g)) rfl) nofun rfl) (fO (OF.assign (VEv.int .i64 0)) (nt (sr (lO (OL.loadOn (us:=(Qc false g)) (tv (T.op 0 0) rfl) rfl Q1 QT (lb rfl) rfl) (cO (OC.callF (us:= [(T.agg (Qc false g))]) (r:=(T.sl true 4 ((Qb g).map (Qg true)))) (r':=(T.os 4 1 0 (((Qb g).map (Qg true)).length))) (objs:= [(Obj.rows 4 ((Qb g).map (Qg true)))]) rfl (vc (tv (T.agg (Qc false g)) rfl) vn) (LendL.cons (lg Qt) ln) (ZJ (n+3) g (by assumption)) rfl) (aO (T.os 4 1 0 (((Qb g).map (Qg true)).length)) rfl (nt (sq (sr (mO (tI slot) rfl ?_)))))))))))
 refine mO (T.os 4 1 0 (((Qb g).map (Qg true)).length)) rfl (lO (B.lenO (m:=(Qb g).length) (tv (T.os 4 1 0 (((Qb g).map (Qg true)).length)) rfl) Z7 (List.length_map ..)) (fO (B.sub (n:=((((Qb g).length:Nat):Int) - 1)) (tv (tN ((Qb g).length)) rfl) (VEv.int .i64 1) (by (rw [Qv (by omega)];done))) (cO (cS (vc (tv (tI slot) rfl) (vc (VEv.int .i64 0) (vc (tv (tI ((((Qb g).length:Nat):Int) - 1)) rfl) vn))) (ZO rfl) (QN (n+5) slot 0 ((((Qb g).length:Nat):Int) - 1)) rfl rfl) (fO (QS (tv (tB (decide (0≤slot∧slot≤((((Qb g).length:Nat):Int) - 1)))) rfl)) (nt ?_)))))
 refine cn (0≤slot∧slot≤((((Qb g).length:Nat):Int) - 1)) rfl (fun fhc0=> ?_) fun fhc0=> ?_
 ·refine sr ?_
  refine fO (OF.assign (VEv.int .i64 (-1))) (nt (rt (tr (vi (n':=(-1)) rfl ?_))))
  exact (QkP (by omega)).symm
 have hs0:0≤slot:=by omega
 refine sk (tn (sq (VRun.draw (B:= [[],[],[],[2,1],[1,2,3],[3,2,1,4,0],[0,4,1,2,3,5]]) (by kernel_rfl) (by kernel_rfl) (lD (OL.loadOn (us:=(Qc false g)) (tv (T.op 0 0) rfl) rfl Q1 QT (lb rfl) rfl) rfl rfl (mD (T.os 4 1 0 (((Qb g).map (Qg true)).length)) rfl rfl (mD (tI slot) rfl rfl ?_))))))
 obtain ⟨x1,hx1⟩:∃x,(Qb g)[(Int.toNat slot)]? =some x:=⟨_,List.getElem?_eq_getElem (by omega)⟩
 refine fD (B.indexAddrO (i:=(Int.toNat slot)) (tv (T.os 4 1 0 (((Qb g).map (Qg true)).length)) rfl) (tv (tI slot) rfl) (by omega) (by (simp only [List.length_map];omega)) Z7 Zb QaX) rfl rfl (lD (OL.loadPn (us:=(Qg false x1)) (row:=(Qg true x1)) (tv (T.orp 4 1 (Int.toNat slot) 0) rfl) rfl (Qu _ hx1) QcD Zb (lb rfl) rfl (bc rfl (bc rfl (bc rfl (bc rfl bn))))) rfl rfl (VRunD.quiet (bi:= [3,2,1,4,0]) rfl VWant.always rfl rfl rfl bn (OC.callF (us:= [(T.agg (Qc false g)),(T.agg (Qg false x1))]) (r:=(T.sl true 1 ((if x1∈Qb g then Qi g x1 x1.Length.toNat else []).map (Qa true)))) (r':=(T.os 1 2 0 (((if x1∈Qb g then Qi g x1 x1.Length.toNat else []).map (Qa true)).length))) (objs:= [(Obj.rows 1 ((if x1∈Qb g then Qi g x1 x1.Length.toNat else []).map (Qa true)))]) rfl (vc (tv (T.agg (Qc false g)) rfl) (vc (tv (T.agg (Qg false x1)) rfl) vn)) (LendL.cons (lg Qt) (LendL.cons (lg okeSlot) ln)) (JB (n+2) g x1 (by assumption)) rfl) (fD (OF.assign (tv (T.os 1 2 0 (((if x1∈Qb g then Qi g x1 x1.Length.toNat else []).map (Qa true)).length)) rfl)) rfl rfl (VRunD.nil (tn (sr (fO (OF.assign (VEv.int .i64 0)) (nt (sq (sr (fO (OF.assign (VEv.int .i64 0)) ?_)))))))))))
 refine nt (VRun.block ?_)
 refine VRun.loop (A:=Nat×Nat) (fun s_=> [(2,(T.op 0 0)),(4,(tN 0)),(6,(T.os 1 1 0 (((if x1∈Qb g then Qi g x1 x1.Length.toNat else []).map (Qa true)).length))),(7,(tN s_.2)),(8,(tN s_.1))]) (fun s_=>Q4 [(0,(Obj.cells (Qc false g))),(1,(Obj.rows 1 ((if x1∈Qb g then Qi g x1 x1.Length.toNat else []).map (Qa true))))]) 2 (fun s_=>s_.1≤(if x1∈Qb g then Qi g x1 x1.Length.toNat else []).length∧s_.2=nUn g ((if x1∈Qb g then Qi g x1 x1.Length.toNat else []).take s_.1)) (fun s_=>(if x1∈Qb g then Qi g x1 x1.Length.toNat else []).length - s_.1) ((0,0):Nat×Nat) ?_ (Wk.mk (fun k=>if k=1 then 2 else k) ?_ ?_ ?_) ?_
 ·exact ⟨Nat.zero_le _,rfl⟩
 ·exact (b2 (b2 (b2 (b2 (b2 bn)))))
 ·exact (b3 (b3 bn))
 ·exact nd rfl
 rintro ⟨i,m⟩ (hI':i≤(if x1∈Qb g then Qi g x1 x1.Length.toNat else []).length∧m=nUn g ((if x1∈Qb g then Qi g x1 x1.Length.toNat else []).take i))
 show VRun _ _ _ [(2,(T.op 0 0)),(4,(tN 0)),(6,(T.os 1 1 0 (((if x1∈Qb g then Qi g x1 x1.Length.toNat else []).map (Qa true)).length))),(7,(tN m)),(8,(tN i))] (Q4 [(0,(Obj.cells (Qc false g))),(1,(Obj.rows 1 ((if x1∈Qb g then Qi g x1 x1.Length.toNat else []).map (Qa true))))]) 2 _
 have hI1:=hI'.1
 have hl6:=Qgx g x1
 have hn6:=QhL g ((if x1∈Qb g then Qi g x1 x1.Length.toNat else []).take i)
 have ht6:=Jh (if x1∈Qb g then Qi g x1 x1.Length.toNat else []) i
 have hI2:=hI'.2
 refine sq (sr (mO (tN i) rfl (mO (T.os 1 1 0 (((if x1∈Qb g then Qi g x1 x1.Length.toNat else []).map (Qa true)).length)) rfl (lO (B.lenO (m:=(if x1∈Qb g then Qi g x1 x1.Length.toNat else []).length) (tv (T.os 1 1 0 (((if x1∈Qb g then Qi g x1 x1.Length.toNat else []).map (Qa true)).length)) rfl) Zt (List.length_map ..)) (fO (Ze (tv (tN i) rfl) (tv (tN ((if x1∈Qb g then Qi g x1 x1.Length.toNat else []).length)) rfl)) (nt ?_))))))
 refine cd (i<(if x1∈Qb g then Qi g x1 x1.Length.toNat else []).length) rfl (fun fhc1=> ?_) fun fhc1=> ?_
 ·refine sk ?_
  refine tn (sq (VRun.block (sq (VRun.draw (B:= [[],[],[],[2,1],[1,2,3],[3,2,1,4,0],[0,4,1,2,3,5]]) (by kernel_rfl) (by kernel_rfl) (lD (OL.loadOn (us:=(Qc false g)) (tv (T.op 0 0) rfl) rfl Q1 QT (lb rfl) rfl) rfl rfl (mD (T.os 1 1 0 (((if x1∈Qb g then Qi g x1 x1.Length.toNat else []).map (Qa true)).length)) rfl rfl (mD (tN i) rfl rfl ?_)))))))
  obtain ⟨x2,hx2⟩:∃x,(if x1∈Qb g then Qi g x1 x1.Length.toNat else [])[i]? =some x:=⟨_,List.getElem?_eq_getElem (by omega)⟩
  refine fD (B.indexAddrO (i:=i) (tv (T.os 1 1 0 (((if x1∈Qb g then Qi g x1 x1.Length.toNat else []).map (Qa true)).length)) rfl) (tv (tN i) rfl) rfl (by (simp only [List.length_map];omega)) Zt Za Yl) rfl rfl (lD (OL.loadP1 (t:=(tI x2)) (row:=(Qa true x2)) (tv (T.orp 1 1 i 0) rfl) rfl (Qu _ hx2) rfl rfl QU) rfl rfl (VRunD.quiet (bi:= [3,2,1,4,0]) rfl VWant.always rfl rfl rfl bn (cS (vc (tv (T.agg (Qc false g)) rfl) (vc (tv (tI x2) rfl) vn)) (LendL.cons (lg Qt) (lp rfl ln)) (Qc7 (n+0) g x2 (by assumption)) rfl rfl) (fD (QS (tv (tB (decide (chk g x2))) rfl)) rfl rfl (VRunD.nil (tn ?_)))))
  refine cn (chk g x2) rfl (fun fhc2=> ?_) fun fhc2=> ?_
  ·refine VRun.region ?_
   refine mO (tN m) rfl (fO (QB (tv (tN m) rfl) (VEv.int .i64 1) (by omega)) (aO (tN (m+1)) rfl (VRunO.nil (vinB.n (tn (VRun.region (mO (tN i) rfl (fO (QB (tv (tN i) rfl) (VEv.int .i64 1) (by omega)) (aO (tN (i+1)) rfl (VRunO.nil (tn ?_)))))))))))
   refine ⟨((i+1,m+(if chk g x2 then 0 else 1)):Nat×Nat),?_,?_,Wk.mk (fun k=>k) ?_ ?_ ?_⟩
   ·exact ⟨by omega,by rw [Qck hx2,← hI2]⟩
   ·omega
   ·exact (b2 (b2 (b2 (bc ⟨(congrArg (T.int .i64) (show (((m+1):Nat):Int)=(((m+(if chk g x2 then 0 else 1)):Nat):Int) from (by (rw [if_neg fhc2];done)))),rfl⟩ (b2 bn)))))
   ·exact (b3 (b3 bn))
   ·exact nd rfl
  refine sk (vinB.n (tn (VRun.region (mO (tN i) rfl (fO (QB (tv (tN i) rfl) (VEv.int .i64 1) (by omega)) (aO (tN (i+1)) rfl (VRunO.nil (tn ?_))))))))
  refine ⟨((i+1,m+(if chk g x2 then 0 else 1)):Nat×Nat),?_,?_,Wk.mk (fun k=>k) ?_ ?_ ?_⟩
  ·exact ⟨by omega,by rw [Qck hx2,← hI2]⟩
  ·omega
  ·exact (b2 (b2 (b2 (bc ⟨(congrArg (T.int .i64) (show ((m:Nat):Int)=(((m+(if chk g x2 then 0 else 1)):Nat):Int) from (by (rw [if_pos fhc2];omega)))),rfl⟩ (b2 bn)))))
  ·exact (b3 (b3 bn))
  ·exact nd rfl
 refine VRun.exit (vthn.e (vthn.e (vinB.e (tn (sr (mO (tN m) rfl (aO (tN m) rfl (nt (rt (vi (n':=((m:Nat):Int)) rfl ?_))))))))))
 rw [QkJ hs0 hx1,hI2,Qbh hI1 fhc1,QgF hx1]
theorem Qb9 (n:Nat) (g:D.Grid) (slot:Int) (hc:g.Cells.size≤maxLen):Pure (Qq Tryz.prog (n+7)) 138 [(T.agg (Qc false g)),(tI slot)] (tI (unG g slot)):=by
 refine Pure.intro (rs:= [ResultVar.tmp 4]) Tryz.func138 rfl rfl rfl (E0:= [(0,(T.agg (Qc false g))),(1,(tI slot))]) rfl ?_
 obtain ⟨hlim,hmx,hmax⟩:=QG
 have hsl:=Zn g
 have hll:=QaB g
 refine sr (kO (B.box (ts:=(Qc false g)) (tv (T.agg (Qc false g)) rfl) nofun rfl) (fO (OF.assign (VEv.int .i64 0)) (nt (sr (lO (OL.loadOn (us:=(Qc false g)) (tv (T.op 0 0) rfl) rfl Q1 QT (lb rfl) rfl) (cO (OC.callF (us:= [(T.agg (Qc false g))]) (r:=(T.sl true 1 ((QD g).map ((YG 1 Qa) true)))) (r':=(T.os 1 1 0 (((QD g).map ((YG 1 Qa) true)).length))) (objs:= [(Obj.rows 1 ((QD g).map ((YG 1 Qa) true)))]) rfl (vc (tv (T.agg (Qc false g)) rfl) vn) (LendL.cons (lg Qt) ln) (Jf (n+2) g (by assumption)) rfl) (aO (T.os 1 1 0 (((QD g).map ((YG 1 Qa) true)).length)) rfl (nt (sq (sr (mO (tI slot) rfl ?_)))))))))))
 refine mO (T.os 1 1 0 (((QD g).map ((YG 1 Qa) true)).length)) rfl (lO (B.lenO (m:=(QD g).length) (tv (T.os 1 1 0 (((QD g).map ((YG 1 Qa) true)).length)) rfl) Qew (List.length_map ..)) (cO (cS (vc (tv (tI slot) rfl) (vc (tv (tN ((QD g).length)) rfl) vn)) (ZO rfl) (Yt (n+5) slot (((QD g).length:Nat):Int)) rfl rfl) (fO (QS (tv (tB (decide (0≤slot∧slot<(((QD g).length:Nat):Int)))) rfl)) (nt ?_))))
 refine cn (0≤slot∧slot<(((QD g).length:Nat):Int)) rfl (fun fhc0=> ?_) fun fhc0=> ?_
 ·refine sr ?_
  refine fO (OF.assign (VEv.int .i64 (-1))) (nt (rt (tr (vi (n':=(-1)) rfl ?_))))
  exact (QkP (by omega)).symm
 refine sk (tn (sr (fO (OF.assign (VEv.int .i64 0)) (nt (sq (VRun.wk (Wk.freeze (sz:=1) (k:=1) (rows':=((QD g).map ((YG 1 Qa) false))) [5,10,12] (bc rfl (bc rfl (bc rfl bn))) rfl rfl ((QjU okInt).fzMap _ _)) ?_))))))
 have hs0:0≤slot:=by omega
 refine sr (mO (rd 1 (YG 1 Qa) (QD g)) rfl (mO (tI slot) rfl ?_))
 obtain ⟨x1,hx1⟩:∃x,(QD g)[(Int.toNat slot)]? =some x:=⟨_,List.getElem?_eq_getElem (by omega)⟩
 obtain ⟨y1,hy1,hq1⟩:=QeR hx1
 refine fO (OF.indexAddrR (row:=((YG 1 Qa) false x1)) (i:=(Int.toNat slot)) (tv (rd 1 (YG 1 Qa) (QD g)) rfl) (tv (tI slot) rfl) (by omega) (Qu _ hx1) Qew Qbd QcG) (lO (OL.loadR1 (t:=(rd 1 Qa x1)) (tv (T.rp [(rd 1 Qa x1)]) rfl) rfl Y0) (lO (B.lenR (m:=x1.length) (tv (rd 1 Qa x1) rfl) Zt (List.length_map ..)) (fO (OF.move (VEv.int .i64 0)) (nt (VRun.block ?_)))))
 refine VRun.loop (A:=Nat×Nat) (fun s_=> [(2,(T.op 0 0)),(4,(tN 0)),(6,(tN s_.2)),(19,(rd 1 Qa x1)),(20,(tN x1.length)),(21,(tN s_.1))]) (fun s_=>Q4 [(0,(Obj.cells (Qc false g)))]) 1 (fun s_=>s_.1≤x1.length∧s_.2=nUn g (x1.take s_.1)) (fun s_=>x1.length - s_.1) ((0,0):Nat×Nat) ?_ (Wk.mk (fun k=>k) ?_ ?_ ?_) ?_
 ·exact ⟨Nat.zero_le _,rfl⟩
 ·exact (b2 (b2 (b2 (b2 (b2 (b2 bn))))))
 ·exact (b3 bn)
 ·exact nd rfl
 rintro ⟨i,m⟩ (hI':i≤x1.length∧m=nUn g (x1.take i))
 show VRun _ _ _ [(2,(T.op 0 0)),(4,(tN 0)),(6,(tN m)),(19,(rd 1 Qa x1)),(20,(tN x1.length)),(21,(tN i))] (Q4 [(0,(Obj.cells (Qc false g)))]) 1 _
 have hI1:=hI'.1
 have hl6:=QcE hy1
 rw [← hq1] at hl6
 have hn6:=QhL g (x1.take i)
 have ht6:=Jh x1 i
 have hI2:=hI'.2
 refine sr (fO (Ze (tv (tN i) rfl) (tv (tN x1.length) rfl)) (nt (sq ?_)))
 refine cd (i<x1.length) rfl (fun fhc1=> ?_) fun fhc1=> ?_
 ·refine sk ?_
  refine tn (sq (VRun.block (sr ?_)))
  obtain ⟨x2,hx2⟩:∃x,x1[i]? =some x:=⟨_,List.getElem?_eq_getElem (by omega)⟩
  skip
  refine fO (OF.indexAddrR (row:=(Qa false x2)) (i:=i) (tv (rd 1 Qa x1) rfl) (tv (tN i) rfl) rfl (Qu _ hx2) Zt Za Yl) (lO (OL.loadR1 (t:=(tI x2)) (tv (T.rp [(tI x2)]) rfl) rfl QU) (aO (tI x2) rfl (nt (sr (lO (OL.loadOn (us:=(Qc false g)) (tv (T.op 0 0) rfl) rfl Q1 QT (lb rfl) rfl) (mO (tI x2) rfl (cO (cS (vc (tv (T.agg (Qc false g)) rfl) (vc (tv (tI x2) rfl) vn)) (LendL.cons (lg Qt) (lp rfl ln)) (Qdt (n+0) g x2 (by assumption)) rfl rfl) (fO (QS (tv (tB (decide (chk g x2))) rfl)) (nt ?_)))))))))
  refine cn (chk g x2) rfl (fun fhc2=> ?_) fun fhc2=> ?_
  ·refine VRun.region ?_
   refine mO (tN m) rfl (fO (QB (tv (tN m) rfl) (VEv.int .i64 1) (by omega)) (aO (tN (m+1)) rfl (VRunO.nil (vinB.n (tn (VRun.region (fO (QB (tv (tN i) rfl) (VEv.int .i64 1) (by omega)) (mO (tN (i+1)) rfl (VRunO.nil (tn ?_))))))))))
   refine ⟨((i+1,m+(if chk g x2 then 0 else 1)):Nat×Nat),?_,?_,Wk.mk (fun k=>k) ?_ ?_ ?_⟩
   ·exact ⟨by omega,by rw [Qck hx2,← hI2]⟩
   ·omega
   ·exact (b2 (b2 (bc ⟨(congrArg (T.int .i64) (show (((m+1):Nat):Int)=(((m+(if chk g x2 then 0 else 1)):Nat):Int) from (by (rw [if_neg fhc2];done)))),rfl⟩ (b2 (b2 (b2 bn))))))
   ·exact (b3 bn)
   ·exact nd rfl
  refine sk (vinB.n (tn (VRun.region (fO (QB (tv (tN i) rfl) (VEv.int .i64 1) (by omega)) (mO (tN (i+1)) rfl (VRunO.nil (tn ?_)))))))
  refine ⟨((i+1,m+(if chk g x2 then 0 else 1)):Nat×Nat),?_,?_,Wk.mk (fun k=>k) ?_ ?_ ?_⟩
  ·exact ⟨by omega,by rw [Qck hx2,← hI2]⟩
  ·omega
  ·exact (b2 (b2 (bc ⟨(congrArg (T.int .i64) (show ((m:Nat):Int)=(((m+(if chk g x2 then 0 else 1)):Nat):Int) from (by (rw [if_pos fhc2];omega)))),rfl⟩ (b2 (b2 (b2 bn))))))
  ·exact (b3 bn)
  ·exact nd rfl
 refine VRun.exit (vthn.e (vthn.e (vinB.e (tn (sr (mO (tN m) rfl (aO (tN m) rfl (nt (rt (vi (n':=((m:Nat):Int)) rfl ?_))))))))))
 rw [QkJ hs0 hy1,hI2,Qbh hI1 fhc1,hq1]
end Go.Proofs.YtcccmceoplcciaaGreat.AE
namespace Go.Proofs.YtcccmceoplcciaaGreat.AE
open Go Go.RowKit
set_option linter.unusedVariables false
set_option linter.unusedSimpArgs false
set_option maxRecDepth 20000
set_option maxHeartbeats 2000000
noncomputable section
def Qd1 (g:D.Grid) (i:Nat) (s:D.Slot):Prop:=s.Length<2*unG g ((i:Nat):Int)
def Qiz (g:D.Grid) (c:Int):Prop:=∃s∈Qb g,inS g c s
def QaJ (g:D.Grid) (c:Nat):Prop:=Qs g.Cells c=46∧¬Qiz g ((c:Nat):Int)
def Qbc (g:D.Grid):Prop:=(∃i s,(Qb g)[i]? =some s∧Qd1 g i s)∨∃c,c<g.Cells.size∧gridOk g∧QaJ g c
instance (g:D.Grid):Decidable (Qbc g):=Classical.propDecidable _
theorem Qim (g:D.Grid) (c:Int):∀(l:List D.Slot) (n:Nat),(atL g c l n).length=0↔¬∃s∈l,inS g c s
 | [],n=>by simp [atL]
 | x::r,n=>by
  have:=Qim g c r (n+1)
  rw [atL,List.length_append]
  by_cases h:inS g c x
  ·rw [if_pos h];simp [h]
  ·rw [if_neg h,List.length_nil,Nat.zero_add,this];simp [h]
theorem atG_none {g:D.Grid} {c:Int}:(Z3 g c (Qb g).length).length=0↔¬Qiz g c:=by
 unfold Z3
 rw [List.take_length]
 exact Qim g c _ _
theorem QjY (g:D.Grid) (i:Int): -1≤unG g i∧unG g i≤6:=by
 unfold unG
 split
 ·split
  ·rename_i s hs
   have h1:=QhL g (Qi g s s.Length.toNat)
   have h2:=QcE hs
   omega
  ·omega
 ·omega
def NoBad (g:D.Grid) (i:Nat):Prop:=i≤(Qb g).length∧∀j s,j<i→(Qb g)[j]? =some s→¬Qd1 g j s
theorem NoBad.start (g:D.Grid):NoBad g 0:=⟨Nat.zero_le _,fun j s hj=>by omega⟩
theorem NoBad.next {g:D.Grid} {i:Nat} {s:D.Slot} (h:NoBad g i) (hx:(Qb g)[i]? =some s) (hn:¬Qd1 g i s):NoBad g (i+1):=by
 have:=(List.getElem?_eq_some_iff.1 hx).1
 refine ⟨by omega,fun j y hj hy=> ?_⟩
 rcases Nat.lt_or_ge j i with h1 | h1
 ·exact h.2 j y h1 hy
 ·obtain rfl:j=i:=by omega
  rw [hx] at hy
  exact Option.some.inj hy▸hn
theorem Qj8 {g:D.Grid} {i:Nat} (h:NoBad g i) (hi:¬i<(Qb g).length) (h2:∀c,c<g.Cells.size→¬(gridOk g∧QaJ g c)):¬Qbc g:=by
 rintro (⟨j,s,h3,h4⟩ | ⟨c,h3,h4⟩)
 ·have:=(List.getElem?_eq_some_iff.1 h3).1
  exact h.2 j s (by omega) h3 h4
 ·exact h2 c h3 h4
def mapOf (m:List (Int×Int)) (p:Int→Prop):Prop:=∀c,(p c→Qbj m c=1)∧(¬p c→Qbj m c=0)
def Qe8 (g:D.Grid) (i:Nat) (c:Int):Prop:=∃x∈(QD g).take i,c∈x
theorem Qjg (g:D.Grid) (c:Int):¬Qe8 g 0 c:=by rintro ⟨x,hx,_⟩;simp at hx
theorem Qjk {g:D.Grid} {i:Nat} {x:List Int} (h:(QD g)[i]? =some x) (c:Int):Qe8 g (i+1) c↔Qe8 g i c∨c∈x:=by
 unfold Qe8
 rw [List.take_add_one,h]
 constructor
 ·rintro ⟨y,hy,hc⟩
  rcases List.mem_append.1 hy with hy | hy
  ·exact .inl ⟨y,hy,hc⟩
  ·obtain rfl:=List.mem_singleton.1 hy
   exact .inr hc
 ·rintro (⟨y,hy,hc⟩ | hc)
  ·exact ⟨y,List.mem_append_left _ hy,hc⟩
  ·exact ⟨x,List.mem_append_right _ (by simp),hc⟩
theorem Qcw {g:D.Grid} {i:Nat} (h:¬i<(QD g).length) (c:Int):Qe8 g i c↔Qiz g c:=by
 unfold Qe8 Qiz
 rw [List.take_of_length_le (by omega)]
 unfold QD inS
 constructor
 ·rintro ⟨x,hx,hc⟩
  obtain ⟨s,hs,rfl⟩:=List.mem_map.1 hx
  exact ⟨s,hs,hc⟩
 ·rintro ⟨s,hs,hc⟩
  exact ⟨_,List.mem_map.2 ⟨s,hs,rfl⟩,hc⟩
theorem mapOf.congr {m:List (Int×Int)} {p q:Int→Prop} (h:mapOf m p) (e:∀c,p c↔q c):mapOf m q:=fun c=>by rw [← e c];exact h c
theorem mapOf.put {m:List (Int×Int)} {p:Int→Prop} {n:Int} (h:mapOf m p):mapOf (QbL m n 1) (fun c=>p c∨c=n):=fun c=>by
 rw [Qhp]
 by_cases e:c=n
 ·rw [if_pos e];exact ⟨fun _=>rfl,fun h2=>absurd (.inr e) h2⟩
 ·rw [if_neg e]
  exact ⟨fun h2=>(h c).1 (h2.resolve_right e),fun h2=>(h c).2 fun h3=>h2 (.inl h3)⟩
theorem Qfd {l:List Int} {i:Nat} {x:Int} (h:l[i]? =some x) (c:Int):c∈l.take (i+1)↔c∈l.take i∨c=x:=by
 rw [List.take_add_one,h]
 simp
def Qba (f:ByteArray) (c:Nat):Prop:=¬(97≤Qs f c∧Qs f c≤122)
def Qgb (g:D.Grid) (f:ByteArray):Prop:=∃c,c<g.Cells.size∧QaJ g c∧Qba f c
instance (g:D.Grid) (f:ByteArray):Decidable (Qgb g f):=Classical.propDecidable _
end
theorem QdL (n:Nat) (g:D.Grid) (hc:g.Cells.size≤maxLen):Pure (Qq Tryz.prog (n+8)) 135 [(T.agg (Qc false g))] (tB (decide (Qbc g))):=by
 refine Pure.intro (rs:= [ResultVar.tmp 2]) Tryz.func135 rfl rfl rfl (E0:= [(0,(T.agg (Qc false g)))]) rfl ?_
 obtain ⟨hlim,hmx,hmax⟩:=QG
 have hsl:=Zn g
 refine sr (kO (B.box (ts:=(Qc false g)) (tv (T.agg (Qc false g)) rfl) nofun rfl) (fO (OF.assign (VEv.bool false)) (nt (sr (lO (OL.loadOn (us:=(Qc false g)) (tv (T.op 0 0) rfl) rfl Q1 QT (lb rfl) rfl) (cO (OC.callF (us:= [(T.agg (Qc false g))]) (r:=(T.sl true 4 ((Qb g).map (Qg true)))) (r':=(T.os 4 1 0 (((Qb g).map (Qg true)).length))) (objs:= [(Obj.rows 4 ((Qb g).map (Qg true)))]) rfl (vc (tv (T.agg (Qc false g)) rfl) vn) (LendL.cons (lg Qt) ln) (ZJ (n+4) g (by assumption)) rfl) (aO (T.os 4 1 0 (((Qb g).map (Qg true)).length)) rfl (nt (sq (sr (fO (OF.assign (VEv.int .i64 0)) ?_)))))))))))
 refine nt (VRun.block ?_)
 refine VRun.loop (A:=Nat) (fun s_=> [(1,(T.op 0 0)),(3,(T.os 4 1 0 (((Qb g).map (Qg true)).length))),(4,(tN s_))]) (fun s_=>Q4 [(0,(Obj.cells (Qc false g))),(1,(Obj.rows 4 ((Qb g).map (Qg true))))]) 2 (fun s_=>NoBad g s_) (fun s_=>(Qb g).length - s_) (0:Nat) ?_ (Wk.mk (fun k=>k) ?_ ?_ ?_) ?_
 ·exact NoBad.start _
 ·exact (b2 (b2 (b2 bn)))
 ·exact (b3 (b3 bn))
 ·exact nd rfl
 rintro i (hI':NoBad g i)
 show VRun _ _ _ [(1,(T.op 0 0)),(3,(T.os 4 1 0 (((Qb g).map (Qg true)).length))),(4,(tN i))] (Q4 [(0,(Obj.cells (Qc false g))),(1,(Obj.rows 4 ((Qb g).map (Qg true))))]) 2 _
 have hI1:=hI'.1
 have hNB:=hI'
 have hub:=QjY g ((i:Nat):Int)
 refine sq (sr (mO (tN i) rfl (mO (T.os 4 1 0 (((Qb g).map (Qg true)).length)) rfl (lO (B.lenO (m:=(Qb g).length) (tv (T.os 4 1 0 (((Qb g).map (Qg true)).length)) rfl) Z7 (List.length_map ..)) (fO (Ze (tv (tN i) rfl) (tv (tN ((Qb g).length)) rfl)) (nt ?_))))))
 refine cd (i<(Qb g).length) rfl (fun fhc0=> ?_) fun fhc0=> ?_
 ·refine sk ?_
  refine tn (sq (VRun.block (sq (VRun.draw (B:= [[],[],[1,0],[0,1,2],[],[],[5,4],[4,5,6],[6,5,4,7],[7,4,5,6,8,2,1,0,3]]) (by kernel_rfl) (by kernel_rfl) (lD (OL.loadOn (us:=(Qc false g)) (tv (T.op 0 0) rfl) rfl Q1 QT (lb rfl) rfl) rfl rfl (mD (tN i) rfl rfl (VRunD.quiet (bi:= [1,0]) rfl VWant.always rfl rfl rfl bn (cS (vc (tv (T.agg (Qc false g)) rfl) (vc (tv (tN i) rfl) vn)) (LendL.cons (lg Qt) (lp rfl ln)) (Qcb (n+0) g ((i:Nat):Int) (by assumption)) rfl rfl) (fD (B.mul (n:=(2*unG g ((i:Nat):Int))) (VEv.int .i64 2) (tv (tI (unG g ((i:Nat):Int))) rfl) (by (rw [Qv (by omega)];done))) rfl rfl (mD (T.os 4 1 0 (((Qb g).map (Qg true)).length)) rfl rfl (mD (tN i) rfl rfl ?_))))))))))
  obtain ⟨x1,hx1⟩:∃x,(Qb g)[i]? =some x:=⟨_,List.getElem?_eq_getElem (by omega)⟩
  refine fD (B.indexAddrO (i:=i) (tv (T.os 4 1 0 (((Qb g).map (Qg true)).length)) rfl) (tv (tN i) rfl) rfl (by (simp only [List.length_map];omega)) Z7 Zb QaX) rfl rfl (fD (OF.fieldAddrP (tv (T.orp 4 1 i 0) rfl) QaR) rfl rfl (lD (OL.loadP1 (t:=(tI x1.Length)) (row:=(Qg true x1)) (tv (T.orp 4 1 i 3) rfl) rfl (Qu _ hx1) rfl rfl QU) rfl rfl (fD (xgt (tv (tI (2*unG g ((i:Nat):Int))) rfl) (tv (tI x1.Length) rfl)) rfl rfl (VRunD.nil (tn ?_)))))
  refine cd (x1.Length<(2*unG g ((i:Nat):Int))) rfl (fun fhc1=> ?_) fun fhc1=> ?_
  ·have q1:Qd1 g i x1:=by unfold Qd1;omega
   refine sr (fO (OF.assign (VEv.bool true)) (nt (rt (vinB.r (tr (tr (vinB.r (tr (vb (b':=true) rfl ?_)))))))))
   symm;rw [decide_eq_true_eq];exact .inl ⟨i,x1,hx1,q1⟩
  have q1:¬Qd1 g i x1:=by unfold Qd1;omega
  refine sk (vinB.n (tn (VRun.region (mO (tN i) rfl (fO (QB (tv (tN i) rfl) (VEv.int .i64 1) (by omega)) (aO (tN (i+1)) rfl (VRunO.nil (tn ?_))))))))
  refine ⟨(i+1:Nat),?_,?_,Wk.mk (fun k=>k) ?_ ?_ ?_⟩
  ·exact hI'.next hx1 q1
  ·omega
  ·exact (b2 (b2 (b2 bn)))
  ·exact (b3 (b3 bn))
  ·exact nd rfl
 refine VRun.exit (vthn.e (vthn.e (vinB.e (tn (sq (sr (fO (OF.assign (VEv.int .i64 0)) (nt (VRun.block ?_)))))))))
 refine VRun.loop (A:=Nat) (fun s_=> [(1,(T.op 0 0)),(5,(tN s_))]) (fun s_=>Q4 [(0,(Obj.cells (Qc false g)))]) 1 (fun s_=>s_≤g.Cells.size∧∀c,c<s_→¬(gridOk g∧QaJ g c)) (fun s_=>g.Cells.size - s_) (0:Nat) ?_ (Wk.mk (fun k=>k) ?_ ?_ ?_) ?_
 ·exact ⟨Nat.zero_le _,fun c hc=>by omega⟩
 ·exact (b2 (b2 bn))
 ·exact (b3 bn)
 ·exact nd rfl
 rintro k (hI':k≤g.Cells.size∧∀c,c<k→¬(gridOk g∧QaJ g c))
 show VRun _ _ _ [(1,(T.op 0 0)),(5,(tN k))] (Q4 [(0,(Obj.cells (Qc false g)))]) 1 _
 have hJ1:=hI'.1
 refine sq (sr (mO (tN k) rfl (lf (tS g.Cells) rfl QC rfl rfl Z5 (lO (B.lenS (tv (tS g.Cells) rfl) U9) (fO (Ze (tv (tN k) rfl) (tv (tN g.Cells.size) rfl)) (nt ?_))))))
 refine cd (k<g.Cells.size) rfl (fun fhc2=> ?_) fun fhc2=> ?_
 ·refine sk ?_
  refine tn (sq (VRun.block (sr (lO (OL.loadOn (us:=(Qc false g)) (tv (T.op 0 0) rfl) rfl Q1 QT (lb rfl) rfl) (mO (tN k) rfl (cO (cS (vc (tv (T.agg (Qc false g)) rfl) (vc (tv (tN k) rfl) vn)) (LendL.cons (lg Qt) (lp rfl ln)) (Qa3 (n+4) g ((k:Nat):Int) (by assumption)) rfl rfl) (mO (tB (decide (gridOk g∧(0≤((k:Nat):Int)∧((k:Nat):Int)≤((g.Cells.size:Nat):Int) - 1)∧Qs g.Cells (Int.toNat ((k:Nat):Int))=46))) rfl ?_)))))))
  refine gw (gridOk g∧(0≤((k:Nat):Int)∧((k:Nat):Int)≤((g.Cells.size:Nat):Int) - 1)∧Qs g.Cells (Int.toNat ((k:Nat):Int))=46) (fun fhg34_1=> ?_) fun fhg34_1=> ?_
  ·refine gL (dy fhg34_1) rfl rfl (OL.loadOn (us:=(Qc false g)) (tv (T.op 0 0) rfl) rfl Q1 QT (lb rfl) rfl) ?_
   refine gF (dy fhg34_1) rfl rfl (OF.move (tv (tN k) rfl)) (VRunO.chain (VWant.on rfl rfl (dy fhg34_1)) (OC.callF (us:= [(T.agg (Qc false g)),(tN k)]) (r:=(T.sl true 1 ((Z3 g ((k:Nat):Int) (Qb g).length).map (Qa true)))) (r':=(T.os 1 1 0 (((Z3 g ((k:Nat):Int) (Qb g).length).map (Qa true)).length))) (objs:= [(Obj.rows 1 ((Z3 g ((k:Nat):Int) (Qb g).length).map (Qa true)))]) rfl (vc (tv (T.agg (Qc false g)) rfl) (vc (tv (tN k) rfl) vn)) (LendL.cons (lg Qt) (lp rfl ln)) (Qbi (n+2) g ((k:Nat):Int) (by assumption)) rfl) (gL (dy fhg34_1) rfl rfl (B.lenO (m:=(Z3 g ((k:Nat):Int) (Qb g).length).length) (tv (T.os 1 1 0 (((Z3 g ((k:Nat):Int) (Qb g).length).map (Qa true)).length)) rfl) Zt (List.length_map ..)) (gF (dy fhg34_1) rfl rfl (B.eql (c:=(decide ((Z3 g ((k:Nat):Int) (Qb g).length).length=0))) (tv (tN ((Z3 g ((k:Nat):Int) (Qb g).length).length)) rfl) (VEv.int .i64 0) (Q9 (by omega))) (fO (OF.pickT (VEv.tmpB rfl (dy fhg34_1)) (tv (tB (decide ((Z3 g ((k:Nat):Int) (Qb g).length).length=0))) rfl)) (nt ?_)))))
   refine cd ((Z3 g ((k:Nat):Int) (Qb g).length).length=0) rfl (fun fhc3=> ?_) fun fhc3=> ?_
   ·refine sr ?_
    refine fO (OF.assign (VEv.bool true)) (nt (rt (vinB.r (tr (tr (vinB.r (tr (vb (b':=true) rfl ?_))))))))
    symm;rw [decide_eq_true_eq];exact .inr ⟨k,fhc2,fhg34_1.1,fhg34_1.2.2,atG_none.1 fhc3⟩
   refine sk (vinB.n (tn (VRun.region (mO (tN k) rfl (fO (QB (tv (tN k) rfl) (VEv.int .i64 1) (by omega)) (aO (tN (k+1)) rfl (VRunO.nil (tn ?_))))))))
   refine ⟨(k+1:Nat),?_,?_,Wk.mk (fun k=>k) ?_ ?_ ?_⟩
   ·exact QQ (ok:=fun c=>¬(gridOk g∧QaJ g c)) hI' fhc2 (fun h=>fhc3 (atG_none.2 h.2.2))
   ·omega
   ·exact (b2 (b2 bn))
   ·exact (b3 bn)
   ·exact nd rfl
  refine Qy 5 3 true 34 (dz fhg34_1) rfl rfl rfl (fO (OF.pickF (VEv.tmpB rfl (dz fhg34_1)) (VEv.bool false)) (nt (cf rfl (sk (vinB.n (tn (VRun.region (mO (tN k) rfl (fO (QB (tv (tN k) rfl) (VEv.int .i64 1) (by omega)) (aO (tN (k+1)) rfl (VRunO.nil ?_)))))))))))
  refine tn ?_
  refine ⟨(k+1:Nat),?_,?_,Wk.mk (fun k=>k) ?_ ?_ ?_⟩
  ·exact QQ (ok:=fun c=>¬(gridOk g∧QaJ g c)) hI' fhc2 (fun h=>fhg34_1 ⟨h.1,⟨by omega,by omega⟩,h.2.1⟩)
  ·omega
  ·exact (b2 (b2 bn))
  ·exact (b3 bn)
  ·exact nd rfl
 refine VRun.exit (vthn.e (vthn.e (vinB.e (tn (sr (fO (OF.assign (VEv.bool false)) (nt (rt (vb (b':=false) rfl ?_)))))))))
 symm;rw [decide_eq_false_iff_not];exact Qj8 hNB fhc0 (YS (ok:=fun c=>¬(gridOk g∧QaJ g c)) hI' fhc2)
theorem Qgd (n:Nat) (g:D.Grid) (f:ByteArray) (hc:g.Cells.size≤maxLen) (hf:g.Cells.size≤f.size):Pure (Qq Tryz.prog (n+5)) 139 [(T.agg (Qc false g)),(tS f)] (tB (decide (Qgb g f))):=by
 refine Pure.intro (rs:= [ResultVar.tmp 4]) Tryz.func139 rfl rfl rfl (E0:= [(0,(T.agg (Qc false g))),(1,(tS f))]) rfl ?_
 obtain ⟨hlim,hmx,hmax⟩:=QG
 have hsl:=Zn g
 have hll:=QaB g
 refine sr (kO (B.box (ts:=(Qc false g)) (tv (T.agg (Qc false g)) rfl) nofun rfl) (fO (OF.assign (VEv.bool false)) (nt (sr (kO B.makeMap (aO (T.om 1) rfl (nt (sq (sr (lO (OL.loadOn (us:=(Qc false g)) (tv (T.op 0 0) rfl) rfl Q1 QT (lb rfl) rfl) (cO (OC.callF (us:= [(T.agg (Qc false g))]) (r:=(T.sl true 1 ((QD g).map ((YG 1 Qa) true)))) (r':=(T.os 1 2 0 (((QD g).map ((YG 1 Qa) true)).length))) (objs:= [(Obj.rows 1 ((QD g).map ((YG 1 Qa) true)))]) rfl (vc (tv (T.agg (Qc false g)) rfl) vn) (LendL.cons (lg Qt) ln) (Jf (n+0) g (by assumption)) rfl) ?_)))))))))))
 refine lO (B.lenO (m:=(QD g).length) (tv (T.os 1 2 0 (((QD g).map ((YG 1 Qa) true)).length)) rfl) Qew (List.length_map ..)) (fO (OF.move (VEv.int .i64 0)) (nt (VRun.block (VRun.wk (Wk.freeze (sz:=1) (k:=2) (rows':=((QD g).map ((YG 1 Qa) false))) [13] (bc rfl bn) rfl rfl ((QjU okInt).fzMap _ _)) ?_))))
 have he1:([]:List (Int×Int))= []:=by rfl
 refine VRun.loop (A:=Nat×(List (Int×Int))) (fun s_=> [(1,(tS f)),(2,(T.op 0 0)),(4,(tB false)),(5,(T.om 1)),(13,(rd 1 (YG 1 Qa) (QD g))),(14,(tN ((QD g).length))),(15,(tN s_.1))]) (fun s_=>Q4 [(0,(Obj.cells (Qc false g))),(1,(Obj.map (eM s_.2)))]) 2 (fun s_=>s_.1≤(QD g).length∧mapOf s_.2 (Qe8 g s_.1)) (fun s_=>(QD g).length - s_.1) ((0,[]):Nat×(List (Int×Int))) ?_ (Wk.mk (fun k=>k) ?_ ?_ ?_) ?_
 ·exact ⟨Nat.zero_le _,fun c=>⟨fun h=>absurd h (Qjg g c),fun _=>rfl⟩⟩
 ·exact (b2 (b2 (b2 (b2 (b2 (b2 (b2 bn)))))))
 ·exact (b3 (bc ⟨(congrArg (fun l_=>some (Obj.map (eM l_))) he1),(lb rfl),rfl⟩ bn))
 ·exact nd rfl
 rintro ⟨i,m⟩ (hI':i≤(QD g).length∧mapOf m (Qe8 g i))
 show VRun _ _ _ [(1,(tS f)),(2,(T.op 0 0)),(4,(tB false)),(5,(T.om 1)),(13,(rd 1 (YG 1 Qa) (QD g))),(14,(tN ((QD g).length))),(15,(tN i))] (Q4 [(0,(Obj.cells (Qc false g))),(1,(Obj.map (eM m)))]) 2 _
 have hI1:=hI'.1
 have hM:=hI'.2
 refine sr (fO (Ze (tv (tN i) rfl) (tv (tN ((QD g).length)) rfl)) (nt (sq ?_)))
 refine cd (i<(QD g).length) rfl (fun fhc0=> ?_) fun fhc0=> ?_
 ·refine sk ?_
  refine tn (sq (VRun.block (sr ?_)))
  obtain ⟨x1,hx1⟩:∃x,(QD g)[i]? =some x:=⟨_,List.getElem?_eq_getElem (by omega)⟩
  obtain ⟨y1,hy1,hq1⟩:=QeR hx1
  refine fO (OF.indexAddrR (row:=((YG 1 Qa) false x1)) (i:=i) (tv (rd 1 (YG 1 Qa) (QD g)) rfl) (tv (tN i) rfl) rfl (Qu _ hx1) Qew Qbd QcG) (lO (OL.loadR1 (t:=(rd 1 Qa x1)) (tv (T.rp [(rd 1 Qa x1)]) rfl) rfl Y0) (aO (rd 1 Qa x1) rfl (nt (sr (mO (rd 1 Qa x1) rfl (lO (B.lenR (m:=x1.length) (tv (rd 1 Qa x1) rfl) Zt (List.length_map ..)) (fO (OF.move (VEv.int .i64 0)) (nt (VRun.block ?_)))))))))
  refine VRun.loop (A:=Nat×(List (Int×Int))) (fun s_=> [(1,(tS f)),(2,(T.op 0 0)),(4,(tB false)),(5,(T.om 1)),(13,(rd 1 (YG 1 Qa) (QD g))),(14,(tN ((QD g).length))),(15,(tN i)),(19,(rd 1 Qa x1)),(20,(tN x1.length)),(21,(tN s_.1))]) (fun s_=>Q4 [(0,(Obj.cells (Qc false g))),(1,(Obj.map (eM s_.2)))]) 2 (fun s_=>s_.1≤x1.length∧mapOf s_.2 (fun c=>Qe8 g i c∨c∈x1.take s_.1)) (fun s_=>x1.length - s_.1) ((0,m):Nat×(List (Int×Int))) ?_ (Wk.mk (fun k=>k) ?_ ?_ ?_) ?_
  ·exact ⟨Nat.zero_le _,hM.congr fun c=>by simp⟩
  ·exact (b2 (b2 (b2 (b2 (b2 (b2 (b2 (b2 (b2 (b2 bn))))))))))
  ·exact (b3 (b3 bn))
  ·exact nd rfl
  rintro ⟨k,w⟩ (hI':k≤x1.length∧mapOf w (fun c=>Qe8 g i c∨c∈x1.take k))
  show VRun _ _ _ [(1,(tS f)),(2,(T.op 0 0)),(4,(tB false)),(5,(T.om 1)),(13,(rd 1 (YG 1 Qa) (QD g))),(14,(tN ((QD g).length))),(15,(tN i)),(19,(rd 1 Qa x1)),(20,(tN x1.length)),(21,(tN k))] (Q4 [(0,(Obj.cells (Qc false g))),(1,(Obj.map (eM w)))]) 2 _
  have hJ1:=hI'.1
  have hl6:=QcE hy1
  rw [← hq1] at hl6
  refine sr (fO (Ze (tv (tN k) rfl) (tv (tN x1.length) rfl)) (nt (sq ?_)))
  refine cd (k<x1.length) rfl (fun fhc1=> ?_) fun fhc1=> ?_
  ·refine sk ?_
   refine tn (sq (VRun.block (sr ?_)))
   obtain ⟨x2,hx2⟩:∃x,x1[k]? =some x:=⟨_,List.getElem?_eq_getElem (by omega)⟩
   skip
   refine fO (OF.indexAddrR (row:=(Qa false x2)) (i:=k) (tv (rd 1 Qa x1) rfl) (tv (tN k) rfl) rfl (Qu _ hx2) Zt Za Yl) (lO (OL.loadR1 (t:=(tI x2)) (tv (T.rp [(tI x2)]) rfl) rfl QU) (aO (tI x2) rfl (nt (VRun.region (mO (T.om 1) rfl (mO (tI x2) rfl (cO (B.mapSet (l:=w) (l':=(QbL w x2 1)) (tv (T.om 1) rfl) (tv (tI x2) rfl) (VEv.int .i64 1) rfl QmP U3 rfl) (VRunO.nil (vinB.n (tn (VRun.region ?_)))))))))))
   refine fO (QB (tv (tN k) rfl) (VEv.int .i64 1) (by omega)) (mO (tN (k+1)) rfl (VRunO.nil (tn ?_)))
   refine ⟨((k+1,QbL w x2 1):Nat×(List (Int×Int))),?_,?_,Wk.mk (fun k=>k) ?_ ?_ ?_⟩
   ·exact ⟨by omega,hI'.2.put.congr fun c=>by rw [Qfd hx2,or_assoc]⟩
   ·omega
   ·exact (b2 (b2 (b2 (b2 (b2 (b2 (b2 (b2 (b2 (b2 bn))))))))))
   ·exact (b3 (b3 bn))
   ·exact nd rfl
  refine VRun.exit (vthn.e (vthn.e (vinB.e (vinB.n (tn (VRun.region (fO (QB (tv (tN i) rfl) (VEv.int .i64 1) (by omega)) (mO (tN (i+1)) rfl (VRunO.nil (tn ?_))))))))))
  refine ⟨((i+1,w):Nat×(List (Int×Int))),?_,?_,Wk.mk (fun k=>k) ?_ ?_ ?_⟩
  ·exact ⟨by omega,hI'.2.congr fun c=>by rw [Qjk hx1,List.take_of_length_le (by omega)]⟩
  ·omega
  ·exact (b2 (b2 (b2 (b2 (b2 (b2 (b2 bn)))))))
  ·exact (b3 (b3 bn))
  ·exact nd rfl
 refine VRun.exit (vthn.e (vthn.e (vinB.e (tn (sq (sr (lf (tS g.Cells) rfl QC rfl rfl Z5 (lO (B.lenS (tv (tS g.Cells) rfl) U9) (fO (OF.move (VEv.int .i64 0)) (nt (VRun.block ?_)))))))))))
 refine VRun.loop (A:=Nat) (fun s_=> [(1,(tS f)),(2,(T.op 0 0)),(5,(T.om 1)),(31,(tN g.Cells.size)),(32,(tN s_))]) (fun s_=>Q4 [(0,(Obj.cells (Qc false g))),(1,(Obj.map (eM m)))]) 2 (fun s_=>s_≤g.Cells.size∧∀j,j<s_→¬(QaJ g j∧Qba f j)) (fun s_=>g.Cells.size - s_) (0:Nat) ?_ (Wk.mk (fun k=>k) ?_ ?_ ?_) ?_
 ·exact ⟨Nat.zero_le _,fun c hc=>by omega⟩
 ·exact (b2 (b2 (b2 (b2 (b2 bn)))))
 ·exact (b3 (b3 bn))
 ·exact nd rfl
 rintro c (hI':c≤g.Cells.size∧∀j,j<c→¬(QaJ g j∧Qba f j))
 show VRun _ _ _ [(1,(tS f)),(2,(T.op 0 0)),(5,(T.om 1)),(31,(tN g.Cells.size)),(32,(tN c))] (Q4 [(0,(Obj.cells (Qc false g))),(1,(Obj.map (eM m)))]) 2 _
 have hJ1:=hI'.1
 refine sr (fO (Ze (tv (tN c) rfl) (tv (tN g.Cells.size) rfl)) (nt (sq ?_)))
 refine cd (c<g.Cells.size) rfl (fun fhc2=> ?_) fun fhc2=> ?_
 ·refine sk ?_
  refine tn (sq (VRun.block (sr (mO (tN c) rfl (aO (tN c) rfl (nt (sr (lf (tS g.Cells) rfl QC rfl rfl Z5 (mO (tN c) rfl ?_)))))))))
  have hb2:c<g.Cells.size:=(by omega)
  refine fO (JZ (tv (tS g.Cells) rfl) (tv (tN c) rfl) hb2 U9) (fO (Y7 (tv (T.int .u8 (Qs g.Cells c)) rfl) (VEv.int .u8 46)) (mO (tB (decide (Qs g.Cells c=46))) rfl ?_))
  refine gw (Qs g.Cells c=46) (fun fhg40_3=> ?_) fun fhg40_3=> ?_
  ·refine gF (dy fhg40_3) rfl rfl (OF.move (tv (T.om 1) rfl)) ?_
   refine gF (dy fhg40_3) rfl rfl (OF.move (tv (tN c) rfl)) (gL (dy fhg40_3) rfl rfl (B.mapGet (l:=m) (n:=((c:Nat):Int)) (tv (T.om 1) rfl) (tv (tN c) rfl) rfl QmP U3 zo3) (gF (dy fhg40_3) rfl rfl (Y7 (tv (tI (Qbj m ((c:Nat):Int))) rfl) (VEv.int .i64 0)) (fO (OF.pickT (VEv.tmpB rfl (dy fhg40_3)) (tv (tB (decide (Qbj m ((c:Nat):Int)=0))) rfl)) (mO (tB (decide (Qbj m ((c:Nat):Int)=0))) rfl ?_))))
   refine gw (Qbj m ((c:Nat):Int)=0) (fun fhg46_4=> ?_) fun fhg46_4=> ?_
   ·refine gF (dy fhg46_4) rfl rfl (OF.move (tv (tS f) rfl)) ?_
    refine gF (dy fhg46_4) rfl rfl (OF.move (tv (tN c) rfl)) ?_
    have hb5:c<f.size:=(by omega)
    refine gF (dy fhg46_4) rfl rfl (JZ (tv (tS f) rfl) (tv (tN c) rfl) hb5 U9) (VRunO.chain (VWant.on rfl rfl (dy fhg46_4)) (cS (vc (tv (T.int .u8 (Qs f c)) rfl) vn) (ZO rfl) (YH (n+3) (Qs f c)) rfl rfl) (gF (dy fhg46_4) rfl rfl (QS (tv (tB (decide (97≤(Qs f c)∧(Qs f c)≤122))) rfl)) (fO (OF.pickT (VEv.tmpB rfl (dy fhg46_4)) (tv (tB (!(decide (97≤(Qs f c)∧(Qs f c)≤122)))) rfl)) (nt ?_))))
    refine cn (97≤(Qs f c)∧(Qs f c)≤122) rfl (fun fhc3=> ?_) fun fhc3=> ?_
    ·refine sr ?_
     refine fO (OF.assign (VEv.bool true)) (nt (rt (vinB.r (tr (tr (vinB.r (tr (vb (b':=true) rfl ?_))))))))
     symm;rw [decide_eq_true_eq];refine ⟨c,fhc2,⟨?_,fun h=> ?_⟩,?_⟩
     ·omega
     ·have hq:=(hM ((c:Nat):Int)).1 ((Qcw fhc0 _).2 h);omega
     ·unfold Qba;omega
    refine sk (vinB.n (tn (VRun.region (fO (QB (tv (tN c) rfl) (VEv.int .i64 1) (by omega)) (mO (tN (c+1)) rfl (VRunO.nil (tn ?_)))))))
    refine ⟨(c+1:Nat),?_,?_,Wk.mk (fun k=>k) ?_ ?_ ?_⟩
    ·refine QQ (ok:=fun j=>¬(QaJ g j∧Qba f j)) hI' fhc2 ?_
     rintro ⟨⟨a1,a2⟩,a3⟩
     have hq:=(hM ((c:Nat):Int)).2 (fun h=>a2 ((Qcw fhc0 _).1 h))
     unfold Qba at a3;omega
    ·omega
    ·exact (b2 (b2 (b2 (b2 (b2 bn)))))
    ·exact (b3 (b3 bn))
    ·exact nd rfl
   refine Qy 5 11 true 46 (dz fhg46_4) rfl rfl rfl (fO (OF.pickF (VEv.tmpB rfl (dz fhg46_4)) (VEv.bool false)) (nt (cf rfl (sk (vinB.n (tn (VRun.region (fO (QB (tv (tN c) rfl) (VEv.int .i64 1) (by omega)) (mO (tN (c+1)) rfl (VRunO.nil (tn ?_)))))))))))
   refine ⟨(c+1:Nat),?_,?_,Wk.mk (fun k=>k) ?_ ?_ ?_⟩
   ·refine QQ (ok:=fun j=>¬(QaJ g j∧Qba f j)) hI' fhc2 ?_
    rintro ⟨⟨a1,a2⟩,a3⟩
    have hq:=(hM ((c:Nat):Int)).2 (fun h=>a2 ((Qcw fhc0 _).1 h))
    unfold Qba at a3;omega
   ·omega
   ·exact (b2 (b2 (b2 (b2 (b2 bn)))))
   ·exact (b3 (b3 bn))
   ·exact nd rfl
  refine Qy 4 5 true 40 (dz fhg40_3) rfl rfl rfl (fO (OF.pickF (VEv.tmpB rfl (dz fhg40_3)) (VEv.bool false)) (mO (tB false) rfl (Qy 5 11 true 46 (b:=false) rfl rfl rfl rfl (fO (OF.pickF (tv (tB false) rfl) (VEv.bool false)) (nt (cf rfl (sk (vinB.n (tn (VRun.region (fO (QB (tv (tN c) rfl) (VEv.int .i64 1) (by omega)) ?_)))))))))))
  refine mO (tN (c+1)) rfl (VRunO.nil (tn ?_))
  refine ⟨(c+1:Nat),?_,?_,Wk.mk (fun k=>k) ?_ ?_ ?_⟩
  ·refine QQ (ok:=fun j=>¬(QaJ g j∧Qba f j)) hI' fhc2 ?_
   rintro ⟨⟨a1,a2⟩,a3⟩
   have hq:=(hM ((c:Nat):Int)).2 (fun h=>a2 ((Qcw fhc0 _).1 h))
   unfold Qba at a3;omega
  ·omega
  ·exact (b2 (b2 (b2 (b2 (b2 bn)))))
  ·exact (b3 (b3 bn))
  ·exact nd rfl
 refine VRun.exit (vthn.e (vthn.e (vinB.e (tn (sr (fO (OF.assign (VEv.bool false)) (nt (rt (vb (b':=false) rfl ?_)))))))))
 symm;rw [decide_eq_false_iff_not];rintro ⟨c,h1,h2,h3⟩;exact hI'.2 c (by omega) ⟨h2,h3⟩
end Go.Proofs.YtcccmceoplcciaaGreat.AE
namespace Go.Proofs.YtcccmceoplcciaaGreat.AE
open Go Go.RowKit
set_option linter.unusedVariables false
set_option linter.unusedSimpArgs false
set_option maxRecDepth 20000
set_option maxHeartbeats 2000000
noncomputable section
def on (s:List Bool) (j:Nat):Bool:=s[j]?.getD false
theorem Qj5 {s:List Bool} {j:Nat} (h:on s j=true):j<s.length:=by
 rcases Nat.lt_or_ge j s.length with h1 | h1
 ·exact h1
 ·rw [on,List.getElem?_eq_none h1] at h;cases h
theorem Qc2 {s:List Bool} {i j:Nat} (hi:i<s.length):on (s.set i true) j=(if j=i then true else on s j):=by
 unfold on
 rw [List.getElem?_set]
 by_cases h:i=j
 ·subst h;simp [hi]
 ·rw [if_neg h,if_neg (fun e=>h e.symm)]
theorem Qj9 {s t:List Bool} (hl:s.length=t.length) (h:∀j,on s j=true↔on t j=true):s=t:=by
 refine List.ext_getElem? fun j=> ?_
 rcases Nat.lt_or_ge j s.length with h1 | h1
 ·have h2:j<t.length:=by omega
  have h3:=h j
  unfold on at h3
  rw [List.getElem?_eq_getElem h1,List.getElem?_eq_getElem h2] at h3 ⊢
  simp only [Option.getD_some] at h3
  rw [Bool.eq_iff_iff.2 h3]
 ·rw [List.getElem?_eq_none h1,List.getElem?_eq_none (by omega)]
theorem on_no {s:List Bool} {j:Nat}:on s j=false↔¬on s j=true:=by cases on s j<;>simp
def wG (g:D.Grid):Nat:=g.Cols.toNat
def adj (g:D.Grid) (i j:Nat):Prop:=(j=i+1∧i % wG g+1<wG g)∨(i=j+1∧j % wG g+1<wG g)∨j=i+wG g∨i=j+wG g
inductive Rch (g:D.Grid) (s:List Bool):Nat→Prop
 | base {j:Nat} (h:on s j=true):Rch g s j
 | step {i j:Nat} (h:Rch g s i) (ha:adj g i j) (hj:j<s.length) (hw:Qs g.Cells j=46):Rch g s j
instance (g:D.Grid) (s:List Bool) (j:Nat):Decidable (Rch g s j):=Classical.propDecidable _
def Zd (g:D.Grid) (s:List Bool):List Bool:=(List.range s.length).map fun j=>decide (Rch g s j)
theorem Rch.lt {g:D.Grid} {s:List Bool} {j:Nat} (h:Rch g s j):j<s.length:=by
 cases h with
 | base h=>exact Qj5 h
 | step _ _ hj _=>exact hj
theorem Qb5 (g:D.Grid) (s:List Bool):(Zd g s).length=s.length:=by simp [Zd]
theorem on_reachL {g:D.Grid} {s:List Bool} {j:Nat}:on (Zd g s) j=true↔Rch g s j:=by
 unfold on Zd
 rw [List.getElem?_map]
 rcases Nat.lt_or_ge j s.length with h1 | h1
 ·rw [List.getElem?_eq_getElem (by simpa using h1),List.getElem_range]
  simp
 ·rw [List.getElem?_eq_none (by simpa using h1)]
  simp only [Option.map_none,Option.getD_none,Bool.false_eq_true,false_iff]
  intro h
  have:=h.lt
  omega
def QjS (g:D.Grid) (s:List Bool) (i:Nat):Prop:=∃j,adj g j i∧on s j=true
theorem QjH {i w:Nat} (h:0<i % w) (hw:i % w<w):(i - 1) % w+1=i % w∧1≤i:=by
 have h1:i % w≤i:=Nat.mod_le _ _
 have h2:=Nat.div_add_mod i w
 refine ⟨?_,by omega⟩
 have e:i - 1=(i % w - 1)+w*(i / w):=by omega
 rw [e,Nat.add_mul_mod_self_left,Nat.mod_eq_of_lt (by omega)]
 omega
theorem QkR {i w:Nat} (h:i % w+1<w):(i+1) % w=i % w+1:=by
 have h2:=Nat.div_add_mod i w
 have e:i+1=(i % w+1)+w*(i / w):=by omega
 rw [e,Nat.add_mul_mod_self_left,Nat.mod_eq_of_lt h]
theorem QhD {g:D.Grid} {s:List Bool} {i:Nat} (hw:2≤g.Cols) (hl:i<s.length) :
  ((((0<i % g.Cols.toNat∧on s (i - 1)=true)∨(((i % g.Cols.toNat+1:Nat):Int)<g.Cols∧on s (i+1)=true))∨(g.Cols≤((i:Nat):Int)∧on s (i - g.Cols.toNat)=true))∨(i+g.Cols.toNat<s.length∧on s (i+g.Cols.toNat)=true))↔QjS g s i:=by
 have hm:i % g.Cols.toNat<g.Cols.toNat:=Nat.mod_lt _ (by omega)
 constructor
 ·rintro (((⟨h1,h2⟩ | ⟨h1,h2⟩) | ⟨h1,h2⟩) | ⟨h1,h2⟩)
  ·obtain ⟨h3,h4⟩:=QjH h1 hm
   exact ⟨i - 1, .inl ⟨by omega,by unfold wG;omega⟩,h2⟩
  ·exact ⟨i+1, .inr (.inl ⟨rfl,by unfold wG;omega⟩),h2⟩
  ·exact ⟨i - g.Cols.toNat, .inr (.inr (.inl (by unfold wG;omega))),h2⟩
  ·exact ⟨i+g.Cols.toNat, .inr (.inr (.inr (by unfold wG;omega))),h2⟩
 ·rintro ⟨j,(⟨h1,h2⟩ | ⟨h1,h2⟩ | h1 | h1),h3⟩
  ·refine .inl (.inl (.inl ⟨?_,by rw [show i - 1=j by omega];exact h3⟩))
   unfold wG at h2
   rw [h1,QkR h2];omega
  ·refine .inl (.inl (.inr ⟨by unfold wG at h2;omega,by rw [← h1];exact h3⟩))
  ·unfold wG at h1
   refine .inl (.inr ⟨by omega,by rw [show i - g.Cols.toNat=j by omega];exact h3⟩)
  ·unfold wG at h1
   have:=Qj5 h3
   exact .inr ⟨by omega,by rw [← h1];exact h3⟩
def RS (g:D.Grid) (s0 s:List Bool):Prop:=s.length=s0.length∧(∀j,on s0 j=true→on s j=true)∧∀j,on s j=true→Rch g s0 j
theorem RS.start (g:D.Grid) (s:List Bool):RS g s s:=⟨rfl,fun _ h=>h,fun _ h=> .base h⟩
theorem RS.put {g:D.Grid} {s0 s:List Bool} {i:Nat} (h:RS g s0 s) (hi:i<s.length) (hw:Qs g.Cells i=46) (hn:QjS g s i):RS g s0 (s.set i true):=by
 obtain ⟨h1,h2,h3⟩:=h
 refine ⟨by simpa using h1,fun j hj=> ?_,fun j hj=> ?_⟩
 ·rw [Qc2 hi];split
  ·rfl
  ·exact h2 j hj
 ·rw [Qc2 hi] at hj
  split at hj
  ·rename_i e
   subst e
   obtain ⟨k,hk,hk2⟩:=hn
   exact .step (h3 k hk2) hk (by omega) hw
  ·exact h3 j hj
def Qhr (g:D.Grid) (s:List Bool) (i:Nat):Prop:=Qs g.Cells i=46∧on s i=false∧QjS g s i
instance (g:D.Grid) (s:List Bool) (i:Nat):Decidable (Qhr g s i):=Classical.propDecidable _
def YO (g:D.Grid) (s:List Bool) (i:Nat):List Bool:=if Qhr g s i then s.set i true else s
def QbV (g:D.Grid) (ag:Bool) (s:List Bool) (i:Nat):Bool:=if Qhr g s i then true else ag
theorem Qky {g:D.Grid} {s:List Bool} {ag:Bool} {i:Nat} (h:Qhr g s i):s.set i true=YO g s i∧true=QbV g ag s i:=⟨(if_pos h).symm,(if_pos h).symm⟩
theorem QiA {g:D.Grid} {s:List Bool} {ag:Bool} {i:Nat} (h:¬Qhr g s i):s=YO g s i∧ag=QbV g ag s i:=⟨(if_neg h).symm,(if_neg h).symm⟩
def Inv1 (g:D.Grid) (s0 s:List Bool) (i:Nat) (s1:List Bool) (ag:Bool):Prop:=i≤s0.length∧RS g s0 s1∧(ag=false→s1=s∧∀j,j<i→¬Qhr g s j)∧(ag=true→s1.count false<s.count false)∧s1.count false≤s.count false
theorem Inv1.start {g:D.Grid} {s0 s:List Bool} (h:RS g s0 s):Inv1 g s0 s 0 s false:=⟨Nat.zero_le _,h,fun _=>⟨rfl,fun j hj=>by omega⟩,(fun h=>by cases h),Nat.le_refl _⟩
theorem Qc3 {s:List Bool} {i:Nat} (hi:i<s.length) (h:on s i=false):(s.set i true).count false+1=s.count false:=by
 have h2:s[i]=false:=by
  unfold on at h
  rw [List.getElem?_eq_getElem hi] at h
  exact h
 have h3:0<s.count false:=List.count_pos_iff.2 (h2▸List.getElem_mem hi)
 rw [List.count_set hi]
 simp [h2]
 omega
theorem Inv1.next {g:D.Grid} {s0 s s1:List Bool} {i:Nat} {ag:Bool} (h:Inv1 g s0 s i s1 ag) (hi:i<s1.length):Inv1 g s0 s (i+1) (YO g s1 i) (QbV g ag s1 i):=by
 obtain ⟨h1,h2,h3,h4,h5⟩:=h
 have hl:=h2.1
 unfold YO QbV
 by_cases hw:Qhr g s1 i
 ·rw [if_pos hw,if_pos hw]
  have hc:=Qc3 hi hw.2.1
  exact ⟨by omega,h2.put hi hw.1 hw.2.2,(fun e=>by cases e),(fun _=>by omega),by omega⟩
 ·rw [if_neg hw,if_neg hw]
  refine ⟨by omega,h2,fun e=> ?_,h4,h5⟩
  obtain ⟨h6,h7⟩:=h3 e
  subst h6
  refine ⟨rfl,fun j hj=> ?_⟩
  rcases Nat.lt_or_ge j i with g1 | g1
  ·exact h7 j g1
  ·obtain rfl:j=i:=by omega
   exact hw
def Inv0 (g:D.Grid) (s0 s:List Bool) (ag:Bool):Prop:=RS g s0 s∧(ag=false→∀j,j<s0.length→¬Qhr g s j)
theorem Inv1.done {g:D.Grid} {s0 s s1:List Bool} {i:Nat} {ag:Bool} (h:Inv1 g s0 s i s1 ag) (hi:¬i<s1.length):Inv0 g s0 s1 ag:=by
 obtain ⟨h1,h2,h3,h4,h5⟩:=h
 have hl:=h2.1
 refine ⟨h2,fun e j hj=> ?_⟩
 obtain ⟨h6,h7⟩:=h3 e
 rw [h6]
 exact h7 j (by omega)
theorem Inv1.dec {g:D.Grid} {s0 s s1:List Bool} {i:Nat} {ag ag0:Bool} (h:Inv1 g s0 s i s1 ag) (h0:ag0=true):s1.count false+(if ag=true then 1 else 0)<s.count false+(if ag0=true then 1 else 0):=by
 obtain ⟨h1,h2,h3,h4,h5⟩:=h
 rw [if_pos h0]
 split
 ·rename_i e
  have:=h4 e
  omega
 ·omega
theorem Inv0.done {g:D.Grid} {s0 s:List Bool} {ag:Bool} (h:Inv0 g s0 s ag) (ha:¬ag=true):s=Zd g s0:=by
 obtain ⟨⟨h1,h2,h3⟩,h4⟩:=h
 refine Qj9 (by rw [Qb5,h1]) fun j=> ?_
 rw [on_reachL]
 refine ⟨h3 j,fun hj=> ?_⟩
 have h5:=h4 (by cases ag<;>simp_all)
 induction hj with
 | base h=>exact h2 _ h
 | step h ha hj hw ih =>
  rename_i i k
  cases hk:on s k with
  | true=>rfl
  | false=>exact absurd ⟨hw,hk,i,ha,ih⟩ (h5 k hj)
end
theorem QdS (n:Nat) (g:D.Grid) (seen:List Bool) (cell:Nat) (hg:gridOk g) (hc:cell<seen.length) (hs:seen.length=g.Cells.size):Loan (Qq Tryz.prog (n+1)) 182 1 (List.map (Qm true) seen) [(T.agg (Qc false g)),(T.os 1 0 0 ((seen.map (Qm true)).length)),(tN cell)] (T.os 1 0 0 (List.map (Qm true) (Zd g (seen.set cell true))).length) (List.map (Qm true) (Zd g (seen.set cell true))):=by
 refine Loan.intro (rs:= [ResultVar.tmp 6]) (j:=1) (pin:=(T.os 1 0 0 ((seen.map (Qm true)).length))) Tryz.func182 rfl rfl rfl (by kernel_rfl) rfl (.os _ _) (.os _ _) (Zo (fun _=>rfl) _) (Zo (fun _=>rfl) _) (E0:= [(0,(T.agg (Qc false g))),(1,(T.os 1 0 0 ((seen.map (Qm true)).length))),(2,(tN cell))]) rfl ?_
 obtain ⟨hlim,hmx,hmax⟩:=QG
 have hsz:=hg.size
 have hA:=hg.1
 have hB:=hg.2.1
 refine sr (kO (B.box (ts:=(Qc false g)) (tv (T.agg (Qc false g)) rfl) nofun rfl) (fO (OF.assign VEv.nils) (nt (sr (mO (T.os 1 0 0 ((seen.map (Qm true)).length)) rfl (mO (tN cell) rfl ?_))))))
 obtain ⟨x1,hx1⟩:∃x,seen[cell]? =some x:=⟨_,List.getElem?_eq_getElem (by omega)⟩
 skip
 refine fO (B.indexAddrO (i:=cell) (tv (T.os 1 0 0 ((seen.map (Qm true)).length)) rfl) (tv (tN cell) rfl) rfl (by (simp only [List.length_map];omega)) Y8 sz4 if4) (cO (B.storeP (us:= [(tB true)]) (rows':=((seen.set cell true).map (Qm true))) (row:=(Qm true x1)) (tv (T.orp 1 0 cell 0) rfl) (VEv.bool true) nofun rfl (Qu _ hx1) rfl (lb rfl) if4 sz4 (bc rfl bn) (by intro r hr t ht;obtain ⟨x,_,rfl⟩:=List.mem_map.1 hr;rw [Qgm] at ht;exact ZA (okBool.pl _ t ht)) (Zw rfl)) (nt (sq (sr (fO (OF.assign (VEv.bool true)) (nt (VRun.block ?_)))))))
 refine VRun.loop (A:=Bool×(List Bool)) (fun s_=> [(1,(T.os 1 1 0 ((s_.2.map (Qm true)).length))),(3,(T.op 0 0)),(6,T.nils),(7,(tB s_.1))]) (fun s_=>Q4 [(0,(Obj.cells (Qc false g))),(1,(Obj.rows 1 (s_.2.map (Qm true))))]) 2 (fun s_=>Inv0 g (seen.set cell true) s_.2 s_.1) (fun s_=>s_.2.count false+(if s_.1=true then 1 else 0)) ((true,seen.set cell true):Bool×(List Bool)) ?_ (Wk.mk (fun k=>if k=0 then 1 else if k=1 then 0 else k) ?_ ?_ ?_) ?_
 ·exact ⟨RS.start _ _,fun h=>by cases h⟩
 ·exact (bc ⟨(congrArg (fun n_=>T.os 1 0 0 n_) (show (seen.map (Qm true)).length=((seen.set cell true).map (Qm true)).length from (by (simp;done)))),rfl⟩ (b2 (b2 (b2 bn))))
 ·exact (b3 (b3 bn))
 ·exact nd rfl
 rintro ⟨ag,s⟩ (hI':Inv0 g (seen.set cell true) s ag)
 show VRun _ _ _ [(1,(T.os 1 1 0 ((s.map (Qm true)).length))),(3,(T.op 0 0)),(6,T.nils),(7,(tB ag))] (Q4 [(0,(Obj.cells (Qc false g))),(1,(Obj.rows 1 (s.map (Qm true))))]) 2 _
 have hI1:=hI'
 have hl0:s.length=g.Cells.size:=by have:=hI'.1.1;rw [List.length_set] at this;omega
 refine sq (sr (mO (tB ag) rfl (nt ?_)))
 refine VRun.cond (tv (tB ag) rfl) (fun hc0=> ?_) (fun hc0=> ?_)
 ·have fhc0:ag=true:=hc0
  refine sk (tn (VRun.block (sr (fO (OF.assign (VEv.bool false)) (nt (sr (fO (OF.assign (VEv.int .i64 0)) (nt (VRun.block ?_)))))))))
  refine VRun.loop (A:=Nat×(List Bool)×Bool) (fun s_=> [(1,(T.os 1 1 0 ((s_.2.1.map (Qm true)).length))),(3,(T.op 0 0)),(6,T.nils),(7,(tB s_.2.2)),(8,(tN s_.1))]) (fun s_=>Q4 [(0,(Obj.cells (Qc false g))),(1,(Obj.rows 1 (s_.2.1.map (Qm true))))]) 2 (fun s_=>Inv1 g (seen.set cell true) s s_.1 s_.2.1 s_.2.2) (fun s_=>s_.2.1.length - s_.1) ((0,s,false):Nat×(List Bool)×Bool) ?_ (Wk.mk (fun k=>k) ?_ ?_ ?_) ?_
  ·exact Inv1.start hI1.1
  ·exact (b2 (b2 (b2 (b2 (b2 bn)))))
  ·exact (b3 (b3 bn))
  ·exact nd rfl
  rintro ⟨i,s1,ag1⟩ (hI':Inv1 g (seen.set cell true) s i s1 ag1)
  show VRun _ _ _ [(1,(T.os 1 1 0 ((s1.map (Qm true)).length))),(3,(T.op 0 0)),(6,T.nils),(7,(tB ag1)),(8,(tN i))] (Q4 [(0,(Obj.cells (Qc false g))),(1,(Obj.rows 1 (s1.map (Qm true))))]) 2 _
  have hJ1:=hI'.1
  have hl1:s1.length=g.Cells.size:=by have:=hI'.2.1.1;rw [List.length_set] at this;omega
  refine sq (sr (mO (tN i) rfl (mO (T.os 1 1 0 ((s1.map (Qm true)).length)) rfl (lO (B.lenO (m:=s1.length) (tv (T.os 1 1 0 ((s1.map (Qm true)).length)) rfl) Y8 (List.length_map ..)) (fO (Ze (tv (tN i) rfl) (tv (tN s1.length) rfl)) (nt ?_))))))
  refine cd (i<s1.length) rfl (fun fhc1=> ?_) fun fhc1=> ?_
  ·refine sk ?_
   refine tn (sq (VRun.block (sq (sr (mO (T.os 1 1 0 ((s1.map (Qm true)).length)) rfl (mO (tN i) rfl ?_))))))
   obtain ⟨x2,hx2⟩:∃x,s1[i]? =some x:=⟨_,List.getElem?_eq_getElem (by omega)⟩
   (have e2:on s1 i=x2:=by rw [on,hx2];rfl)
   refine fO (B.indexAddrO (i:=i) (tv (T.os 1 1 0 ((s1.map (Qm true)).length)) rfl) (tv (tN i) rfl) rfl (by (simp only [List.length_map];omega)) Y8 sz4 if4) (lO (OL.loadP1 (t:=(tB x2)) (row:=(Qm true x2)) (tv (T.orp 1 1 i 0) rfl) rfl (Qu _ hx2) rfl rfl st4) (mO (tB x2) rfl ?_))
   refine VRunO.joinB 6 [26,27,28,29,30] 31 (tB (decide ((x2=true)∨(¬(Qs g.Cells i=46))))) ?_ ?_
   ·refine QcF x2 (fun hg25_1=> ?_) (fun hg25_1=> ?_)
    ·have fhg25_1:x2=true:=hg25_1
     refine Qy 5 4 false 25 hg25_1 rfl rfl rfl (fO (OF.pickT (VEv.tmpB rfl hg25_1) (VEv.bool true)) (VRunO.nil ?_))
     exact jq (congrArg T.bool (jOT (dT _) hg25_1)) (js rfl (js rfl (js rfl (js rfl (js rfl (jn))))))
    ·have fhg25_1:x2=false:=hg25_1
     refine Yi (tS g.Cells) hg25_1 rfl rfl rfl rfl QC rfl rfl Z5 (gF hg25_1 rfl rfl (OF.move (tv (tN i) rfl)) ?_)
     have hb2:i<g.Cells.size:=(by omega)
     refine gF hg25_1 rfl rfl (JZ (tv (tS g.Cells) rfl) (tv (tN i) rfl) hb2 U9) (gF hg25_1 rfl rfl (xne (tv (T.int .u8 (Qs g.Cells i)) rfl) (VEv.int .u8 46)) (fO (OF.pickF (VEv.tmpB rfl hg25_1) (tv (tB (!(decide (Qs g.Cells i=46)))) rfl)) (VRunO.nil ?_)))
     exact jq (congrArg T.bool (jOF (dT _) hg25_1 dN)) (js rfl (js rfl (js rfl (js rfl (js rfl (jn))))))
   refine nt ?_
   refine cd ((x2=true)∨(¬(Qs g.Cells i=46))) rfl (fun fhc2=> ?_) fun fhc2=> ?_
   ·have q1:=QiA (g:=g) (s:=s1) (ag:=ag1) (i:=i) (by rintro ⟨h1,h2,h3⟩;rw [e2] at h2;rcases fhc2 with h4 | h4;rw [h2] at h4;cases h4;exact h4 h1)
    refine VRun.exit (vthn.e (vinB.e (tn (VRun.region (mO (tN i) rfl (fO (QB (tv (tN i) rfl) (VEv.int .i64 1) (by omega)) (aO (tN (i+1)) rfl (VRunO.nil (tn ?_)))))))))
    have he3:s1=(YO g s1 i):=by exact q1.1
    refine ⟨((i+1,YO g s1 i,QbV g ag1 s1 i):Nat×(List Bool)×Bool),?_,?_,Wk.mk (fun k=>k) ?_ ?_ ?_⟩
    ·exact hI'.next fhc1
    ·show (YO g s1 i).length - (i+1)<s1.length - i
     have e1:(YO g s1 i).length=s1.length:=by unfold YO;split<;>simp
     rw [e1];omega
    ·exact (bc ⟨(congrArg (fun l_=>T.os 1 1 0 (List.map (Qm true) l_).length) he3),rfl⟩ (b2 (b2 (bc ⟨(congrArg T.bool (show ag1=(QbV g ag1 s1 i) from (by exact q1.2))),rfl⟩ (b2 bn)))))
    ·exact (b3 (bc ⟨(congrArg (fun l_=>some (Obj.rows 1 (List.map (Qm true) l_))) he3),(lb rfl),rfl⟩ bn))
    ·exact nd rfl
   refine sk (tn ?_)
   have hci:=QbC hg (show i<g.Cells.size by omega)
   obtain ⟨m,hm⟩:∃m,m=i % g.Cols.toNat:=⟨_,rfl⟩
   have hq1:0<m→1≤i:=by rw [hm];exact hci.2.1
   have hm6:m<g.Cols.toNat:=by rw [hm];exact hci.1.1
   have hq4:((m+1:Nat):Int)<g.Cols→i+1<g.Cells.size:=by rw [hm];exact hci.2.2.2.1 1
   clear hci
   refine sr (mO (tN i) rfl (lf (tI g.Cols) rfl Zf rfl rfl QU (fO (B.rem (n:=((m:Nat):Int)) (tv (tN i) rfl) (tv (tI g.Cols) rfl) (by omega) (by (rw [hm];refine QlB ?_;omega))) (aO (tN m) rfl (nt (sr (mO (tN m) rfl (fO (B.gtr (c:=(decide (0<m))) (tv (tN m) rfl) (VEv.int .i64 0) (by exact Q9 (by omega))) (mO (tB (decide (0<m))) rfl ?_)))))))))
   refine VRunO.joinB 6 [39,40,41,42,43] 44 (tB (decide ((0<m)∧((s1[i - 1]?.getD false)=true)))) ?_ ?_
   ·refine gw (0<m) (fun fhg38_4=> ?_) fun fhg38_4=> ?_
    ·refine gF (dy fhg38_4) rfl rfl (OF.move (tv (T.os 1 1 0 ((s1.map (Qm true)).length)) rfl)) ?_
     refine gF (dy fhg38_4) rfl rfl (OF.move (tv (tN i) rfl)) (gF (dy fhg38_4) rfl rfl (B.sub (n:=((i - 1:Nat):Int)) (tv (tN i) rfl) (VEv.int .i64 1) (by (rw [Qv (by omega)];omega))) ?_)
     have hy5:s1[i - 1]? =some (s1[i - 1]?.getD false):=J5 false (by omega)
     refine gF (dy fhg38_4) rfl rfl (B.indexAddrO (i:=i - 1) (tv (T.os 1 1 0 ((s1.map (Qm true)).length)) rfl) (tv (tN (i - 1)) rfl) rfl (by (simp only [List.length_map];omega)) Y8 sz4 if4) (gL (dy fhg38_4) rfl rfl (OL.loadP1 (t:=(tB (s1[i - 1]?.getD false))) (row:=(Qm true (s1[i - 1]?.getD false))) (tv (T.orp 1 1 (i - 1) 0) rfl) rfl (Qu _ hy5) rfl rfl st4) (fO (OF.pickT (VEv.tmpB rfl (dy fhg38_4)) (tv (tB (s1[i - 1]?.getD false)) rfl)) (VRunO.nil ?_)))
     exact jq (congrArg T.bool (kAT fhg38_4 (dT _))) (js rfl (js rfl (js rfl (js rfl (js rfl (jn))))))
    ·refine Qy 5 2 true 38 (dz fhg38_4) rfl rfl rfl ?_
     refine fO (OF.pickF (VEv.tmpB rfl (dz fhg38_4)) (VEv.bool false)) (VRunO.nil ?_)
     exact jq (congrArg T.bool (kAF fhg38_4)) (js rfl (js rfl (js rfl (js rfl (js rfl (jn))))))
   refine mO (tB (decide ((0<m)∧((s1[i - 1]?.getD false)=true)))) rfl ?_
   refine VRunO.joinB 13 [46,47,48,49,50,51,52,53,54,55,56,57] 58 (tB (decide (((0<m)∧((s1[i - 1]?.getD false)=true))∨(((((m+1):Nat):Int)<g.Cols)∧((s1[(i+1)]?.getD false)=true))))) ?_ ?_
   ·refine gw ((0<m)∧((s1[i - 1]?.getD false)=true)) (fun fhg45_6=> ?_) fun fhg45_6=> ?_
    ·refine Qy 6 9 false 45 (dy fhg45_6) rfl rfl rfl ?_
     refine J0 5 15 true 51 rfl rfl rfl (oO rfl rfl (dy fhg45_6) (fO (OF.pickT (VEv.tmpB rfl (dy fhg45_6)) (VEv.bool true)) (VRunO.nil ?_)))
     exact jq (congrArg T.bool (kOT fhg45_6)) (js rfl (js rfl (js rfl (js rfl (js rfl (js rfl (js rfl (js rfl (js rfl (js rfl (js rfl (js rfl (jn)))))))))))))
    ·refine gF (dz fhg45_6) rfl rfl (OF.move (tv (tN m) rfl)) ?_
     refine gF (dz fhg45_6) rfl rfl (QB (tv (tN m) rfl) (VEv.int .i64 1) (by omega)) (Yi (tI g.Cols) (dz fhg45_6) rfl rfl rfl rfl Zf rfl rfl QU (gF (dz fhg45_6) rfl rfl (xls (tv (tN (m+1)) rfl) (tv (tI g.Cols) rfl)) (gF (dz fhg45_6) rfl rfl (OF.move (tv (tB (decide ((((m+1):Nat):Int)<g.Cols))) rfl)) ?_)))
     refine VRunO.joinB 6 [52,53,54,55,56] 57 (tB (decide (((((m+1):Nat):Int)<g.Cols)∧((s1[(i+1)]?.getD false)=true)))) ?_ ?_
     ·refine gw ((((m+1):Nat):Int)<g.Cols) (fun fhg51_7=> ?_) fun fhg51_7=> ?_
      ·refine gF (dy fhg51_7) rfl rfl (OF.move (tv (T.os 1 1 0 ((s1.map (Qm true)).length)) rfl)) ?_
       refine gF (dy fhg51_7) rfl rfl (OF.move (tv (tN i) rfl)) (gF (dy fhg51_7) rfl rfl (QB (tv (tN i) rfl) (VEv.int .i64 1) (by omega)) ?_)
       have hy8:s1[(i+1)]? =some (s1[(i+1)]?.getD false):=J5 false (by omega)
       refine gF (dy fhg51_7) rfl rfl (B.indexAddrO (i:=(i+1)) (tv (T.os 1 1 0 ((s1.map (Qm true)).length)) rfl) (tv (tN (i+1)) rfl) rfl (by (simp only [List.length_map];omega)) Y8 sz4 if4) (gL (dy fhg51_7) rfl rfl (OL.loadP1 (t:=(tB (s1[(i+1)]?.getD false))) (row:=(Qm true (s1[(i+1)]?.getD false))) (tv (T.orp 1 1 (i+1) 0) rfl) rfl (Qu _ hy8) rfl rfl st4) (gF (dz fhg45_6) rfl rfl (OF.pickT (VEv.tmpB rfl (dy fhg51_7)) (tv (tB (s1[(i+1)]?.getD false)) rfl)) (VRunO.nil ?_)))
       exact jq (congrArg T.bool (kAT fhg51_7 (dT _))) (js rfl (js rfl (js rfl (js rfl (js rfl (jn))))))
      ·refine Qy 5 15 true 51 (dz fhg51_7) rfl rfl rfl ?_
       refine gF (dz fhg45_6) rfl rfl (OF.pickF (VEv.tmpB rfl (dz fhg51_7)) (VEv.bool false)) (VRunO.nil ?_)
       exact jq (congrArg T.bool (kAF fhg51_7)) (js rfl (js rfl (js rfl (js rfl (js rfl (jn))))))
     refine fO (OF.pickF (VEv.tmpB rfl (dz fhg45_6)) (tv (tB (decide (((((m+1):Nat):Int)<g.Cols)∧((s1[(i+1)]?.getD false)=true)))) rfl)) (VRunO.nil ?_)
     exact jq (congrArg T.bool (kOF fhg45_6 rfl)) (js rfl (js rfl (js rfl (js rfl (js rfl (js rfl (js rfl (js rfl (js rfl (js rfl (js rfl (js rfl (jn)))))))))))))
   refine mO (tB (decide (((0<m)∧((s1[i - 1]?.getD false)=true))∨(((((m+1):Nat):Int)<g.Cols)∧((s1[(i+1)]?.getD false)=true))))) rfl ?_
   refine VRunO.joinB 14 [60,61,62,63,64,65,66,67,68,69,70,71,72] 73 (tB (decide ((((0<m)∧((s1[i - 1]?.getD false)=true))∨(((((m+1):Nat):Int)<g.Cols)∧((s1[(i+1)]?.getD false)=true)))∨((g.Cols≤((i:Nat):Int))∧((s1[i - g.Cols.toNat]?.getD false)=true))))) ?_ ?_
   ·refine gw (((0<m)∧((s1[i - 1]?.getD false)=true))∨(((((m+1):Nat):Int)<g.Cols)∧((s1[(i+1)]?.getD false)=true))) (fun fhg59_9=> ?_) fun fhg59_9=> ?_
    ·refine Qy 5 23 false 59 (dy fhg59_9) rfl rfl rfl ?_
     refine J0 7 28 true 64 rfl rfl rfl (oO rfl rfl (dy fhg59_9) (fO (OF.pickT (VEv.tmpB rfl (dy fhg59_9)) (VEv.bool true)) (VRunO.nil ?_)))
     exact jq (congrArg T.bool (kOT fhg59_9)) (js rfl (js rfl (js rfl (js rfl (js rfl (js rfl (js rfl (js rfl (js rfl (js rfl (js rfl (js rfl (js rfl (jn))))))))))))))
    ·refine gF (dz fhg59_9) rfl rfl (OF.move (tv (tN i) rfl)) ?_
     refine Yi (tI g.Cols) (dz fhg59_9) rfl rfl rfl rfl Zf rfl rfl QU (gF (dz fhg59_9) rfl rfl (xge (tv (tN i) rfl) (tv (tI g.Cols) rfl)) (gF (dz fhg59_9) rfl rfl (OF.move (tv (tB (decide (g.Cols≤((i:Nat):Int)))) rfl)) ?_))
     refine VRunO.joinB 8 [65,66,67,68,69,70,71] 72 (tB (decide ((g.Cols≤((i:Nat):Int))∧((s1[i - g.Cols.toNat]?.getD false)=true)))) ?_ ?_
     ·refine gw (g.Cols≤((i:Nat):Int)) (fun fhg64_10=> ?_) fun fhg64_10=> ?_
      ·refine gF (dy fhg64_10) rfl rfl (OF.move (tv (T.os 1 1 0 ((s1.map (Qm true)).length)) rfl)) ?_
       refine gF (dy fhg64_10) rfl rfl (OF.move (tv (tN i) rfl)) (Yi (tI g.Cols) (dy fhg64_10) rfl rfl rfl rfl Zf rfl rfl QU (gF (dy fhg64_10) rfl rfl (B.sub (n:=((i - g.Cols.toNat:Nat):Int)) (tv (tN i) rfl) (tv (tI g.Cols) rfl) (by (rw [Qv (by omega)];omega))) ?_))
       have hy11:s1[i - g.Cols.toNat]? =some (s1[i - g.Cols.toNat]?.getD false):=J5 false (by omega)
       refine gF (dy fhg64_10) rfl rfl (B.indexAddrO (i:=i - g.Cols.toNat) (tv (T.os 1 1 0 ((s1.map (Qm true)).length)) rfl) (tv (tN (i - g.Cols.toNat)) rfl) rfl (by (simp only [List.length_map];omega)) Y8 sz4 if4) (gL (dy fhg64_10) rfl rfl (OL.loadP1 (t:=(tB (s1[i - g.Cols.toNat]?.getD false))) (row:=(Qm true (s1[i - g.Cols.toNat]?.getD false))) (tv (T.orp 1 1 (i - g.Cols.toNat) 0) rfl) rfl (Qu _ hy11) rfl rfl st4) (gF (dz fhg59_9) rfl rfl (OF.pickT (VEv.tmpB rfl (dy fhg64_10)) (tv (tB (s1[i - g.Cols.toNat]?.getD false)) rfl)) (VRunO.nil ?_)))
       exact jq (congrArg T.bool (kAT fhg64_10 (dT _))) (js rfl (js rfl (js rfl (js rfl (js rfl (js rfl (js rfl (jn))))))))
      ·refine Qy 7 28 true 64 (dz fhg64_10) rfl rfl rfl ?_
       refine gF (dz fhg59_9) rfl rfl (OF.pickF (VEv.tmpB rfl (dz fhg64_10)) (VEv.bool false)) (VRunO.nil ?_)
       exact jq (congrArg T.bool (kAF fhg64_10)) (js rfl (js rfl (js rfl (js rfl (js rfl (js rfl (js rfl (jn))))))))
     refine fO (OF.pickF (VEv.tmpB rfl (dz fhg59_9)) (tv (tB (decide ((g.Cols≤((i:Nat):Int))∧((s1[i - g.Cols.toNat]?.getD false)=true)))) rfl)) (VRunO.nil ?_)
     exact jq (congrArg T.bool (kOF fhg59_9 rfl)) (js rfl (js rfl (js rfl (js rfl (js rfl (js rfl (js rfl (js rfl (js rfl (js rfl (js rfl (js rfl (js rfl (jn))))))))))))))
   refine mO (tB (decide ((((0<m)∧((s1[i - 1]?.getD false)=true))∨(((((m+1):Nat):Int)<g.Cols)∧((s1[(i+1)]?.getD false)=true)))∨((g.Cols≤((i:Nat):Int))∧((s1[i - g.Cols.toNat]?.getD false)=true))))) rfl ?_
   refine VRunO.joinB 17 [75,76,77,78,79,80,81,82,83,84,85,86,87,88,89,90] 91 (tB (decide (((((0<m)∧((s1[i - 1]?.getD false)=true))∨(((((m+1):Nat):Int)<g.Cols)∧((s1[(i+1)]?.getD false)=true)))∨((g.Cols≤((i:Nat):Int))∧((s1[i - g.Cols.toNat]?.getD false)=true)))∨((i+g.Cols.toNat<s1.length)∧((s1[i+g.Cols.toNat]?.getD false)=true))))) ?_ ?_
   ·refine gw ((((0<m)∧((s1[i - 1]?.getD false)=true))∨(((((m+1):Nat):Int)<g.Cols)∧((s1[(i+1)]?.getD false)=true)))∨((g.Cols≤((i:Nat):Int))∧((s1[i - g.Cols.toNat]?.getD false)=true))) (fun fhg74_12=> ?_) fun fhg74_12=> ?_
    ·refine Qy 8 38 false 74 (dy fhg74_12) rfl rfl rfl ?_
     refine J0 7 46 true 82 rfl rfl rfl (oO rfl rfl (dy fhg74_12) (fO (OF.pickT (VEv.tmpB rfl (dy fhg74_12)) (VEv.bool true)) (VRunO.nil ?_)))
     exact jq (congrArg T.bool (kOT fhg74_12)) (js rfl (js rfl (js rfl (js rfl (js rfl (js rfl (js rfl (js rfl (js rfl (js rfl (js rfl (js rfl (js rfl (js rfl (js rfl (js rfl (jn)))))))))))))))))
    ·refine gF (dz fhg74_12) rfl rfl (OF.move (tv (tN i) rfl)) ?_
     refine Yi (tI g.Cols) (dz fhg74_12) rfl rfl rfl rfl Zf rfl rfl QU (gF (dz fhg74_12) rfl rfl (B.add (n:=((i+g.Cols.toNat:Nat):Int)) (tv (tN i) rfl) (tv (tI g.Cols) rfl) (by (rw [Qv (by omega)];omega))) (gF (dz fhg74_12) rfl rfl (OF.move (tv (T.os 1 1 0 ((s1.map (Qm true)).length)) rfl)) (gL (dz fhg74_12) rfl rfl (B.lenO (m:=s1.length) (tv (T.os 1 1 0 ((s1.map (Qm true)).length)) rfl) Y8 (List.length_map ..)) (gF (dz fhg74_12) rfl rfl (Ze (tv (tN (i+g.Cols.toNat)) rfl) (tv (tN s1.length) rfl)) (gF (dz fhg74_12) rfl rfl (OF.move (tv (tB (decide (i+g.Cols.toNat<s1.length))) rfl)) ?_)))))
     refine VRunO.joinB 8 [83,84,85,86,87,88,89] 90 (tB (decide ((i+g.Cols.toNat<s1.length)∧((s1[i+g.Cols.toNat]?.getD false)=true)))) ?_ ?_
     ·refine gw (i+g.Cols.toNat<s1.length) (fun fhg82_13=> ?_) fun fhg82_13=> ?_
      ·refine gF (dy fhg82_13) rfl rfl (OF.move (tv (T.os 1 1 0 ((s1.map (Qm true)).length)) rfl)) ?_
       refine gF (dy fhg82_13) rfl rfl (OF.move (tv (tN i) rfl)) (Yi (tI g.Cols) (dy fhg82_13) rfl rfl rfl rfl Zf rfl rfl QU (gF (dy fhg82_13) rfl rfl (B.add (n:=((i+g.Cols.toNat:Nat):Int)) (tv (tN i) rfl) (tv (tI g.Cols) rfl) (by (rw [Qv (by omega)];omega))) ?_))
       have hy14:s1[i+g.Cols.toNat]? =some (s1[i+g.Cols.toNat]?.getD false):=J5 false (by omega)
       refine gF (dy fhg82_13) rfl rfl (B.indexAddrO (i:=i+g.Cols.toNat) (tv (T.os 1 1 0 ((s1.map (Qm true)).length)) rfl) (tv (tN (i+g.Cols.toNat)) rfl) rfl (by (simp only [List.length_map];omega)) Y8 sz4 if4) (gL (dy fhg82_13) rfl rfl (OL.loadP1 (t:=(tB (s1[i+g.Cols.toNat]?.getD false))) (row:=(Qm true (s1[i+g.Cols.toNat]?.getD false))) (tv (T.orp 1 1 (i+g.Cols.toNat) 0) rfl) rfl (Qu _ hy14) rfl rfl st4) (gF (dz fhg74_12) rfl rfl (OF.pickT (VEv.tmpB rfl (dy fhg82_13)) (tv (tB (s1[i+g.Cols.toNat]?.getD false)) rfl)) (VRunO.nil ?_)))
       exact jq (congrArg T.bool (kAT fhg82_13 (dT _))) (js rfl (js rfl (js rfl (js rfl (js rfl (js rfl (js rfl (jn))))))))
      ·refine Qy 7 46 true 82 (dz fhg82_13) rfl rfl rfl ?_
       refine gF (dz fhg74_12) rfl rfl (OF.pickF (VEv.tmpB rfl (dz fhg82_13)) (VEv.bool false)) (VRunO.nil ?_)
       exact jq (congrArg T.bool (kAF fhg82_13)) (js rfl (js rfl (js rfl (js rfl (js rfl (js rfl (js rfl (jn))))))))
     refine fO (OF.pickF (VEv.tmpB rfl (dz fhg74_12)) (tv (tB (decide ((i+g.Cols.toNat<s1.length)∧((s1[i+g.Cols.toNat]?.getD false)=true)))) rfl)) (VRunO.nil ?_)
     exact jq (congrArg T.bool (kOF fhg74_12 rfl)) (js rfl (js rfl (js rfl (js rfl (js rfl (js rfl (js rfl (js rfl (js rfl (js rfl (js rfl (js rfl (js rfl (js rfl (js rfl (js rfl (jn)))))))))))))))))
   refine aO (tB (decide (((((0<m)∧((s1[i - 1]?.getD false)=true))∨(((((m+1):Nat):Int)<g.Cols)∧((s1[(i+1)]?.getD false)=true)))∨((g.Cols≤((i:Nat):Int))∧((s1[i - g.Cols.toNat]?.getD false)=true)))∨((i+g.Cols.toNat<s1.length)∧((s1[i+g.Cols.toNat]?.getD false)=true))))) rfl (nt (sr (mO (tB (decide (((((0<m)∧((s1[i - 1]?.getD false)=true))∨(((((m+1):Nat):Int)<g.Cols)∧((s1[(i+1)]?.getD false)=true)))∨((g.Cols≤((i:Nat):Int))∧((s1[i - g.Cols.toNat]?.getD false)=true)))∨((i+g.Cols.toNat<s1.length)∧((s1[i+g.Cols.toNat]?.getD false)=true))))) rfl (nt ?_))))
   refine cd (((((0<m)∧((s1[i - 1]?.getD false)=true))∨(((((m+1):Nat):Int)<g.Cols)∧((s1[(i+1)]?.getD false)=true)))∨((g.Cols≤((i:Nat):Int))∧((s1[i - g.Cols.toNat]?.getD false)=true)))∨((i+g.Cols.toNat<s1.length)∧((s1[i+g.Cols.toNat]?.getD false)=true))) rfl (fun fhc3=> ?_) fun fhc3=> ?_
   ·rw [hm] at fhc3
    have q1:=Qky (g:=g) (s:=s1) (ag:=ag1) (i:=i) ⟨by omega,on_no.2 (fun h=>fhc2 (.inl (e2.symm.trans h))),(QhD hB.1 fhc1).1 fhc3⟩
    refine sr (mO (T.os 1 1 0 ((s1.map (Qm true)).length)) rfl (mO (tN i) rfl (fO (B.indexAddrO (i:=i) (tv (T.os 1 1 0 ((s1.map (Qm true)).length)) rfl) (tv (tN i) rfl) rfl (by (simp only [List.length_map];omega)) Y8 sz4 if4) (cO (B.storeP (us:= [(tB true)]) (rows':=((s1.set i true).map (Qm true))) (row:=(Qm true x2)) (tv (T.orp 1 1 i 0) rfl) (VEv.bool true) nofun rfl (Qu _ hx2) rfl (lb rfl) if4 sz4 (bc rfl bn) (by intro r hr t ht;obtain ⟨x,_,rfl⟩:=List.mem_map.1 hr;rw [Qgm] at ht;exact ZA (okBool.pl _ t ht)) (Zw rfl)) (nt (VRun.region (fO (OF.assign (VEv.bool true)) (VRunO.nil (vinB.n (tn (VRun.region ?_)))))))))))
    refine mO (tN i) rfl (fO (QB (tv (tN i) rfl) (VEv.int .i64 1) (by omega)) (aO (tN (i+1)) rfl (VRunO.nil (tn ?_))))
    have he15:(s1.set i true)=(YO g s1 i):=by exact q1.1
    refine ⟨((i+1,YO g s1 i,QbV g ag1 s1 i):Nat×(List Bool)×Bool),?_,?_,Wk.mk (fun k=>k) ?_ ?_ ?_⟩
    ·exact hI'.next fhc1
    ·show (YO g s1 i).length - (i+1)<s1.length - i
     have e1:(YO g s1 i).length=s1.length:=by unfold YO;split<;>simp
     rw [e1];omega
    ·exact (bc ⟨(congrArg (fun n_=>T.os 1 1 0 n_) (show (s1.map (Qm true)).length=((YO g s1 i).map (Qm true)).length from (by (rw [← q1.1];simp;done)))),rfl⟩ (b2 (b2 (bc ⟨(congrArg T.bool (show true=(QbV g ag1 s1 i) from (by exact q1.2))),rfl⟩ (b2 bn)))))
    ·exact (b3 (bc ⟨(congrArg (fun l_=>some (Obj.rows 1 (List.map (Qm true) l_))) he15),(lb rfl),rfl⟩ bn))
    ·exact nd rfl
   rw [hm] at fhc3
   have q1:=QiA (g:=g) (s:=s1) (ag:=ag1) (i:=i) (by rintro ⟨h1,h2,h3⟩;exact fhc3 ((QhD hB.1 fhc1).2 h3))
   refine sk (vinB.n (tn (VRun.region (mO (tN i) rfl (fO (QB (tv (tN i) rfl) (VEv.int .i64 1) (by omega)) (aO (tN (i+1)) rfl (VRunO.nil (tn ?_))))))))
   have he16:s1=(YO g s1 i):=by exact q1.1
   refine ⟨((i+1,YO g s1 i,QbV g ag1 s1 i):Nat×(List Bool)×Bool),?_,?_,Wk.mk (fun k=>k) ?_ ?_ ?_⟩
   ·exact hI'.next fhc1
   ·show (YO g s1 i).length - (i+1)<s1.length - i
    have e1:(YO g s1 i).length=s1.length:=by unfold YO;split<;>simp
    rw [e1];omega
   ·exact (bc ⟨(congrArg (fun l_=>T.os 1 1 0 (List.map (Qm true) l_).length) he16),rfl⟩ (b2 (b2 (bc ⟨(congrArg T.bool (show ag1=(QbV g ag1 s1 i) from (by exact q1.2))),rfl⟩ (b2 bn)))))
   ·exact (b3 (bc ⟨(congrArg (fun l_=>some (Obj.rows 1 (List.map (Qm true) l_))) he16),(lb rfl),rfl⟩ bn))
   ·exact nd rfl
  refine VRun.exit (vthn.e (vthn.e (vinB.e (vinB.n (tn ?_)))))
  refine ⟨((ag1,s1):Bool×(List Bool)),?_,?_,Wk.mk (fun k=>k) ?_ ?_ ?_⟩
  ·exact hI'.done fhc1
  ·exact hI'.dec fhc0
  ·exact (b2 (b2 (b2 (b2 bn))))
  ·exact (b3 (b3 bn))
  ·exact nd rfl
 have fhc0:ag=false:=hc0
 refine VRun.exit (vthn.e (vthn.e (vinB.e (tn (sr (mO (T.os 1 1 0 ((s.map (Qm true)).length)) rfl (aO (T.os 1 1 0 ((s.map (Qm true)).length)) rfl (nt (rt ?_)))))))))
 have hnew:s=Zd g (seen.set cell true):=by
  exact hI'.done (by simp [fhc0])
 exact vloan.r 1 (VRes.tmp (t:=(T.os 1 1 0 ((s.map (Qm true)).length))) rfl VRes.nil) (congrArg (fun l_=>T.os 1 1 0 (List.map (Qm true) l_).length) hnew) (congrArg (fun n_=>T.os 1 1 0 n_) (show (s.map (Qm true)).length=(seen.map (Qm true)).length from (by (simp only [List.length_map,Qb5,List.length_set];omega)))) rfl (congrArg (List.map (Qm true)) hnew)
end Go.Proofs.YtcccmceoplcciaaGreat.AE
namespace Go.Proofs.YtcccmceoplcciaaGreat.AE
open Go Go.RowKit
set_option linter.unusedVariables false
set_option linter.unusedSimpArgs false
set_option maxRecDepth 20000
set_option maxHeartbeats 2000000
noncomputable section
def Qfh (a b:List Bool):List Bool:=List.zipWith (fun x y=>x || y) a b
def ZM (a b:List Bool) (k:Nat):List Bool:=(Qfh a b).take k++a.drop k
theorem JS {a b:List Bool} (h:b.length=a.length):(Qfh a b).length=a.length:=by simp [Qfh,h]
theorem QcZ {a b:List Bool} {k:Nat} (h:b.length=a.length) (hk:k≤a.length):(ZM a b k).length=a.length:=by
 unfold ZM
 rw [List.length_append,List.length_take,JS h,List.length_drop];omega
theorem QjV {a b:List Bool} {k:Nat} {x:Bool} (h:b.length=a.length) (hk:k<a.length) (hx:(ZM a b k)[k]? =some x):x=on a k:=by
 unfold ZM at hx
 rw [List.getElem?_append_right (by rw [List.length_take,JS h];omega),List.length_take,JS h,Nat.min_eq_left (by omega),Nat.sub_self,List.getElem?_drop,Nat.add_zero] at hx
 rw [on,hx];rfl
theorem Qie {a b:List Bool} (h:b.length=a.length) (j:Nat):on (Qfh a b) j=(on a j || on b j):=by
 unfold on Qfh
 rw [List.getElem?_zipWith]
 rcases Nat.lt_or_ge j a.length with h1 | h1
 ·rw [List.getElem?_eq_getElem h1,List.getElem?_eq_getElem (by omega)];rfl
 ·rw [List.getElem?_eq_none h1,List.getElem?_eq_none (by omega)];rfl
theorem Qif {a b:List Bool} {k:Nat} {v:Bool} (h:b.length=a.length) (hk:k<a.length) (hv:v=(on a k || on b k)):(ZM a b k).set k v=ZM a b (k+1):=by
 have hl:=JS h
 have hu:(Qfh a b)[k]? =some v:=by
  have h1:=Qie h k
  unfold on at h1 hv
  rw [List.getElem?_eq_getElem (by omega)] at h1 ⊢
  rw [hv,← h1];rfl
 unfold ZM
 rw [List.set_append_right _ _ (by rw [List.length_take];omega),List.length_take,hl,Nat.min_eq_left (by omega),Nat.sub_self,List.drop_eq_getElem_cons hk,List.set_cons_zero,List.take_add_one,hu]
 simp
theorem Qid {a b:List Bool} {k:Nat} (h:b.length=a.length) (hk:¬k<a.length):ZM a b k=Qfh a b:=by
 unfold ZM
 rw [List.take_of_length_le (by rw [JS h];omega),List.drop_of_length_le (by omega),List.append_nil]
def fresh (g:D.Grid) (i:Nat):List Bool:=Zd g ((List.replicate g.Cells.size false).set i true)
def QcI (g:D.Grid) (s:List Bool) (i:Nat):Prop:=Qs g.Cells i=46∧on s i=false
instance (g:D.Grid) (s:List Bool) (i:Nat):Decidable (QcI g s i):=Classical.propDecidable _
def Qn (g:D.Grid):Nat→Nat×List Bool
 | 0=>(0,List.replicate g.Cells.size false)
 | i+1=>if QcI g (Qn g i).2 i then ((Qn g i).1+1,Qfh (Qn g i).2 (fresh g i)) else Qn g i
theorem QaE (g:D.Grid) (i:Nat):(fresh g i).length=g.Cells.size:=by simp [fresh,Qb5]
theorem Y2 (g:D.Grid):∀i,(Qn g i).2.length=g.Cells.size
 | 0=>by simp [Qn]
 | i+1=>by
  have h:=Y2 g i
  unfold Qn
  split
  ·simp only;rw [JS (by rw [QaE,h])];exact h
  ·exact h
theorem Qdv (g:D.Grid):∀i,(Qn g i).1≤i
 | 0=>Nat.le_refl _
 | i+1=>by
  have h:=Qdv g i
  unfold Qn
  split
  ·simp only;omega
  ·omega
theorem Qc1 {g:D.Grid} {i:Nat} (h:QcI g (Qn g i).2 i):(Qn g (i+1)).1=(Qn g i).1+1∧(Qn g (i+1)).2=Qfh (Qn g i).2 (fresh g i):=by
 rw [Qn,if_pos h];exact ⟨rfl,rfl⟩
theorem Qbb {g:D.Grid} {i:Nat} (h:¬QcI g (Qn g i).2 i):Qn g (i+1)=Qn g i:=by
 rw [Qn,if_neg h]
def ZZ (g:D.Grid):Nat:=if gridOk g then (Qn g g.Cells.size).1 else 0
theorem Qfy {g:D.Grid} {i:Nat} (h1:i≤g.Cells.size) (h2:gridOk g∨i=0) (h3:¬(i<g.Cells.size∧gridOk g)):(Qn g i).1=ZZ g:=by
 unfold ZZ
 by_cases hg:gridOk g
 ·rw [if_pos hg,show i=g.Cells.size by have:¬i<g.Cells.size:=fun h=>h3 ⟨h,hg⟩;omega]
 ·rw [if_neg hg,h2.resolve_left hg];rfl
theorem orB (x y:Bool):decide (x=true∨y=true)=(x || y):=by cases x<;>cases y<;>rfl
end
theorem Qef (n:Nat) (g:D.Grid) (hc:g.Cells.size≤mx):Pure (Qq Tryz.prog (n+3)) 157 [(T.agg (Qc false g))] (tN (ZZ g)):=by
 refine Pure.intro (rs:= [ResultVar.tmp 2]) Tryz.func157 rfl rfl rfl (E0:= [(0,(T.agg (Qc false g)))]) rfl ?_
 obtain ⟨hlim,hmx,hmax⟩:=QG
 refine sr (kO (B.box (ts:=(Qc false g)) (tv (T.agg (Qc false g)) rfl) nofun rfl) (fO (OF.assign (VEv.int .i64 0)) (nt (sr (fO (OF.assign (VEv.int .i64 0)) (nt (sr (kO (OM.slice0 Y8 zo4 (by kernel_rfl) rfl (by rw [sz4];decide) sz4) (aO (T.os 1 1 0 0) rfl (nt (sq ?_)))))))))))
 refine sr (fO (OF.assign (VEv.int .i64 0)) (nt (VRun.block ?_)))
 have he1: []=((List.replicate 0 false).map (Qm true)):=by rfl
 refine VRun.loop (A:=Nat) (fun s_=> [(1,(T.op 0 0)),(2,(tN 0)),(3,(tN 0)),(4,(T.os 1 1 0 (((List.replicate s_ false).map (Qm true)).length))),(5,(tN s_))]) (fun s_=>Q4 [(0,(Obj.cells (Qc false g))),(1,(Obj.rows 1 ((List.replicate s_ false).map (Qm true))))]) 2 (fun s_=>s_≤g.Cells.size) (fun s_=>g.Cells.size - s_) (0:Nat) ?_ (Wk.mk (fun k=>k) ?_ ?_ ?_) ?_
 ·(simp;done)
 ·exact (b2 (b2 (b2 (bc ⟨(congrArg (fun n_=>T.os 1 1 0 n_) (show 0=((List.replicate 0 false).map (Qm true)).length from (by rfl))),rfl⟩ (b2 bn)))))
 ·exact (b3 (bc ⟨(congrArg (fun l_=>some (Obj.rows 1 l_)) he1),(lb rfl),rfl⟩ bn))
 ·exact nd rfl
 rintro k (hI':k≤g.Cells.size)
 show VRun _ _ _ [(1,(T.op 0 0)),(2,(tN 0)),(3,(tN 0)),(4,(T.os 1 1 0 (((List.replicate k false).map (Qm true)).length))),(5,(tN k))] (Q4 [(0,(Obj.cells (Qc false g))),(1,(Obj.rows 1 ((List.replicate k false).map (Qm true))))]) 2 _
 have hK1:=hI'
 refine sq (sr (mO (tN k) rfl (lf (tS g.Cells) rfl QC rfl rfl Z5 (lO (B.lenS (tv (tS g.Cells) rfl) U9) (fO (Ze (tv (tN k) rfl) (tv (tN g.Cells.size) rfl)) (nt ?_))))))
 refine cd (k<g.Cells.size) rfl (fun fhc0=> ?_) fun fhc0=> ?_
 ·refine sk ?_
  refine tn (sq (VRun.block (VRun.region (mO (T.os 1 1 0 (((List.replicate k false).map (Qm true)).length)) rfl (kO (OM.buildSlice (l:= [(tB false)]) (VEvp.cons (VEv.bool false) VEvp.nil) rfl (by decide) (bc (nofun) bn) (bc ((bc (rfl) bn)) bn) (bc (rfl) bn) Y8 zo4 (by kernel_rfl) rfl (by rw [sz4];decide) sz4 (Nat.le_of_ble_eq_true rfl)) (cO (B.append (rows:=((List.replicate k false).map (Qm true))) (rows2:= [[(tB false)]]) (rows3:=((List.replicate k false++ [false]).map (Qm true))) (VDst.own (tv (T.os 1 1 0 (((List.replicate k false).map (Qm true)).length)) rfl) rfl rfl) (VSrc.own (tv (T.os 1 2 0 1) rfl) rfl rfl Y8 (bc (bc rfl bn) bn)) (by decide) Y8 sz4 (by decide) zo4 rfl (of_decide_eq_true (by kernel_rfl)) (by (simp only [List.length_map,List.length_append,List.length_cons,List.length_nil,List.length_replicate,List.length_set,List.length_drop,List.length_take,Jn] at *;omega)) ((List.map_append (f:=Qm true) (l₁:=List.replicate k false) (l₂:= [false])).symm)) (aO (T.os 1 3 0 (((List.replicate k false++ [false]).map (Qm true)).length)) rfl (VRunO.nil (vinB.n (tn (VRun.region ?_)))))))))))
  refine mO (tN k) rfl (fO (QB (tv (tN k) rfl) (VEv.int .i64 1) (by omega)) (aO (tN (k+1)) rfl (VRunO.nil (tn ?_))))
  have he2:(List.replicate k false++ [false])=List.replicate (k+1) false:=by rw [List.replicate_succ']
  refine ⟨(k+1:Nat),?_,?_,Wk.mk (fun k=>if k=1 then 3 else k) ?_ ?_ ?_⟩
  ·trivial
  ·omega
  ·exact (b2 (b2 (b2 (bc ⟨(congrArg (fun l_=>T.os 1 3 0 (List.map (Qm true) l_).length) he2),rfl⟩ (b2 bn)))))
  ·exact (b3 (bc ⟨(congrArg (fun l_=>some (Obj.rows 1 (List.map (Qm true) l_))) he2),(lb rfl),rfl⟩ bn))
  ·exact nd rfl
 refine VRun.exit (vthn.e (vthn.e (vinB.e (tn (sq (sr (fO (OF.assign (VEv.int .i64 0)) (nt (VRun.block ?_)))))))))
 have he3:List.replicate k false=(Qn g 0).2:=by (show List.replicate k false=List.replicate g.Cells.size false;rw [show k=g.Cells.size by omega])
 refine VRun.loop (A:=Nat) (fun s_=> [(1,(T.op 0 0)),(2,(tN 0)),(3,(tN ((Qn g s_).1))),(4,(T.os 1 1 0 ((((Qn g s_).2).map (Qm true)).length))),(6,(tN s_))]) (fun s_=>Q4 [(0,(Obj.cells (Qc false g))),(1,(Obj.rows 1 (((Qn g s_).2).map (Qm true))))]) 2 (fun s_=>s_≤g.Cells.size∧(gridOk g∨s_=0)) (fun s_=>g.Cells.size - s_) (0:Nat) ?_ (Wk.mk (fun k=>k) ?_ ?_ ?_) ?_
 ·exact ⟨Nat.zero_le _, .inr rfl⟩
 ·exact (b2 (b2 (bc ⟨(congrArg (T.int .i64) (show 0=(((Qn g 0).1:Nat):Int) from (by rfl))),rfl⟩ (bc ⟨(congrArg (fun l_=>T.os 1 1 0 (List.map (Qm true) l_).length) he3),rfl⟩ (b2 bn)))))
 ·exact (b3 (bc ⟨(congrArg (fun l_=>some (Obj.rows 1 (List.map (Qm true) l_))) he3),(lb rfl),rfl⟩ bn))
 ·exact nd rfl
 rintro i (hI':i≤g.Cells.size∧(gridOk g∨i=0))
 show VRun _ _ _ [(1,(T.op 0 0)),(2,(tN 0)),(3,(tN ((Qn g i).1))),(4,(T.os 1 1 0 ((((Qn g i).2).map (Qm true)).length))),(6,(tN i))] (Q4 [(0,(Obj.cells (Qc false g))),(1,(Obj.rows 1 (((Qn g i).2).map (Qm true))))]) 2 _
 have hI1:=hI'.1
 have hpl:=Y2 g i
 have hpn:=Qdv g i
 refine sq (sr (mO (tN i) rfl (lf (tS g.Cells) rfl QC rfl rfl Z5 (lO (B.lenS (tv (tS g.Cells) rfl) U9) (fO (Ze (tv (tN i) rfl) (tv (tN g.Cells.size) rfl)) (mO (tB (decide (i<g.Cells.size))) rfl ?_))))))
 refine VRunO.joinB 3 [27,28] 29 (tB (decide ((i<g.Cells.size)∧(gridOk g)))) ?_ ?_
 ·refine gw (i<g.Cells.size) (fun fhg26_4=> ?_) fun fhg26_4=> ?_
  ·refine gL (dy fhg26_4) rfl rfl (OL.loadOn (us:=(Qc false g)) (tv (T.op 0 0) rfl) rfl Q1 QT (lb rfl) rfl) ?_
   refine VRunO.chain (VWant.on rfl rfl (dy fhg26_4)) (cS (vc (tv (T.agg (Qc false g)) rfl) vn) (LendL.cons (lg Qt) ln) (ZU (n+0) g (by omega)) rfl rfl) (fO (OF.pickT (VEv.tmpB rfl (dy fhg26_4)) (tv (tB (decide (gridOk g))) rfl)) (VRunO.nil ?_))
   exact jq (congrArg T.bool (kAT fhg26_4 rfl)) (js rfl (js rfl (jn)))
  ·refine Qy 2 5 true 26 (dz fhg26_4) rfl rfl rfl ?_
   refine fO (OF.pickF (VEv.tmpB rfl (dz fhg26_4)) (VEv.bool false)) (VRunO.nil ?_)
   exact jq (congrArg T.bool (kAF fhg26_4)) (js rfl (js rfl (jn)))
 refine nt ?_
 refine cd ((i<g.Cells.size)∧(gridOk g)) rfl (fun fhc1=> ?_) fun fhc1=> ?_
 ·refine sk ?_
  refine tn (sq (VRun.block (sr (lf (tS g.Cells) rfl QC rfl rfl Z5 (mO (tN i) rfl ?_)))))
  have hb5:i<g.Cells.size:=(by omega)
  refine fO (JZ (tv (tS g.Cells) rfl) (tv (tN i) rfl) hb5 U9) (fO (Y7 (tv (T.int .u8 (Qs g.Cells i)) rfl) (VEv.int .u8 46)) (mO (tB (decide (Qs g.Cells i=46))) rfl ?_))
  refine VRunO.joinB 6 [38,39,40,41,42] 43 (tB (decide ((Qs g.Cells i=46)∧((!(((Qn g i).2)[i]?.getD false))=true)))) ?_ ?_
  ·refine gw (Qs g.Cells i=46) (fun fhg37_6=> ?_) fun fhg37_6=> ?_
   ·refine gF (dy fhg37_6) rfl rfl (OF.move (tv (T.os 1 1 0 ((((Qn g i).2).map (Qm true)).length)) rfl)) ?_
    refine gF (dy fhg37_6) rfl rfl (OF.move (tv (tN i) rfl)) ?_
    have hy7:((Qn g i).2)[i]? =some (((Qn g i).2)[i]?.getD false):=J5 false (by omega)
    refine gF (dy fhg37_6) rfl rfl (B.indexAddrO (i:=i) (tv (T.os 1 1 0 ((((Qn g i).2).map (Qm true)).length)) rfl) (tv (tN i) rfl) rfl (by (simp only [List.length_map];omega)) Y8 sz4 if4) (gL (dy fhg37_6) rfl rfl (OL.loadP1 (t:=(tB (((Qn g i).2)[i]?.getD false))) (row:=(Qm true (((Qn g i).2)[i]?.getD false))) (tv (T.orp 1 1 i 0) rfl) rfl (Qu _ hy7) rfl rfl st4) (gF (dy fhg37_6) rfl rfl (QS (tv (tB (((Qn g i).2)[i]?.getD false)) rfl)) (fO (OF.pickT (VEv.tmpB rfl (dy fhg37_6)) (tv (tB (!(((Qn g i).2)[i]?.getD false))) rfl)) (VRunO.nil ?_))))
    exact jq (congrArg T.bool (kAT fhg37_6 (dT _))) (js rfl (js rfl (js rfl (js rfl (js rfl (jn))))))
   ·refine Qy 5 5 true 37 (dz fhg37_6) rfl rfl rfl ?_
    refine fO (OF.pickF (VEv.tmpB rfl (dz fhg37_6)) (VEv.bool false)) (VRunO.nil ?_)
    exact jq (congrArg T.bool (kAF fhg37_6)) (js rfl (js rfl (js rfl (js rfl (js rfl (jn))))))
  refine nt ?_
  refine cd ((Qs g.Cells i=46)∧((!(((Qn g i).2)[i]?.getD false))=true)) rfl (fun fhc2=> ?_) fun fhc2=> ?_
  ·have q0:QcI g (Qn g i).2 i:=⟨fhc2.1,by simpa [on] using fhc2.2⟩
   have q1:=Qc1 q0
   have hgs:=fhc1.2.size
   refine sr (mO (tN ((Qn g i).1)) rfl (fO (QB (tv (tN ((Qn g i).1)) rfl) (VEv.int .i64 1) (by omega)) (aO (tN ((Qn g i).1+1)) rfl (nt (sr (kO (OM.slice0 Y8 zo4 (by kernel_rfl) rfl (by rw [sz4];decide) sz4) (aO (T.os 1 2 0 0) rfl (nt (sq (sr (fO (OF.assign (VEv.int .i64 0)) ?_)))))))))))
   refine nt (VRun.block ?_)
   have he8: []=((List.replicate 0 false).map (Qm true)):=by rfl
   refine VRun.loop (A:=Nat) (fun s_=> [(1,(T.op 0 0)),(2,(tN 0)),(3,(tN ((Qn g i).1+1))),(4,(T.os 1 1 0 ((((Qn g i).2).map (Qm true)).length))),(6,(tN i)),(7,(T.os 1 2 0 (((List.replicate s_ false).map (Qm true)).length))),(8,(tN s_))]) (fun s_=>Q4 [(0,(Obj.cells (Qc false g))),(1,(Obj.rows 1 (((Qn g i).2).map (Qm true)))),(2,(Obj.rows 1 ((List.replicate s_ false).map (Qm true))))]) 3 (fun s_=>s_≤(Qn g i).2.length) (fun s_=>(Qn g i).2.length - s_) (0:Nat) ?_ (Wk.mk (fun k=>k) ?_ ?_ ?_) ?_
   ·(simp;done)
   ·exact (b2 (b2 (b2 (b2 (b2 (bc ⟨(congrArg (fun n_=>T.os 1 2 0 n_) (show 0=((List.replicate 0 false).map (Qm true)).length from (by rfl))),rfl⟩ (b2 bn)))))))
   ·exact (b3 (b3 (bc ⟨(congrArg (fun l_=>some (Obj.rows 1 l_)) he8),(lb rfl),rfl⟩ bn)))
   ·exact nd rfl
   rintro k1 (hI':k1≤(Qn g i).2.length)
   show VRun _ _ _ [(1,(T.op 0 0)),(2,(tN 0)),(3,(tN ((Qn g i).1+1))),(4,(T.os 1 1 0 ((((Qn g i).2).map (Qm true)).length))),(6,(tN i)),(7,(T.os 1 2 0 (((List.replicate k1 false).map (Qm true)).length))),(8,(tN k1))] (Q4 [(0,(Obj.cells (Qc false g))),(1,(Obj.rows 1 (((Qn g i).2).map (Qm true)))),(2,(Obj.rows 1 ((List.replicate k1 false).map (Qm true))))]) 3 _
   have hK1:=hI'
   refine sq (sr (mO (tN k1) rfl (mO (T.os 1 1 0 ((((Qn g i).2).map (Qm true)).length)) rfl (lO (B.lenO (m:=((Qn g i).2).length) (tv (T.os 1 1 0 ((((Qn g i).2).map (Qm true)).length)) rfl) Y8 (List.length_map ..)) (fO (Ze (tv (tN k1) rfl) (tv (tN (((Qn g i).2).length)) rfl)) (nt ?_))))))
   refine cd (k1<((Qn g i).2).length) rfl (fun fhc3=> ?_) fun fhc3=> ?_
   ·refine sk ?_
    refine tn (sq (VRun.block (VRun.region (mO (T.os 1 2 0 (((List.replicate k1 false).map (Qm true)).length)) rfl (kO (OM.buildSlice (l:= [(tB false)]) (VEvp.cons (VEv.bool false) VEvp.nil) rfl (by decide) (bc (nofun) bn) (bc ((bc (rfl) bn)) bn) (bc (rfl) bn) Y8 zo4 (by kernel_rfl) rfl (by rw [sz4];decide) sz4 (Nat.le_of_ble_eq_true rfl)) (cO (B.append (rows:=((List.replicate k1 false).map (Qm true))) (rows2:= [[(tB false)]]) (rows3:=((List.replicate k1 false++ [false]).map (Qm true))) (VDst.own (tv (T.os 1 2 0 (((List.replicate k1 false).map (Qm true)).length)) rfl) rfl rfl) (VSrc.own (tv (T.os 1 3 0 1) rfl) rfl rfl Y8 (bc (bc rfl bn) bn)) (by decide) Y8 sz4 (by decide) zo4 rfl (of_decide_eq_true (by kernel_rfl)) (by (simp only [List.length_map,List.length_append,List.length_cons,List.length_nil,List.length_replicate,List.length_set,List.length_drop,List.length_take,Jn] at *;omega)) ((List.map_append (f:=Qm true) (l₁:=List.replicate k1 false) (l₂:= [false])).symm)) (aO (T.os 1 4 0 (((List.replicate k1 false++ [false]).map (Qm true)).length)) rfl (VRunO.nil (vinB.n (tn (VRun.region ?_)))))))))))
    refine mO (tN k1) rfl (fO (QB (tv (tN k1) rfl) (VEv.int .i64 1) (by omega)) (aO (tN (k1+1)) rfl (VRunO.nil (tn ?_))))
    have he9:(List.replicate k1 false++ [false])=List.replicate (k1+1) false:=by rw [List.replicate_succ']
    refine ⟨(k1+1:Nat),?_,?_,Wk.mk (fun k=>if k=2 then 4 else k) ?_ ?_ ?_⟩
    ·trivial
    ·omega
    ·exact (b2 (b2 (b2 (b2 (b2 (bc ⟨(congrArg (fun l_=>T.os 1 4 0 (List.map (Qm true) l_).length) he9),rfl⟩ (b2 bn)))))))
    ·exact (b3 (b3 (bc ⟨(congrArg (fun l_=>some (Obj.rows 1 (List.map (Qm true) l_))) he9),(lb rfl),rfl⟩ bn)))
    ·exact nd rfl
   have hk6:k1=g.Cells.size:=by omega
   have hq4:(fresh g i).length=(Qn g i).2.length:=by rw [QaE,hpl]
   have hfr:Zd g ((List.replicate k1 false).set i true)=fresh g i:=by rw [fresh,hk6]
   have hrl:(Zd g ((List.replicate k1 false).set i true)).length=g.Cells.size:=by rw [hfr,QaE]
   refine VRun.exit (vthn.e (vthn.e (vinB.e (tn (sr (lO (OL.loadOn (us:=(Qc false g)) (tv (T.op 0 0) rfl) rfl Q1 QT (lb rfl) rfl) (mO (T.os 1 2 0 (((List.replicate k1 false).map (Qm true)).length)) rfl (mO (tN i) rfl (cO (OC.callLoan (ts:= [(T.agg (Qc false g)),(T.os 1 0 0 (((List.replicate k1 false).map (Qm true)).length)),(tN i)]) (k:=2) (r:=(T.os 1 0 0 (((Zd g ((List.replicate k1 false).set i true)).map (Qm true)).length))) (rows:=((List.replicate k1 false).map (Qm true))) (rows':=((Zd g ((List.replicate k1 false).set i true)).map (Qm true))) rfl (vc (tv (T.agg (Qc false g)) rfl) (vc (tv (T.os 1 2 0 (((List.replicate k1 false).map (Qm true)).length)) rfl) (vc (tv (tN i) rfl) vn))) rfl rfl rfl (LRes.os _ _) rfl (Zo (fun _=>rfl) _) (Zo (fun _=>rfl) _) (QdS (n+1) g (List.replicate k1 false) i (by exact fhc1.2) (by (simp only [List.length_replicate];omega)) (by (simp only [List.length_replicate];omega)))) (aO (T.os 1 2 0 (((Zd g ((List.replicate k1 false).set i true)).map (Qm true)).length)) rfl (nt ?_)))))))))))
   refine sr (fO (OF.assign (VEv.int .i64 0)) (nt (VRun.block ?_)))
   have he10:(Qn g i).2=ZM (Qn g i).2 (fresh g i) 0:=by rfl
   refine VRun.loop (A:=Nat) (fun s_=> [(1,(T.op 0 0)),(2,(tN 0)),(3,(tN ((Qn g i).1+1))),(4,(T.os 1 2 0 (((ZM (Qn g i).2 (fresh g i) s_).map (Qm true)).length))),(6,(tN i)),(7,(T.os 1 1 0 (((Zd g ((List.replicate k1 false).set i true)).map (Qm true)).length))),(9,(tN s_))]) (fun s_=>Q4 [(0,(Obj.cells (Qc false g))),(1,(Obj.rows 1 ((Zd g ((List.replicate k1 false).set i true)).map (Qm true)))),(2,(Obj.rows 1 ((ZM (Qn g i).2 (fresh g i) s_).map (Qm true))))]) 3 (fun s_=>s_≤(Qn g i).2.length) (fun s_=>(Qn g i).2.length - s_) (0:Nat) ?_ (Wk.mk (fun k=>if k=1 then 2 else if k=2 then 1 else k) ?_ ?_ ?_) ?_
   ·(simp;done)
   ·exact (b2 (b2 (b2 (bc ⟨(congrArg (fun l_=>T.os 1 1 0 (List.map (Qm true) l_).length) he10),rfl⟩ (b2 (b2 (b2 bn)))))))
   ·exact (b3 (b3 (bc ⟨(congrArg (fun l_=>some (Obj.rows 1 (List.map (Qm true) l_))) he10),(lb rfl),rfl⟩ bn)))
   ·exact nd rfl
   rintro j (hI':j≤(Qn g i).2.length)
   show VRun _ _ _ [(1,(T.op 0 0)),(2,(tN 0)),(3,(tN ((Qn g i).1+1))),(4,(T.os 1 2 0 (((ZM (Qn g i).2 (fresh g i) j).map (Qm true)).length))),(6,(tN i)),(7,(T.os 1 1 0 (((Zd g ((List.replicate k1 false).set i true)).map (Qm true)).length))),(9,(tN j))] (Q4 [(0,(Obj.cells (Qc false g))),(1,(Obj.rows 1 ((Zd g ((List.replicate k1 false).set i true)).map (Qm true)))),(2,(Obj.rows 1 ((ZM (Qn g i).2 (fresh g i) j).map (Qm true))))]) 3 _
   have hJ1:=hI'
   have hzl:=QcZ hq4 hJ1
   refine sq (sr (mO (tN j) rfl (mO (T.os 1 2 0 (((ZM (Qn g i).2 (fresh g i) j).map (Qm true)).length)) rfl (lO (B.lenO (m:=(ZM (Qn g i).2 (fresh g i) j).length) (tv (T.os 1 2 0 (((ZM (Qn g i).2 (fresh g i) j).map (Qm true)).length)) rfl) Y8 (List.length_map ..)) (fO (Ze (tv (tN j) rfl) (tv (tN ((ZM (Qn g i).2 (fresh g i) j).length)) rfl)) (nt ?_))))))
   refine cd (j<(ZM (Qn g i).2 (fresh g i) j).length) rfl (fun fhc4=> ?_) fun fhc4=> ?_
   ·refine sk ?_
    refine tn (sq (VRun.block (VRun.region (mO (T.os 1 2 0 (((ZM (Qn g i).2 (fresh g i) j).map (Qm true)).length)) rfl (mO (tN j) rfl (mO (T.os 1 2 0 (((ZM (Qn g i).2 (fresh g i) j).map (Qm true)).length)) rfl (mO (tN j) rfl ?_)))))))
    obtain ⟨x1,hx1⟩:∃x,(ZM (Qn g i).2 (fresh g i) j)[j]? =some x:=⟨_,List.getElem?_eq_getElem (by omega)⟩
    have e3:x1=on (Qn g i).2 j:=QjV hq4 (by omega) hx1
    refine fO (B.indexAddrO (i:=j) (tv (T.os 1 2 0 (((ZM (Qn g i).2 (fresh g i) j).map (Qm true)).length)) rfl) (tv (tN j) rfl) rfl (by (simp only [List.length_map];omega)) Y8 sz4 if4) (lO (OL.loadP1 (t:=(tB x1)) (row:=(Qm true x1)) (tv (T.orp 1 2 j 0) rfl) rfl (Qu _ hx1) rfl rfl st4) (mO (tB x1) rfl ?_))
    refine VRunO.joinB 5 [73,74,75,76] 77 (tB (decide ((x1=true)∨(((Zd g ((List.replicate k1 false).set i true))[j]?.getD false)=true)))) ?_ ?_
    ·refine QcF x1 (fun hg72_11=> ?_) (fun hg72_11=> ?_)
     ·have fhg72_11:x1=true:=hg72_11
      refine Qy 4 6 false 72 hg72_11 rfl rfl rfl (fO (OF.pickT (VEv.tmpB rfl hg72_11) (VEv.bool true)) (VRunO.nil ?_))
      exact jq (congrArg T.bool (jOT (dT _) hg72_11)) (js rfl (js rfl (js rfl (js rfl (jn)))))
     ·have fhg72_11:x1=false:=hg72_11
      refine gF hg72_11 rfl rfl (OF.move (tv (T.os 1 1 0 (((Zd g ((List.replicate k1 false).set i true)).map (Qm true)).length)) rfl)) (gF hg72_11 rfl rfl (OF.move (tv (tN j) rfl)) ?_)
      have hy12:(Zd g ((List.replicate k1 false).set i true))[j]? =some ((Zd g ((List.replicate k1 false).set i true))[j]?.getD false):=J5 false (by omega)
      refine gF hg72_11 rfl rfl (B.indexAddrO (i:=j) (tv (T.os 1 1 0 (((Zd g ((List.replicate k1 false).set i true)).map (Qm true)).length)) rfl) (tv (tN j) rfl) rfl (by (simp only [List.length_map];omega)) Y8 sz4 if4) (gL hg72_11 rfl rfl (OL.loadP1 (t:=(tB ((Zd g ((List.replicate k1 false).set i true))[j]?.getD false))) (row:=(Qm true ((Zd g ((List.replicate k1 false).set i true))[j]?.getD false))) (tv (T.orp 1 1 j 0) rfl) rfl (Qu _ hy12) rfl rfl st4) (fO (OF.pickF (VEv.tmpB rfl hg72_11) (tv (tB ((Zd g ((List.replicate k1 false).set i true))[j]?.getD false)) rfl)) (VRunO.nil ?_)))
      exact jq (congrArg T.bool (jOF (dT _) hg72_11 (dT _))) (js rfl (js rfl (js rfl (js rfl (jn)))))
    refine fO (B.indexAddrO (i:=j) (tv (T.os 1 2 0 (((ZM (Qn g i).2 (fresh g i) j).map (Qm true)).length)) rfl) (tv (tN j) rfl) rfl (by (simp only [List.length_map];omega)) Y8 sz4 if4) (cO (B.storeP (us:= [(tB (decide ((x1=true)∨(((Zd g ((List.replicate k1 false).set i true))[j]?.getD false)=true))))]) (rows':=(((ZM (Qn g i).2 (fresh g i) j).set j (decide ((x1=true)∨(((Zd g ((List.replicate k1 false).set i true))[j]?.getD false)=true)))).map (Qm true))) (row:=(Qm true x1)) (tv (T.orp 1 2 j 0) rfl) (tv (tB (decide ((x1=true)∨(((Zd g ((List.replicate k1 false).set i true))[j]?.getD false)=true)))) rfl) nofun rfl (Qu _ hx1) rfl (lb rfl) if4 sz4 (bc rfl bn) (by intro r hr t ht;obtain ⟨x,_,rfl⟩:=List.mem_map.1 hr;rw [Qgm] at ht;exact ZA (okBool.pl _ t ht)) (Zw rfl)) (VRunO.nil (vinB.n (tn (VRun.region (mO (tN j) rfl (fO (QB (tv (tN j) rfl) (VEv.int .i64 1) (by omega)) (aO (tN (j+1)) rfl (VRunO.nil (tn ?_))))))))))
    have he13:((ZM (Qn g i).2 (fresh g i) j).set j (decide ((x1=true)∨(((Zd g ((List.replicate k1 false).set i true))[j]?.getD false)=true))))=ZM (Qn g i).2 (fresh g i) (j+1):=by (refine Qif hq4 (by omega) ?_;rw [e3,hfr];exact orB _ _)
    refine ⟨(j+1:Nat),?_,?_,Wk.mk (fun k=>k) ?_ ?_ ?_⟩
    ·omega
    ·omega
    ·exact (b2 (b2 (b2 (bc ⟨(congrArg (fun n_=>T.os 1 2 0 n_) (show ((ZM (Qn g i).2 (fresh g i) j).map (Qm true)).length=((ZM (Qn g i).2 (fresh g i) (j+1)).map (Qm true)).length from (by (simp only [List.length_map,List.length_set];rw [QcZ hq4 hJ1,QcZ hq4 (by omega)])))),rfl⟩ (b2 (b2 (b2 bn)))))))
    ·exact (b3 (b3 (bc ⟨(congrArg (fun l_=>some (Obj.rows 1 (List.map (Qm true) l_))) he13),(lb rfl),rfl⟩ bn)))
    ·exact nd rfl
   have hq5:¬j<(Qn g i).2.length:=by omega
   refine VRun.exit (vthn.e (vthn.e (vinB.e (vinB.n (tn (VRun.region (mO (tN i) rfl (fO (QB (tv (tN i) rfl) (VEv.int .i64 1) (by omega)) (aO (tN (i+1)) rfl (VRunO.nil (tn ?_)))))))))))
   have he14:ZM (Qn g i).2 (fresh g i) j=(Qn g (i+1)).2:=by (rw [q1.2];exact Qid hq4 hq5)
   refine ⟨(i+1:Nat),?_,?_,Wk.mk (fun k=>if k=1 then 2 else k) ?_ ?_ ?_⟩
   ·exact ⟨by omega, .inl fhc1.2⟩
   ·omega
   ·exact (b2 (b2 (bc ⟨(congrArg (T.int .i64) (show ((((Qn g i).1+1):Nat):Int)=(((Qn g (i+1)).1:Nat):Int) from (by omega))),rfl⟩ (bc ⟨(congrArg (fun l_=>T.os 1 2 0 (List.map (Qm true) l_).length) he14),rfl⟩ (b2 bn)))))
   ·exact (b3 (bc ⟨(congrArg (fun l_=>some (Obj.rows 1 (List.map (Qm true) l_))) he14),(lb rfl),rfl⟩ bn))
   ·exact nd rfl
  have q0:¬QcI g (Qn g i).2 i:=fun h=>fhc2 ⟨h.1,by have:=h.2;unfold on at this;rw [this];rfl⟩
  refine sk (vinB.n (tn (VRun.region (mO (tN i) rfl (fO (QB (tv (tN i) rfl) (VEv.int .i64 1) (by omega)) (aO (tN (i+1)) rfl (VRunO.nil (tn ?_))))))))
  have he15:(Qn g i).2=(Qn g (i+1)).2:=by (rw [Qbb q0];done)
  refine ⟨(i+1:Nat),?_,?_,Wk.mk (fun k=>k) ?_ ?_ ?_⟩
  ·exact ⟨by omega, .inl fhc1.2⟩
  ·omega
  ·exact (b2 (b2 (bc ⟨(congrArg (T.int .i64) (show (((Qn g i).1:Nat):Int)=(((Qn g (i+1)).1:Nat):Int) from (by (rw [Qbb q0];done)))),rfl⟩ (bc ⟨(congrArg (fun l_=>T.os 1 1 0 (List.map (Qm true) l_).length) he15),rfl⟩ (b2 bn)))))
  ·exact (b3 (bc ⟨(congrArg (fun l_=>some (Obj.rows 1 (List.map (Qm true) l_))) he15),(lb rfl),rfl⟩ bn))
  ·exact nd rfl
 refine VRun.exit (vthn.e (vthn.e (vinB.e (tn (sr (mO (tN ((Qn g i).1)) rfl (aO (tN ((Qn g i).1)) rfl (nt (rt (vi (n':=(((Qn g i).1:Nat):Int)) rfl ?_))))))))))
 exact congrArg (fun x:Nat=>(x:Int)) (Qfy hI1 hI'.2 fhc1)
end Go.Proofs.YtcccmceoplcciaaGreat.AE
namespace Go.Proofs.YtcccmceoplcciaaGreat.AE
open Go Go.RowKit
set_option linter.unusedVariables false
set_option linter.unusedSimpArgs false
set_option maxRecDepth 20000
set_option maxHeartbeats 2000000
noncomputable section
def inG (g:D.Grid) (r c:Int):Prop:=(0≤r∧r<g.Rows)∧(0≤c∧c<g.Cols)
def ZN (g:D.Grid) (r c:Int):Nat:=Int.toNat (r*g.Cols+c)
def Qlc (g:D.Grid) (m:List Bool) (r c:Int):Prop:=inG g r c∧Qs g.Cells (ZN g r c)=46∧on m (ZN g r c)=false
instance (g:D.Grid) (m:List Bool) (r c:Int):Decidable (Qlc g m r c):=Classical.propDecidable _
def YY : Nat→D.Grid→List Bool→Int→Int→List Bool
 | 0,_,m,_,_=>m
 | d+1,g,m,r,c=>if Qlc g m r c then YY d g (YY d g (YY d g (YY d g (m.set (ZN g r c) true) (r - 1) c) (r+1) c) r (c - 1)) r (c+1) else m
theorem QcA {g:D.Grid} {r c:Int} (hg:gridOk g) (h1:0≤r∧r<g.Rows) (h2:0≤c∧c<g.Cols):(0≤r*g.Cols∧r*g.Cols≤36)∧0≤r*g.Cols+c∧r*g.Cols+c<((g.Cells.size:Nat):Int):=by
 have hs:=hg.2.2.1
 have hz:=hg.size
 have e1:0≤r*g.Cols:=Int.mul_nonneg h1.1 (by omega)
 have e2:(r+1)*g.Cols≤g.Rows*g.Cols:=Int.mul_le_mul_of_nonneg_right (by omega) (by omega)
 rw [Int.add_mul,Int.one_mul] at e2
 omega
theorem YL {g:D.Grid} (hg:gridOk g) (a b:Nat):ZN g ((a:Nat):Int) ((b:Nat):Int)=a*wG g+b:=by
 obtain ⟨w,hw⟩:=Int.eq_ofNat_of_zero_le (show 0≤g.Cols by have:=hg.2.1;omega)
 unfold ZN wG
 rw [hw]
 show Int.toNat (((a:Nat):Int)*((w:Nat):Int)+((b:Nat):Int))=a*w+b
 rw [← Int.natCast_mul,← Int.natCast_add,Int.toNat_natCast]
theorem QjP {g:D.Grid} (hg:gridOk g):g.Cells.size=g.Rows.toNat*wG g:=by
 obtain ⟨⟨a1,a2⟩,⟨b1,b2⟩,hs,_⟩:=hg
 obtain ⟨w,hw⟩:=Int.eq_ofNat_of_zero_le (show 0≤g.Cols by omega)
 obtain ⟨r,hr⟩:=Int.eq_ofNat_of_zero_le (show 0≤g.Rows by omega)
 unfold wG
 rw [hw,hr] at hs ⊢
 exact_mod_cast hs
theorem Qge {g:D.Grid} {r c:Int} (hg:gridOk g) (h:inG g r c):∃a b:Nat,r=a∧c=b∧a<g.Rows.toNat∧b<wG g:=by
 obtain ⟨⟨h1,h2⟩,h3,h4⟩:=h
 exact ⟨r.toNat,c.toNat,by omega,by omega,by omega,by unfold wG;omega⟩
theorem Qmr {g:D.Grid} {r c r' c':Int} (hg:gridOk g) (h:inG g r c) (h':inG g r' c') (hn:(r'=r∧(c'=c+1∨c'=c - 1))∨(c'=c∧(r'=r+1∨r'=r - 1))):adj g (ZN g r c) (ZN g r' c'):=by
 obtain ⟨a,b,rfl,rfl,ha,hb⟩:=Qge hg h
 obtain ⟨a',b',rfl,rfl,ha',hb'⟩:=Qge hg h'
 rw [YL hg,YL hg]
 have hm:(a*wG g+b) % wG g=b:=by rw [Nat.mul_comm,Nat.mul_add_mod,Nat.mod_eq_of_lt hb]
 have hm':(a'*wG g+b') % wG g=b':=by rw [Nat.mul_comm,Nat.mul_add_mod,Nat.mod_eq_of_lt hb']
 rcases hn with ⟨h1,h2 | h2⟩ | ⟨h1,h2 | h2⟩
 ·obtain rfl:a'=a:=by omega
  exact .inl ⟨by omega,by rw [hm];omega⟩
 ·obtain rfl:a'=a:=by omega
  exact .inr (.inl ⟨by omega,by rw [hm'];omega⟩)
 ·obtain rfl:b'=b:=by omega
  obtain rfl:a'=a+1:=by omega
  exact .inr (.inr (.inl (by rw [Nat.add_mul,Nat.one_mul];omega)))
 ·obtain rfl:b'=b:=by omega
  obtain rfl:a=a'+1:=by omega
  exact .inr (.inr (.inr (by rw [Nat.add_mul,Nat.one_mul];omega)))
theorem Qi3 {g:D.Grid} {r c:Int} {y:Nat} (hg:gridOk g) (h:inG g r c) (hy:y<g.Cells.size) (ha:adj g (ZN g r c) y) :
  (inG g (r - 1) c∧y=ZN g (r - 1) c)∨(inG g (r+1) c∧y=ZN g (r+1) c)∨(inG g r (c - 1)∧y=ZN g r (c - 1))∨(inG g r (c+1)∧y=ZN g r (c+1)):=by
 have hsz:=QjP hg
 obtain ⟨⟨h1,h2⟩,h3,h4⟩:=h
 obtain ⟨a,b,rfl,rfl,ha',hb⟩:=Qge hg ⟨⟨h1,h2⟩,h3,h4⟩
 rw [YL hg] at ha
 have hm:(a*wG g+b) % wG g=b:=by rw [Nat.mul_comm,Nat.mul_add_mod,Nat.mod_eq_of_lt hb]
 have hw:((wG g:Nat):Int)=g.Cols:=by have:=hg.2.1;unfold wG;omega
 rcases ha with ⟨e1,e2⟩ | ⟨e1,e2⟩ | e1 | e1
 ·rw [hm] at e2
  refine .inr (.inr (.inr ⟨⟨⟨h1,h2⟩,by omega,by omega⟩,?_⟩))
  rw [show ((b:Nat):Int)+1=((b+1:Nat):Int) by omega,YL hg];omega
 ·have hb1:1≤b:=by
   rcases Nat.eq_zero_or_pos b with h0 | h0
   ·subst h0
    exfalso
    have ha0:0<a:=by
     rcases Nat.eq_zero_or_pos a with g0 | g0
     ·subst g0;omega
     ·exact g0
    obtain ⟨a1,rfl⟩:∃a1,a=a1+1:=⟨a - 1,by omega⟩
    have e3:y=a1*wG g+(wG g - 1):=by rw [Nat.add_mul,Nat.one_mul] at e1;omega
    rw [e3,Nat.mul_comm,Nat.mul_add_mod,Nat.mod_eq_of_lt (by omega)] at e2
    omega
   ·exact h0
  refine .inr (.inr (.inl ⟨⟨⟨h1,h2⟩,by omega,by omega⟩,?_⟩))
  rw [show ((b:Nat):Int) - 1=((b - 1:Nat):Int) by omega,YL hg];omega
 ·have ha1:a+1<g.Rows.toNat:=by
   rcases Nat.lt_or_ge (a+1) g.Rows.toNat with g0 | g0
   ·exact g0
   ·have e4:g.Rows.toNat=a+1:=by omega
    rw [e4,Nat.add_mul,Nat.one_mul] at hsz
    omega
  refine .inr (.inl ⟨⟨⟨by omega,by omega⟩,h3,h4⟩,?_⟩)
  rw [show ((a:Nat):Int)+1=((a+1:Nat):Int) by omega,YL hg,Nat.add_mul,Nat.one_mul];omega
 ·have ha0:0<a:=by
   rcases Nat.eq_zero_or_pos a with g0 | g0
   ·subst g0;omega
   ·exact g0
  obtain ⟨a1,rfl⟩:∃a1,a=a1+1:=⟨a - 1,by omega⟩
  refine .inl ⟨⟨⟨by omega,by omega⟩,h3,h4⟩,?_⟩
  rw [show ((a1+1:Nat):Int) - 1=((a1:Nat):Int) by omega,YL hg]
  rw [Nat.add_mul,Nat.one_mul] at e1;omega
theorem Qa8 {g:D.Grid} {r c:Int} (hg:gridOk g) (h:inG g r c):ZN g r c<g.Cells.size:=by
 have:=QcA hg h.1 h.2
 unfold ZN
 omega
theorem ZK (g:D.Grid):∀d m r c,(YY d g m r c).length=m.length
 | 0,m,r,c=>rfl
 | d+1,m,r,c=>by
  rw [YY]
  split
  ·rw [ZK g d,ZK g d,ZK g d,ZK g d,List.length_set]
  ·rfl
theorem Z2 {g:D.Grid} {j:Nat}:∀d m r c,on m j=true→on (YY d g m r c) j=true
 | 0,m,r,c,h=>h
 | d+1,m,r,c,h=>by
  rw [YY]
  split
  ·refine Z2 d _ _ _ (Z2 d _ _ _ (Z2 d _ _ _ (Z2 d _ _ _ ?_)))
   have hlt:=Qj5 h
   unfold on at h ⊢
   rw [List.getElem?_set]
   split
   ·rename_i e
    subst e
    rw [if_pos hlt];rfl
   ·exact h
  ·exact h
theorem Qgp {s:List Bool} {i:Nat}:(s.set i true).count false≤s.count false:=by
 rcases Nat.lt_or_ge i s.length with h | h
 ·rw [List.count_set h];simp
 ·rw [List.set_eq_of_length_le h];exact Nat.le_refl _
theorem Jc (g:D.Grid):∀d m r c,(YY d g m r c).count false≤m.count false
 | 0,m,r,c=>Nat.le_refl _
 | d+1,m,r,c=>by
  rw [YY]
  split
  ·exact Nat.le_trans (Jc g d _ _ _) (Nat.le_trans (Jc g d _ _ _) (Nat.le_trans (Jc g d _ _ _) (Nat.le_trans (Jc g d _ _ _) Qgp)))
  ·exact Nat.le_refl _
theorem QaG {g:D.Grid} (hg:gridOk g) {P:Nat→Prop} (hP:∀i j,P i→adj g i j→j<g.Cells.size→Qs g.Cells j=46→P j):∀d m r c,m.length=g.Cells.size→(inG g r c→Qs g.Cells (ZN g r c)=46→P (ZN g r c))→∀j,on (YY d g m r c) j=true→on m j=true∨P j
 | 0,m,r,c,_,_,j,hj=> .inl hj
 | d+1,m,r,c,hl,h,j,hj=>by
  rw [YY] at hj
  split at hj
  ·rename_i hgo
   obtain ⟨g1,g2,g3⟩:=hgo
   have hv:=h g1 g2
   have nb:∀r' c',((r'=r∧(c'=c+1∨c'=c - 1))∨(c'=c∧(r'=r+1∨r'=r - 1)))→inG g r' c'→Qs g.Cells (ZN g r' c')=46→P (ZN g r' c'):=fun r' c' hn hi hw=>hP _ _ hv (Qmr hg g1 hi hn) (Qa8 hg hi) hw
   have l1:(m.set (ZN g r c) true).length=g.Cells.size:=by rw [List.length_set,hl]
   rcases QaG hg hP d _ _ _ (by rw [ZK,ZK,ZK,l1]) (nb r (c+1) (.inl ⟨rfl, .inl rfl⟩)) j hj with hj | hj
   ·rcases QaG hg hP d _ _ _ (by rw [ZK,ZK,l1]) (nb r (c - 1) (.inl ⟨rfl, .inr rfl⟩)) j hj with hj | hj
    ·rcases QaG hg hP d _ _ _ (by rw [ZK,l1]) (nb (r+1) c (.inr ⟨rfl, .inl rfl⟩)) j hj with hj | hj
     ·rcases QaG hg hP d _ _ _ l1 (nb (r - 1) c (.inr ⟨rfl, .inr rfl⟩)) j hj with hj | hj
      ·rw [Qc2 (by rw [hl];exact Qa8 hg g1)] at hj
       split at hj
       ·rename_i e
        rw [e];exact .inr hv
       ·exact .inl hj
      ·exact .inr hj
     ·exact .inr hj
    ·exact .inr hj
   ·exact .inr hj
  ·exact .inl hj
theorem Qez {g:D.Grid} (hg:gridOk g) {d:Nat} {m:List Bool} {r c:Int} (hl:m.length=g.Cells.size) (hc:m.count false<d) (hi:inG g r c) (hw:Qs g.Cells (ZN g r c)=46):on (YY d g m r c) (ZN g r c)=true:=by
 cases d with
 | zero=>omega
 | succ d =>
  rw [YY]
  split
  ·refine Z2 d _ _ _ (Z2 d _ _ _ (Z2 d _ _ _ (Z2 d _ _ _ ?_)))
   rw [Qc2 (by rw [hl];exact Qa8 hg hi),if_pos rfl]
  ·rename_i hn
   cases ho:on m (ZN g r c) with
   | true=>rfl
   | false=>exact absurd ⟨hi,hw,ho⟩ hn
theorem QeE {g:D.Grid} (hg:gridOk g):∀d m r c,m.length=g.Cells.size→m.count false<d→∀x y,on (YY d g m r c) x=true→¬on m x=true→adj g x y→y<g.Cells.size→Qs g.Cells y=46→on (YY d g m r c) y=true
 | 0,m,r,c,_,hc,x,y,_,_,_,_,_=>by omega
 | d+1,m,r,c,hl,hc,x,y,hx,hnx,ha,hy,hw=>by
  rw [YY] at hx ⊢
  by_cases hgo:Qlc g m r c
  ·rw [if_pos hgo] at hx ⊢
   obtain ⟨g1,g2,g3⟩:=hgo
   have hcl:=Qa8 hg g1
   have l1:(m.set (ZN g r c) true).length=g.Cells.size:=by rw [List.length_set,hl]
   have c1:(m.set (ZN g r c) true).count false<d:=by
    have:=Qc3 (by rw [hl];exact hcl) g3
    omega
   generalize hm1:m.set (ZN g r c) true=m1 at *
   have c2:=Jc g d m1 (r - 1) c
   have l2:=ZK g d m1 (r - 1) c
   generalize hm2:YY d g m1 (r - 1) c=m2 at *
   have c3:=Jc g d m2 (r+1) c
   have l3:=ZK g d m2 (r+1) c
   generalize hm3:YY d g m2 (r+1) c=m3 at *
   have c4:=Jc g d m3 r (c - 1)
   have l4:=ZK g d m3 r (c - 1)
   generalize hm4:YY d g m3 r (c - 1)=m4 at *
   have up4:∀j,on m4 j=true→on (YY d g m4 r (c+1)) j=true:=fun j h=>Z2 d _ _ _ h
   have up3:∀j,on m3 j=true→on m4 j=true:=fun j h=>hm4▸Z2 d _ _ _ h
   have up2:∀j,on m2 j=true→on m3 j=true:=fun j h=>hm3▸Z2 d _ _ _ h
   by_cases h4:on m4 x=true
   ·by_cases h3:on m3 x=true
    ·by_cases h2:on m2 x=true
     ·by_cases h1:on m1 x=true
      ·have hxv:x=ZN g r c:=by
        rw [← hm1,Qc2 (by rw [hl];exact hcl)] at h1
        split at h1
        ·assumption
        ·exact absurd h1 hnx
       subst hxv
       rcases Qi3 hg g1 hy ha with ⟨k1,rfl⟩ | ⟨k1,rfl⟩ | ⟨k1,rfl⟩ | ⟨k1,rfl⟩
       ·exact up4 _ (up3 _ (up2 _ (hm2▸Qez hg l1 c1 k1 hw)))
       ·exact up4 _ (up3 _ (hm3▸Qez hg (by omega) (by omega) k1 hw))
       ·exact up4 _ (hm4▸Qez hg (by omega) (by omega) k1 hw)
       ·exact Qez hg (by omega) (by omega) k1 hw
      ·exact up4 _ (up3 _ (up2 _ (hm2▸QeE hg d m1 (r - 1) c l1 c1 x y (hm2▸h2) h1 ha hy hw)))
     ·exact up4 _ (up3 _ (hm3▸QeE hg d m2 (r+1) c (by omega) (by omega) x y (hm3▸h3) h2 ha hy hw))
    ·exact up4 _ (hm4▸QeE hg d m3 r (c - 1) (by omega) (by omega) x y (hm4▸h4) h3 ha hy hw)
   ·exact QeE hg d m4 r (c+1) (by omega) (by omega) x y hx h4 ha hy hw
  ·rw [if_neg hgo] at hx
   exact absurd hx hnx
def Qin (g:D.Grid) (s:List Bool):Prop:=∀x y,on s x=true→adj g x y→y<g.Cells.size→Qs g.Cells y=46→on s y=true
theorem Qj7 (n j:Nat):on (List.replicate n false) j=false:=by
 unfold on
 rw [List.getElem?_replicate]
 split<;>rfl
theorem Qg7 {g:D.Grid} {i j:Nat} (hi:i<g.Cells.size):on ((List.replicate g.Cells.size false).set i true) j=true↔j=i:=by
 rw [Qc2 (by simpa using hi),Qj7]
 split<;>simp [*]
theorem QbP {g:D.Grid}:∀i,i≤g.Cells.size→Qin g (Qn g i).2
 | 0,_=>fun x y hx=>by rw [Qn,Qj7] at hx;cases hx
 | i+1,hi=>by
  have ih:=QbP (g:=g) i (by omega)
  by_cases hn:QcI g (Qn g i).2 i
  ·rw [(Qc1 hn).2]
   intro x y hx ha hy hw
   have hl:(fresh g i).length=(Qn g i).2.length:=by rw [QaE,Y2]
   rw [Qie hl,Bool.or_eq_true] at hx ⊢
   rcases hx with hx | hx
   ·exact .inl (ih x y hx ha hy hw)
   ·exact .inr (on_reachL.2 (.step (on_reachL.1 hx) ha (by simpa using hy) hw))
  ·rw [Qbb hn];exact ih
theorem Qlt {g:D.Grid} (hg:gridOk g) {d i:Nat} {m:List Bool} (hl:m.length=g.Cells.size) (hi:i<g.Cells.size) (hc:m.count false<d) (hcl:Qin g m) (hw:Qs g.Cells i=46) :
  YY d g m ((i / wG g:Nat):Int) ((i % wG g:Nat):Int)=Qfh m (fresh g i):=by
 have hlf:(fresh g i).length=m.length:=by rw [QaE,hl]
 have hci:ZN g ((i / wG g:Nat):Int) ((i % wG g:Nat):Int)=i:=by
  rw [YL hg,Nat.mul_comm];exact Nat.div_add_mod i _
 obtain ⟨⟨q1,q2⟩,_⟩:=QbC hg hi
 have hin:inG g ((i / wG g:Nat):Int) ((i % wG g:Nat):Int):=by
  have hA:=hg.1
  have hB:=hg.2.1
  unfold wG
  generalize i / g.Cols.toNat=q at *
  generalize i % g.Cols.toNat=m' at *
  exact ⟨⟨by omega,by omega⟩,by omega,by omega⟩
 refine Qj9 (by rw [ZK,JS hlf]) fun j=> ?_
 rw [Qie hlf,Bool.or_eq_true]
 constructor
 ·intro hj
  rcases QaG hg (P:=fun j=>Rch g ((List.replicate g.Cells.size false).set i true) j) (fun a b h ha hb hw=> .step h ha (by simpa using hb) hw) d m _ _ hl (fun _ _=>by rw [hci];exact .base ((Qg7 hi).2 rfl)) j hj with h | h
  ·exact .inl h
  ·exact .inr (on_reachL.2 h)
 ·rintro (hj | hj)
  ·exact Z2 d _ _ _ hj
  ·have hr:=on_reachL.1 hj
   clear hj
   induction hr with
   | base h =>
    obtain rfl:=(Qg7 hi).1 h
    have:=Qez hg hl hc hin (by rw [hci];exact hw)
    rwa [hci] at this
   | step h ha hb hw2 ih =>
    rename_i a b
    have hb':b<g.Cells.size:=by simpa using hb
    by_cases hma:on m a=true
    ·exact Z2 d _ _ _ (hcl a b hma ha hb' hw2)
    ·exact QeE hg d m _ _ hl hc a b ih hma ha hb' hw2
end
theorem Qdo (n:Nat) (nn:Nat) (g:D.Grid):∀(d:Nat) (met:List Bool) (r:Int) (c:Int) (hg:gridOk g) (hn:nn=g.Cells.size) (hl:met.length=nn) (hr: -1≤r∧r≤6) (hc: -1≤c∧c≤6) (hu:met.count false<d),Loan (Qq Tryz.prog (n+d+1)) 185 1 (List.map (Qm true) met) [(tI r),(tI c),(T.rp (Qc false g)),(T.vp [(T.os 1 0 0 nn)]),(vtT 185 (T.rp (Qc false g)) (T.vp [(T.os 1 0 0 nn)]) d)] (T.tup []) (List.map (Qm true) (YY d g met r c)):=by
 intro d
 induction d with
 | zero=>intro met r c hg hn hl hr hc hu;exact absurd hu (Nat.not_lt_zero _)
 | succ d ih =>
 intro met r c hg hn hl hr hc hu
 refine Loan.intro (n:=n+d+1) (rs:= []) (j:=3) (pin:=(T.vp [(T.os 1 0 0 nn)])) Tryz.func185 rfl rfl rfl (by kernel_rfl) rfl (.vp _ _) .none (Zo (fun _=>rfl) _) (Zo (fun _=>rfl) _) (E0:= [(0,(tI r)),(1,(tI c)),(2,(T.rp (Qc false g))),(3,(T.vp [(T.os 1 0 0 nn)])),(4,(vtT 185 (T.rp (Qc false g)) (T.vp [(T.os 1 0 0 nn)]) (d+1)))]) rfl ?_
 obtain ⟨hlim,hmx,hmax⟩:=QG
 have hsz:=hg.size
 have hA:=hg.1
 have hB:=hg.2.1
 refine sq (sr (mO (tI r) rfl (lr (tI g.Rows) rfl (lb rfl) Qan rfl QU (cO (cS (vc (tv (tI r) rfl) (vc (tv (tI g.Rows) rfl) vn)) (ZO rfl) (Yt (n+d+0) r g.Rows) rfl rfl) (fO (QS (tv (tB (decide (0≤r∧r<g.Rows))) rfl)) (mO (tB (!(decide (0≤r∧r<g.Rows)))) rfl ?_))))))
 refine VRunO.joinB 6 [13,14,15,16,17] 18 (tB (decide ((¬(0≤r∧r<g.Rows))∨(¬(0≤c∧c<g.Cols))))) ?_ ?_
 ·refine gn (0≤r∧r<g.Rows) (fun fhg12_1=> ?_) fun fhg12_1=> ?_
  ·refine Qy 5 5 false 12 (ny fhg12_1) rfl rfl rfl ?_
   refine fO (OF.pickT (VEv.tmpB rfl (ny fhg12_1)) (VEv.bool true)) (VRunO.nil ?_)
   exact jq (congrArg T.bool (kOT fhg12_1)) (js rfl (js rfl (js rfl (js rfl (js rfl (jn))))))
  ·refine gF (nz fhg12_1) rfl rfl (OF.move (tv (tI c) rfl)) ?_
   refine glr (tI g.Cols) (nz fhg12_1) rfl rfl rfl rfl (lb rfl) Zf rfl QU (VRunO.chain (VWant.on rfl rfl (nz fhg12_1)) (cS (vc (tv (tI c) rfl) (vc (tv (tI g.Cols) rfl) vn)) (ZO rfl) (Yt (n+d+0) c g.Cols) rfl rfl) (gF (nz fhg12_1) rfl rfl (QS (tv (tB (decide (0≤c∧c<g.Cols))) rfl)) (fO (OF.pickF (VEv.tmpB rfl (nz fhg12_1)) (tv (tB (!(decide (0≤c∧c<g.Cols)))) rfl)) (VRunO.nil ?_))))
   exact jq (congrArg T.bool (kOF (not_not_intro fhg12_1) dN)) (js rfl (js rfl (js rfl (js rfl (js rfl (jn))))))
 refine mO (tB (decide ((¬(0≤r∧r<g.Rows))∨(¬(0≤c∧c<g.Cols))))) rfl ?_
 refine VRunO.joinB 10 [20,21,22,23,24,25,26,27,28] 29 (tB (decide (((¬(0≤r∧r<g.Rows))∨(¬(0≤c∧c<g.Cols)))∨((met[(Int.toNat ((r*g.Cols)+c))]?.getD false)=true)))) ?_ ?_
 ·refine gw ((¬(0≤r∧r<g.Rows))∨(¬(0≤c∧c<g.Cols))) (fun fhg19_2=> ?_) fun fhg19_2=> ?_
  ·refine Qy 9 12 false 19 (dy fhg19_2) rfl rfl rfl ?_
   refine fO (OF.pickT (VEv.tmpB rfl (dy fhg19_2)) (VEv.bool true)) (VRunO.nil ?_)
   exact jq (congrArg T.bool (kOT fhg19_2)) (js rfl (js rfl (js rfl (js rfl (js rfl (js rfl (js rfl (js rfl (js rfl (jn))))))))))
  ·have hz:=QcA hg (r:=r) (c:=c) (by omega) (by omega)
   refine gL (dz fhg19_2) rfl rfl (OL.loadV1 (t:=(T.os 1 0 0 nn)) (tv (T.vp [(T.os 1 0 0 nn)]) rfl) rfl Qkc) (gF (dz fhg19_2) rfl rfl (OF.move (tv (tI r) rfl)) (glr (tI g.Cols) (dz fhg19_2) rfl rfl rfl rfl (lb rfl) Zf rfl QU (gF (dz fhg19_2) rfl rfl (B.mul (n:=(r*g.Cols)) (tv (tI r) rfl) (tv (tI g.Cols) rfl) (by (rw [Qv (by omega)];done))) (gF (dz fhg19_2) rfl rfl (OF.move (tv (tI c) rfl)) (gF (dz fhg19_2) rfl rfl (B.add (n:=((r*g.Cols)+c)) (tv (tI (r*g.Cols)) rfl) (tv (tI c) rfl) (by (rw [Qv (by omega)];done))) ?_)))))
   have hy3:met[(Int.toNat ((r*g.Cols)+c))]? =some (met[(Int.toNat ((r*g.Cols)+c))]?.getD false):=J5 false (by omega)
   refine gF (dz fhg19_2) rfl rfl (B.indexAddrO (i:=(Int.toNat ((r*g.Cols)+c))) (tv (T.os 1 0 0 nn) rfl) (tv (tI ((r*g.Cols)+c)) rfl) (by omega) (by omega) Y8 sz4 if4) (gL (dz fhg19_2) rfl rfl (OL.loadP1 (t:=(tB (met[(Int.toNat ((r*g.Cols)+c))]?.getD false))) (row:=(Qm true (met[(Int.toNat ((r*g.Cols)+c))]?.getD false))) (tv (T.orp 1 0 (Int.toNat ((r*g.Cols)+c)) 0) rfl) rfl (Qu _ hy3) rfl rfl st4) (fO (OF.pickF (VEv.tmpB rfl (dz fhg19_2)) (tv (tB (met[(Int.toNat ((r*g.Cols)+c))]?.getD false)) rfl)) (VRunO.nil ?_)))
   exact jq (congrArg T.bool (kOF fhg19_2 (dT _))) (js rfl (js rfl (js rfl (js rfl (js rfl (js rfl (js rfl (js rfl (js rfl (jn))))))))))
 refine mO (tB (decide (((¬(0≤r∧r<g.Rows))∨(¬(0≤c∧c<g.Cols)))∨((met[(Int.toNat ((r*g.Cols)+c))]?.getD false)=true)))) rfl ?_
 refine VRunO.joinB 11 [31,32,33,34,35,36,37,38,39,40] 41 (tB (decide ((((¬(0≤r∧r<g.Rows))∨(¬(0≤c∧c<g.Cols)))∨((met[(Int.toNat ((r*g.Cols)+c))]?.getD false)=true))∨(¬(Qs g.Cells (Int.toNat ((r*g.Cols)+c))=46))))) ?_ ?_
 ·refine gw (((¬(0≤r∧r<g.Rows))∨(¬(0≤c∧c<g.Cols)))∨((met[(Int.toNat ((r*g.Cols)+c))]?.getD false)=true)) (fun fhg30_4=> ?_) fun fhg30_4=> ?_
  ·refine Qy 10 23 false 30 (dy fhg30_4) rfl rfl rfl ?_
   refine fO (OF.pickT (VEv.tmpB rfl (dy fhg30_4)) (VEv.bool true)) (VRunO.nil ?_)
   exact jq (congrArg T.bool (kOT fhg30_4)) (js rfl (js rfl (js rfl (js rfl (js rfl (js rfl (js rfl (js rfl (js rfl (js rfl (jn)))))))))))
  ·have hz:=QcA hg (r:=r) (c:=c) (by omega) (by omega)
   refine glr (tS g.Cells) (dz fhg30_4) rfl rfl rfl rfl (lb rfl) QC rfl Z5 (gF (dz fhg30_4) rfl rfl (OF.move (tv (tI r) rfl)) (glr (tI g.Cols) (dz fhg30_4) rfl rfl rfl rfl (lb rfl) Zf rfl QU (gF (dz fhg30_4) rfl rfl (B.mul (n:=(r*g.Cols)) (tv (tI r) rfl) (tv (tI g.Cols) rfl) (by (rw [Qv (by omega)];done))) (gF (dz fhg30_4) rfl rfl (OF.move (tv (tI c) rfl)) (gF (dz fhg30_4) rfl rfl (B.add (n:=((r*g.Cols)+c)) (tv (tI (r*g.Cols)) rfl) (tv (tI c) rfl) (by (rw [Qv (by omega)];done))) ?_)))))
   have hb5:(Int.toNat ((r*g.Cols)+c))<g.Cells.size:=(by omega)
   refine gF (dz fhg30_4) rfl rfl (B.index (n:=(Qs g.Cells (Int.toNat ((r*g.Cols)+c)))) (i:=(Int.toNat ((r*g.Cols)+c))) (tv (tS g.Cells) rfl) (tv (tI ((r*g.Cols)+c)) rfl) (by omega) hb5 U9 (YJ hb5)) (gF (dz fhg30_4) rfl rfl (xne (tv (T.int .u8 (Qs g.Cells (Int.toNat ((r*g.Cols)+c)))) rfl) (VEv.int .u8 46)) (fO (OF.pickF (VEv.tmpB rfl (dz fhg30_4)) (tv (tB (!(decide (Qs g.Cells (Int.toNat ((r*g.Cols)+c))=46)))) rfl)) (VRunO.nil ?_)))
   exact jq (congrArg T.bool (kOF fhg30_4 dN)) (js rfl (js rfl (js rfl (js rfl (js rfl (js rfl (js rfl (js rfl (js rfl (js rfl (jn)))))))))))
 refine nt ?_
 refine cd ((((¬(0≤r∧r<g.Rows))∨(¬(0≤c∧c<g.Cols)))∨((met[(Int.toNat ((r*g.Cols)+c))]?.getD false)=true))∨(¬(Qs g.Cells (Int.toNat ((r*g.Cols)+c))=46))) rfl (fun fhc0=> ?_) fun fhc0=> ?_
 ·refine rt ?_
  refine tr ?_
  have hnew:met=YY (d+1) g met r c:=by
   rw [YY,if_neg];rintro ⟨h1,h2,h3⟩;rcases fhc0 with (h | h) | h;exact h.elim (fun h=>h h1.1) (fun h=>h h1.2);exact on_no.1 h3 h;exact h h2
  exact vloan.r 0 VRes.nil rfl rfl rfl (congrArg (List.map (Qm true)) hnew)
 have hz:=QcA hg (r:=r) (c:=c) (by omega) (by omega)
 have hin:inG g r c:=⟨by omega,by omega⟩
 have hgo:Qlc g met r c:=⟨hin,by unfold ZN;omega,on_no.2 (fun h=>fhc0 (.inl (.inr h)))⟩
 have hct:=Qc3 (s:=met) (i:=ZN g r c) (by rw [hl,hn];exact Qa8 hg hin) hgo.2.2
 unfold ZN at hct
 have d1:=Jc g d (met.set (Int.toNat (r*g.Cols+c)) true) (r - 1) c
 have d2:=Jc g d (YY d g (met.set (Int.toNat (r*g.Cols+c)) true) (r - 1) c) (r+1) c
 have d3:=Jc g d (YY d g (YY d g (met.set (Int.toNat (r*g.Cols+c)) true) (r - 1) c) (r+1) c) r (c - 1)
 refine sk (tn (sr (lO (OL.loadV1 (t:=(T.os 1 0 0 nn)) (tv (T.vp [(T.os 1 0 0 nn)]) rfl) rfl Qkc) (mO (tI r) rfl (lr (tI g.Cols) rfl (lb rfl) Zf rfl QU (fO (B.mul (n:=(r*g.Cols)) (tv (tI r) rfl) (tv (tI g.Cols) rfl) (by (rw [Qv (by omega)];done))) (mO (tI c) rfl (fO (B.add (n:=((r*g.Cols)+c)) (tv (tI (r*g.Cols)) rfl) (tv (tI c) rfl) (by (rw [Qv (by omega)];done))) ?_))))))))
 obtain ⟨x1,hx1⟩:∃x,met[(Int.toNat ((r*g.Cols)+c))]? =some x:=⟨_,List.getElem?_eq_getElem (by omega)⟩
 refine fO (B.indexAddrO (i:=(Int.toNat ((r*g.Cols)+c))) (tv (T.os 1 0 0 nn) rfl) (tv (tI ((r*g.Cols)+c)) rfl) (by omega) (by omega) Y8 sz4 if4) (cO (B.storeP (us:= [(tB true)]) (rows':=((met.set (Int.toNat ((r*g.Cols)+c)) true).map (Qm true))) (row:=(Qm true x1)) (tv (T.orp 1 0 (Int.toNat ((r*g.Cols)+c)) 0) rfl) (VEv.bool true) nofun rfl (Qu _ hx1) rfl (lb rfl) if4 sz4 (bc rfl bn) (by intro r hr t ht;obtain ⟨x,_,rfl⟩:=List.mem_map.1 hr;rw [Qgm] at ht;exact ZA (okBool.pl _ t ht)) (Zw rfl)) (nt (sr (lO (OL.loadV1 (t:=(T.fn 185 [(T.rp (Qc false g)),(T.vp [(T.os 1 0 0 nn)]),(vtT 185 (T.rp (Qc false g)) (T.vp [(T.os 1 0 0 nn)]) d)])) (tv (vtT 185 (T.rp (Qc false g)) (T.vp [(T.os 1 0 0 nn)]) (d+1)) rfl) rfl Qhs) (mO (tI r) rfl (fO (B.sub (n:=(r - 1)) (tv (tI r) rfl) (VEv.int .i64 1) (by (rw [Qv (by omega)];done))) (mO (tI c) rfl (cO (OC.callvLoan (ts:= [(tI (r - 1)),(tI c),(T.rp (Qc false g)),(T.vp [(T.os 1 0 0 nn)]),(vtT 185 (T.rp (Qc false g)) (T.vp [(T.os 1 0 0 nn)]) d)]) (k:=0) (r:=(T.tup [])) (rows:=((met.set (Int.toNat ((r*g.Cols)+c)) true).map (Qm true))) (rows':=((YY d g (met.set (Int.toNat ((r*g.Cols)+c)) true) (r - 1) c).map (Qm true))) rfl rfl (vc (tv (tI (r - 1)) rfl) (vc (tv (tI c) rfl) vn)) rfl (by simp only [Qao,ren,QbE,List.cons_append,List.nil_append]) (tl rfl (tl rfl (tl rfl (tl rfl (tl (Qdk rfl rfl _) rfl))))) LRes.none rfl (Zo (fun _=>rfl) _) (Zo (fun _=>rfl) _) (ih (met.set (Int.toNat ((r*g.Cols)+c)) true) (r - 1) c (by assumption) (by assumption) (by (simp only [ZK,List.length_set];omega)) (by omega) (by assumption) (by omega))) (nt (sr (lO (OL.loadV1 (t:=(T.fn 185 [(T.rp (Qc false g)),(T.vp [(T.os 1 0 0 nn)]),(vtT 185 (T.rp (Qc false g)) (T.vp [(T.os 1 0 0 nn)]) d)])) (tv (vtT 185 (T.rp (Qc false g)) (T.vp [(T.os 1 0 0 nn)]) (d+1)) rfl) rfl Qhs) ?_)))))))))))
 refine mO (tI r) rfl (fO (B.add (n:=(r+1)) (tv (tI r) rfl) (VEv.int .i64 1) (by (rw [Qv (by omega)];done))) (mO (tI c) rfl (cO (OC.callvLoan (ts:= [(tI (r+1)),(tI c),(T.rp (Qc false g)),(T.vp [(T.os 1 0 0 nn)]),(vtT 185 (T.rp (Qc false g)) (T.vp [(T.os 1 0 0 nn)]) d)]) (k:=0) (r:=(T.tup [])) (rows:=((YY d g (met.set (Int.toNat ((r*g.Cols)+c)) true) (r - 1) c).map (Qm true))) (rows':=((YY d g (YY d g (met.set (Int.toNat ((r*g.Cols)+c)) true) (r - 1) c) (r+1) c).map (Qm true))) rfl rfl (vc (tv (tI (r+1)) rfl) (vc (tv (tI c) rfl) vn)) rfl (by simp only [Qao,ren,QbE,List.cons_append,List.nil_append]) (tl rfl (tl rfl (tl rfl (tl rfl (tl (Qdk rfl rfl _) rfl))))) LRes.none rfl (Zo (fun _=>rfl) _) (Zo (fun _=>rfl) _) (ih (YY d g (met.set (Int.toNat ((r*g.Cols)+c)) true) (r - 1) c) (r+1) c (by assumption) (by assumption) (by (simp only [ZK,List.length_set];omega)) (by omega) (by assumption) (by omega))) (nt (sr (lO (OL.loadV1 (t:=(T.fn 185 [(T.rp (Qc false g)),(T.vp [(T.os 1 0 0 nn)]),(vtT 185 (T.rp (Qc false g)) (T.vp [(T.os 1 0 0 nn)]) d)])) (tv (vtT 185 (T.rp (Qc false g)) (T.vp [(T.os 1 0 0 nn)]) (d+1)) rfl) rfl Qhs) (mO (tI r) rfl (mO (tI c) rfl (fO (B.sub (n:=(c - 1)) (tv (tI c) rfl) (VEv.int .i64 1) (by (rw [Qv (by omega)];done))) (cO (OC.callvLoan (ts:= [(tI r),(tI (c - 1)),(T.rp (Qc false g)),(T.vp [(T.os 1 0 0 nn)]),(vtT 185 (T.rp (Qc false g)) (T.vp [(T.os 1 0 0 nn)]) d)]) (k:=0) (r:=(T.tup [])) (rows:=((YY d g (YY d g (met.set (Int.toNat ((r*g.Cols)+c)) true) (r - 1) c) (r+1) c).map (Qm true))) (rows':=((YY d g (YY d g (YY d g (met.set (Int.toNat ((r*g.Cols)+c)) true) (r - 1) c) (r+1) c) r (c - 1)).map (Qm true))) rfl rfl (vc (tv (tI r) rfl) (vc (tv (tI (c - 1)) rfl) vn)) rfl (by simp only [Qao,ren,QbE,List.cons_append,List.nil_append]) (tl rfl (tl rfl (tl rfl (tl rfl (tl (Qdk rfl rfl _) rfl))))) LRes.none rfl (Zo (fun _=>rfl) _) (Zo (fun _=>rfl) _) (ih (YY d g (YY d g (met.set (Int.toNat ((r*g.Cols)+c)) true) (r - 1) c) (r+1) c) r (c - 1) (by assumption) (by assumption) (by (simp only [ZK,List.length_set];omega)) (by assumption) (by omega) (by omega))) (nt ?_)))))))))))
 refine VRun.region (lO (OL.loadV1 (t:=(T.fn 185 [(T.rp (Qc false g)),(T.vp [(T.os 1 0 0 nn)]),(vtT 185 (T.rp (Qc false g)) (T.vp [(T.os 1 0 0 nn)]) d)])) (tv (vtT 185 (T.rp (Qc false g)) (T.vp [(T.os 1 0 0 nn)]) (d+1)) rfl) rfl Qhs) (mO (tI r) rfl (mO (tI c) rfl (fO (B.add (n:=(c+1)) (tv (tI c) rfl) (VEv.int .i64 1) (by (rw [Qv (by omega)];done))) (cO (OC.callvLoan (ts:= [(tI r),(tI (c+1)),(T.rp (Qc false g)),(T.vp [(T.os 1 0 0 nn)]),(vtT 185 (T.rp (Qc false g)) (T.vp [(T.os 1 0 0 nn)]) d)]) (k:=0) (r:=(T.tup [])) (rows:=((YY d g (YY d g (YY d g (met.set (Int.toNat ((r*g.Cols)+c)) true) (r - 1) c) (r+1) c) r (c - 1)).map (Qm true))) (rows':=((YY d g (YY d g (YY d g (YY d g (met.set (Int.toNat ((r*g.Cols)+c)) true) (r - 1) c) (r+1) c) r (c - 1)) r (c+1)).map (Qm true))) rfl rfl (vc (tv (tI r) rfl) (vc (tv (tI (c+1)) rfl) vn)) rfl (by simp only [Qao,ren,QbE,List.cons_append,List.nil_append]) (tl rfl (tl rfl (tl rfl (tl rfl (tl (Qdk rfl rfl _) rfl))))) LRes.none rfl (Zo (fun _=>rfl) _) (Zo (fun _=>rfl) _) (ih (YY d g (YY d g (YY d g (met.set (Int.toNat ((r*g.Cols)+c)) true) (r - 1) c) (r+1) c) r (c - 1)) r (c+1) (by assumption) (by assumption) (by (simp only [ZK,List.length_set];omega)) (by assumption) (by omega) (by omega))) (VRunO.nil ?_))))))
 have hnew:YY d g (YY d g (YY d g (YY d g (met.set (Int.toNat ((r*g.Cols)+c)) true) (r - 1) c) (r+1) c) r (c - 1)) r (c+1)=YY (d+1) g met r c:=by
  rw [YY,if_pos hgo];rfl
 exact vloan.n 0 VRes.nil rfl rfl rfl (congrArg (List.map (Qm true)) hnew)
theorem QeS (n:Nat) (g:D.Grid) (hc:g.Cells.size≤mx):Pure (Qq Tryz.prog (n+39)) 161 [(T.agg (Qc false g))] (tN (ZZ g)):=by
 refine Pure.intro (rs:= [ResultVar.tmp 2]) Tryz.func161 rfl rfl rfl (E0:= [(0,(T.agg (Qc false g)))]) rfl ?_
 obtain ⟨hlim,hmx,hmax⟩:=QG
 refine sr (kO (B.box (ts:=(Qc false g)) (tv (T.agg (Qc false g)) rfl) nofun rfl) (fO (OF.assign (VEv.int .i64 0)) (nt (sq (sr (lO (OL.loadOn (us:=(Qc false g)) (tv (T.op 0 0) rfl) rfl Q1 QT (lb rfl) rfl) (cO (cS (vc (tv (T.agg (Qc false g)) rfl) vn) (LendL.cons (lg Qt) ln) (ZT (n+36) g (by omega)) rfl rfl) (fO (QS (tv (tB (decide (gridOk g))) rfl)) (nt ?_)))))))))
 refine cn (gridOk g) rfl (fun fhc0=> ?_) fun fhc0=> ?_
 ·refine sr ?_
  refine fO (OF.assign (VEv.int .i64 0)) (nt (rt (tr (vi (n':=0) rfl ?_))))
  rw [ZZ,if_neg (by simpa using fhc0)];rfl
 have hgo:gridOk g:=by simpa using fhc0
 have hsz:=hgo.size
 have hA:=hgo.1
 have hB:=hgo.2.1
 refine sk (tn (sr (lf (tS g.Cells) rfl QC rfl rfl Z5 (lO (B.lenS (tv (tS g.Cells) rfl) U9) (kO (B.makeZ (n:=g.Cells.size) (m:=((List.replicate g.Cells.size false).map (Qm true)).length) (rows:=((List.replicate g.Cells.size false).map (Qm true))) (zr:=(Qm true false)) (tv (tN g.Cells.size) rfl) (tv (tN g.Cells.size) rfl) rfl Y8 zo4 zc4 rfl (by rw [sz4];decide) (by omega) (of_decide_eq_true (by kernel_rfl)) (Z0.bool Z0.nil) sz4 (List.map_replicate ..).symm (by rw [List.length_map,List.length_replicate])) (kO (B.alloc (t:=T.nils) (ts:= [T.nils]) QmT QmV nofun (fun _=> .nils) rfl) (cO (B.storeO (us:= [(T.os 1 1 0 (((List.replicate g.Cells.size false).map (Qm true)).length))]) (ws:= [(T.os 1 1 0 (((List.replicate g.Cells.size false).map (Qm true)).length))]) (tv (T.op 2 0) rfl) (tv (T.os 1 1 0 (((List.replicate g.Cells.size false).map (Qm true)).length)) rfl) nofun rfl rfl (lb rfl) QmR Qm2 (bc rfl bn) rfl) (nt (sr (kO (B.alloc (t:=T.fn0) (ts:= [T.fn0]) (show Q7 Tryz.prog 178=some .nilFunc by kernel_rfl) (show closedV .nilFunc=true by kernel_rfl) nofun (fun _=> .fn0) rfl) (nt ?_)))))))))))
 refine sr (fO (OF.makeFunc (vc (tv (T.op 0 0) rfl) (vc (tv (T.op 2 0) rfl) (vc (tv (T.op 3 0) rfl) vn)))) (cO (B.storeO (us:= [(T.fn 185 [(T.op 0 0),(T.op 2 0),(T.op 3 0)])]) (ws:= [(T.fn 185 [(T.op 0 0),(T.op 2 0),(T.op 3 0)])]) (tv (T.op 3 0) rfl) (tv (T.fn 185 [(T.op 0 0),(T.op 2 0),(T.op 3 0)]) rfl) nofun rfl rfl (lb rfl) Qng QmS (bc rfl bn) rfl) (nt (VRun.wk (Wk.recv (sz:=1) (k:=1) (us:=(Qc false g)) (f:=185) 38 (d1:=1) (d2:=3) (d3:=4) rfl rfl rfl rfl rfl rfl (by decide) (by decide) (by decide) (bc rfl (bc rfl (bc rfl bn)))) (sr (fO (OF.assign (VEv.int .i64 0)) (nt (sq (sr (lr (tS g.Cells) rfl (lb rfl) QC rfl Z5 (lO (B.lenS (tv (tS g.Cells) rfl) U9) ?_)))))))))))
 refine fO (OF.move (VEv.int .i64 0)) (nt (VRun.block ?_))
 have he1:(List.replicate g.Cells.size false)=(Qn g 0).2:=by rfl
 refine VRun.loop (A:=Nat) (fun s_=> [(1,(T.rp (Qc false g))),(2,(tN 0)),(3,(T.vp [(T.os 1 0 0 (((List.replicate g.Cells.size false).map (Qm true)).length))])),(4,(vtT 185 (T.rp (Qc false g)) (T.vp [(T.os 1 0 0 (((List.replicate g.Cells.size false).map (Qm true)).length))]) 38)),(5,(tN ((Qn g s_).1))),(17,(tN g.Cells.size)),(18,(tN s_))]) (fun s_=>Q4 [(0,(Obj.rows 1 (((Qn g s_).2).map (Qm true))))]) 1 (fun s_=>s_≤g.Cells.size) (fun s_=>g.Cells.size - s_) (0:Nat) ?_ (Wk.mk (fun k=>if k=0 then 1 else k) ?_ ?_ ?_) ?_
 ·(simp;done)
 ·exact (b2 (b2 (b2 (b2 (bc ⟨(congrArg (T.int .i64) (show 0=(((Qn g 0).1:Nat):Int) from (by rfl))),rfl⟩ (b2 (b2 bn)))))))
 ·exact (bc ⟨(congrArg (fun l_=>some (Obj.rows 1 (List.map (Qm true) l_))) he1),(lb rfl),rfl⟩ bn)
 ·exact nd rfl
 rintro i (hI':i≤g.Cells.size)
 show VRun _ _ _ [(1,(T.rp (Qc false g))),(2,(tN 0)),(3,(T.vp [(T.os 1 0 0 (((List.replicate g.Cells.size false).map (Qm true)).length))])),(4,(vtT 185 (T.rp (Qc false g)) (T.vp [(T.os 1 0 0 (((List.replicate g.Cells.size false).map (Qm true)).length))]) 38)),(5,(tN ((Qn g i).1))),(17,(tN g.Cells.size)),(18,(tN i))] (Q4 [(0,(Obj.rows 1 (((Qn g i).2).map (Qm true))))]) 1 _
 have hI1:=hI'
 have hpl:=Y2 g i
 have hpn:=Qdv g i
 refine sr (fO (Ze (tv (tN i) rfl) (tv (tN g.Cells.size) rfl)) (nt (sq ?_)))
 refine cd (i<g.Cells.size) rfl (fun fhc1=> ?_) fun fhc1=> ?_
 ·refine sk ?_
  refine tn (sq (VRun.block (sr (mO (tN i) rfl (aO (tN i) rfl (nt (sr (lr (tS g.Cells) rfl (lb rfl) QC rfl Z5 (mO (tN i) rfl ?_)))))))))
  have hb2:i<g.Cells.size:=(by omega)
  refine fO (JZ (tv (tS g.Cells) rfl) (tv (tN i) rfl) hb2 U9) (fO (Y7 (tv (T.int .u8 (Qs g.Cells i)) rfl) (VEv.int .u8 46)) (mO (tB (decide (Qs g.Cells i=46))) rfl ?_))
  refine VRunO.joinB 6 [27,28,29,30,31] 32 (tB (decide ((Qs g.Cells i=46)∧((!(((Qn g i).2)[i]?.getD false))=true)))) ?_ ?_
  ·refine gw (Qs g.Cells i=46) (fun fhg26_3=> ?_) fun fhg26_3=> ?_
   ·refine gL (dy fhg26_3) rfl rfl (OL.loadV1 (t:=(T.os 1 0 0 (((List.replicate g.Cells.size false).map (Qm true)).length))) (tv (T.vp [(T.os 1 0 0 (((List.replicate g.Cells.size false).map (Qm true)).length))]) rfl) rfl Qkc) ?_
    refine gF (dy fhg26_3) rfl rfl (OF.move (tv (tN i) rfl)) ?_
    have hy4:((Qn g i).2)[i]? =some (((Qn g i).2)[i]?.getD false):=J5 false (by omega)
    refine gF (dy fhg26_3) rfl rfl (B.indexAddrO (i:=i) (tv (T.os 1 0 0 (((List.replicate g.Cells.size false).map (Qm true)).length)) rfl) (tv (tN i) rfl) rfl (by (simp only [List.length_map,List.length_replicate];omega)) Y8 sz4 if4) (gL (dy fhg26_3) rfl rfl (OL.loadP1 (t:=(tB (((Qn g i).2)[i]?.getD false))) (row:=(Qm true (((Qn g i).2)[i]?.getD false))) (tv (T.orp 1 0 i 0) rfl) rfl (Qu _ hy4) rfl rfl st4) (gF (dy fhg26_3) rfl rfl (QS (tv (tB (((Qn g i).2)[i]?.getD false)) rfl)) (fO (OF.pickT (VEv.tmpB rfl (dy fhg26_3)) (tv (tB (!(((Qn g i).2)[i]?.getD false))) rfl)) (VRunO.nil ?_))))
    exact jq (congrArg T.bool (kAT fhg26_3 (dT _))) (js rfl (js rfl (js rfl (js rfl (js rfl (jn))))))
   ·refine Qy 5 5 true 26 (dz fhg26_3) rfl rfl rfl ?_
    refine fO (OF.pickF (VEv.tmpB rfl (dz fhg26_3)) (VEv.bool false)) (VRunO.nil ?_)
    exact jq (congrArg T.bool (kAF fhg26_3)) (js rfl (js rfl (js rfl (js rfl (js rfl (jn))))))
  refine nt ?_
  refine cd ((Qs g.Cells i=46)∧((!(((Qn g i).2)[i]?.getD false))=true)) rfl (fun fhc2=> ?_) fun fhc2=> ?_
  ·have q0:QcI g (Qn g i).2 i:=⟨fhc2.1,by simpa [on] using fhc2.2⟩
   have q1:=Qc1 q0
   have hci:=QbC hgo (show i<g.Cells.size by omega)
   have hq0:0≤((i:Nat):Int) / ((g.Cols.toNat:Nat):Int):=Int.ediv_nonneg (by omega) (by omega)
   have hm0:0≤((i:Nat):Int) % ((g.Cols.toNat:Nat):Int):=Int.emod_nonneg _ (by omega)
   refine sr (mO (tN ((Qn g i).1)) rfl (fO (QB (tv (tN ((Qn g i).1)) rfl) (VEv.int .i64 1) (by omega)) (aO (tN ((Qn g i).1+1)) rfl (nt (VRun.draw (B:= [[],[],[],[2],[2,3,1],[],[],[6],[6,7,5],[5,7,6,8,1,3,2,4,0]]) (by kernel_rfl) (by kernel_rfl) (lD (OL.loadV1 (t:=(T.fn 185 [(T.rp (Qc false g)),(T.vp [(T.os 1 0 0 (((List.replicate g.Cells.size false).map (Qm true)).length))]),(vtT 185 (T.rp (Qc false g)) (T.vp [(T.os 1 0 0 (((List.replicate g.Cells.size false).map (Qm true)).length))]) 37)])) (tv (vtT 185 (T.rp (Qc false g)) (T.vp [(T.os 1 0 0 (((List.replicate g.Cells.size false).map (Qm true)).length))]) 38) rfl) rfl Qhs) rfl rfl (mD (tN i) rfl rfl (fD (B.fieldAddrR (us:=((Qc false g).drop 1)) (tv (T.rp (Qc false g)) rfl) (lb rfl) Zf rfl) rfl rfl (lD (OL.loadR1 (t:=(tI g.Cols)) (tv (T.rp ((Qc false g).drop 1)) rfl) rfl QU) rfl rfl (fD (B.quo (n:=((i / g.Cols.toNat:Nat):Int)) (tv (tN i) rfl) (tv (tI g.Cols) rfl) (by omega) (by (refine Qmo ?_ ?_<;>omega))) rfl rfl (mD (tN i) rfl rfl ?_)))))))))))
   refine fD (B.fieldAddrR (us:=((Qc false g).drop 1)) (tv (T.rp (Qc false g)) rfl) (lb rfl) Zf rfl) rfl rfl (lD (OL.loadR1 (t:=(tI g.Cols)) (tv (T.rp ((Qc false g).drop 1)) rfl) rfl QU) rfl rfl (fD (B.rem (n:=((i % g.Cols.toNat:Nat):Int)) (tv (tN i) rfl) (tv (tI g.Cols) rfl) (by omega) (by (refine QlB ?_;omega))) rfl rfl (VRunD.chain (bi:= [5,7,6,8,1,3,2,4,0]) rfl VWant.always rfl rfl rfl (by kernel_rfl) (OC.callvLoan (ts:= [(tN (i / g.Cols.toNat)),(tN (i % g.Cols.toNat)),(T.rp (Qc false g)),(T.vp [(T.os 1 0 0 (((List.replicate g.Cells.size false).map (Qm true)).length))]),(vtT 185 (T.rp (Qc false g)) (T.vp [(T.os 1 0 0 (((List.replicate g.Cells.size false).map (Qm true)).length))]) 37)]) (k:=0) (r:=(T.tup [])) (rows:=(((Qn g i).2).map (Qm true))) (rows':=((YY 37 g ((Qn g i).2) ((i / g.Cols.toNat:Nat):Int) ((i % g.Cols.toNat:Nat):Int)).map (Qm true))) rfl rfl (vc (tv (tN (i / g.Cols.toNat)) rfl) (vc (tv (tN (i % g.Cols.toNat)) rfl) vn)) rfl (by simp only [Qao,ren,QbE,List.cons_append,List.nil_append]) (tl rfl (tl rfl (tl rfl (tl rfl (tl (Qdk rfl rfl _) rfl))))) LRes.none rfl (Zo (fun _=>rfl) _) (Zo (fun _=>rfl) _) (Qdo (n+0) (((List.replicate g.Cells.size false).map (Qm true)).length) g 37 ((Qn g i).2) ((i / g.Cols.toNat:Nat):Int) ((i % g.Cols.toNat:Nat):Int) (by exact fhc0) (by (simp only [Y2,List.length_map,List.length_replicate];done)) (by (simp only [List.length_map,List.length_replicate];omega)) (by omega) (by omega) (by (refine Nat.lt_of_le_of_lt List.count_le_length ?_;rw [Y2];omega)))) (VRunD.nil (vinB.n (tn (VRun.region (fO (QB (tv (tN i) rfl) (VEv.int .i64 1) (by omega)) (mO (tN (i+1)) rfl (VRunO.nil (tn ?_)))))))))))
   have he5:YY 37 g ((Qn g i).2) ((i / g.Cols.toNat:Nat):Int) ((i % g.Cols.toNat:Nat):Int)=(Qn g (i+1)).2:=by (rw [q1.2];exact Qlt hgo hpl fhc1 (Nat.lt_of_le_of_lt List.count_le_length (by omega)) (QbP i hI1) q0.1)
   refine ⟨(i+1:Nat),?_,?_,Wk.mk (fun k=>k) ?_ ?_ ?_⟩
   ·trivial
   ·omega
   ·exact (b2 (b2 (b2 (b2 (bc ⟨(congrArg (T.int .i64) (show ((((Qn g i).1+1):Nat):Int)=(((Qn g (i+1)).1:Nat):Int) from (by omega))),rfl⟩ (b2 (b2 bn)))))))
   ·exact (bc ⟨(congrArg (fun l_=>some (Obj.rows 1 (List.map (Qm true) l_))) he5),(lb rfl),rfl⟩ bn)
   ·exact nd rfl
  have q0:¬QcI g (Qn g i).2 i:=fun h=>fhc2 ⟨h.1,by have:=h.2;unfold on at this;rw [this];rfl⟩
  refine sk (vinB.n (tn (VRun.region (fO (QB (tv (tN i) rfl) (VEv.int .i64 1) (by omega)) (mO (tN (i+1)) rfl (VRunO.nil (tn ?_)))))))
  have he6:(Qn g i).2=(Qn g (i+1)).2:=by (rw [Qbb q0];done)
  refine ⟨(i+1:Nat),?_,?_,Wk.mk (fun k=>k) ?_ ?_ ?_⟩
  ·trivial
  ·omega
  ·exact (b2 (b2 (b2 (b2 (bc ⟨(congrArg (T.int .i64) (show (((Qn g i).1:Nat):Int)=(((Qn g (i+1)).1:Nat):Int) from (by (rw [Qbb q0];done)))),rfl⟩ (b2 (b2 bn)))))))
  ·exact (bc ⟨(congrArg (fun l_=>some (Obj.rows 1 (List.map (Qm true) l_))) he6),(lb rfl),rfl⟩ bn)
  ·exact nd rfl
 refine VRun.exit (vthn.e (vthn.e (vinB.e (tn (sr (mO (tN ((Qn g i).1)) rfl (aO (tN ((Qn g i).1)) rfl (nt (rt (vi (n':=(((Qn g i).1:Nat):Int)) rfl ?_))))))))))
 exact congrArg (fun x:Nat=>(x:Int)) (Qfy hI1 (.inl hgo) (by omega))
end Go.Proofs.YtcccmceoplcciaaGreat.AE
namespace Go.Proofs.YtcccmceoplcciaaGreat.AE
open Go Go.RowKit
set_option linter.unusedVariables false
set_option linter.unusedSimpArgs false
set_option maxRecDepth 20000
set_option maxHeartbeats 2000000
noncomputable section
def ZV (g:D.Grid):Int:=if ¬gridOk g then 1 else if ¬QdZ g then 2 else if ¬ZZ g=1 then 3 else if Qch g then 4 else if Qbc g then 5 else 0
theorem QhS {g:D.Grid} (h:∀j s,j<(Qb g).length→(Qb g)[j]? =some s→¬Qd1 g j s) (hg:gridOk g):Qgb g g.Cells↔Qbc g:=by
 constructor
 ·rintro ⟨c,h1,h2,_⟩
  exact .inr ⟨c,h1,hg,h2⟩
 ·rintro (⟨j,s,h3,h4⟩ | ⟨c,h1,_,h2⟩)
  ·exact absurd h4 (h j s (List.getElem?_eq_some_iff.1 h3).1 h3)
  ·refine ⟨c,h1,h2,?_⟩
   unfold Qba
   have:=h2.1
   omega
end
theorem QbZ (n:Nat) (g:D.Grid) (hc:g.Cells.size≤mx):Pure (Qq Tryz.prog (n+4)) 133 [(T.agg (Qc false g))] (tB (decide (ZZ g=1))):=by
 refine Pure.intro (rs:= [ResultVar.tmp 2]) Tryz.func133 rfl rfl rfl (E0:= [(0,(T.agg (Qc false g)))]) rfl ?_
 obtain ⟨hlim,hmx,hmax⟩:=QG
 refine sr (kO (B.box (ts:=(Qc false g)) (tv (T.agg (Qc false g)) rfl) nofun rfl) (fO (OF.assign (VEv.bool false)) (nt (sr (lO (OL.loadOn (us:=(Qc false g)) (tv (T.op 0 0) rfl) rfl Q1 QT (lb rfl) rfl) (cO (cS (vc (tv (T.agg (Qc false g)) rfl) vn) (LendL.cons (lg Qt) ln) (Qef (n+0) g (by assumption)) rfl rfl) (fO (B.eql (c:=(decide (ZZ g=1))) (tv (tN (ZZ g)) rfl) (VEv.int .i64 1) (Q9 (by omega))) (aO (tB (decide (ZZ g=1))) rfl (nt (rt ?_))))))))))
 exact vb rfl rfl
theorem Qcf (n:Nat) (g:D.Grid) (hc:g.Cells.size≤mx):Pure (Qq Tryz.prog (n+40)) 137 [(T.agg (Qc false g))] (tB (decide (ZZ g=1))):=by
 refine Pure.intro (rs:= [ResultVar.tmp 2]) Tryz.func137 rfl rfl rfl (E0:= [(0,(T.agg (Qc false g)))]) rfl ?_
 obtain ⟨hlim,hmx,hmax⟩:=QG
 refine sr (kO (B.box (ts:=(Qc false g)) (tv (T.agg (Qc false g)) rfl) nofun rfl) (fO (OF.assign (VEv.bool false)) (nt (sr (lO (OL.loadOn (us:=(Qc false g)) (tv (T.op 0 0) rfl) rfl Q1 QT (lb rfl) rfl) (cO (cS (vc (tv (T.agg (Qc false g)) rfl) vn) (LendL.cons (lg Qt) ln) (QeS (n+0) g (by assumption)) rfl rfl) (fO (B.eql (c:=(decide (ZZ g=1))) (tv (tN (ZZ g)) rfl) (VEv.int .i64 1) (Q9 (by omega))) (aO (tB (decide (ZZ g=1))) rfl (nt (rt ?_))))))))))
 exact vb rfl rfl
theorem Qe5 (n:Nat) (g:D.Grid) (hc:g.Cells.size≤mx):Pure (Qq Tryz.prog (n+9)) 104 [(T.agg (Qc false g))] (tI (ZV g)):=by
 refine Pure.intro (rs:= [ResultVar.tmp 2]) Tryz.func104 rfl rfl rfl (E0:= [(0,(T.agg (Qc false g)))]) rfl ?_
 obtain ⟨hlim,hmx,hmax⟩:=QG
 refine sr (kO (B.box (ts:=(Qc false g)) (tv (T.agg (Qc false g)) rfl) nofun rfl) (fO (OF.assign (VEv.int .i64 0)) (nt (sq (VRun.block (sr (lO (OL.loadOn (us:=(Qc false g)) (tv (T.op 0 0) rfl) rfl Q1 QT (lb rfl) rfl) (cO (cS (vc (tv (T.agg (Qc false g)) rfl) vn) (LendL.cons (lg Qt) ln) (ZU (n+6) g (by omega)) rfl rfl) (fO (QS (tv (tB (decide (gridOk g))) rfl)) (aO (tB (!(decide (gridOk g)))) rfl (nt ?_)))))))))))
 refine cn (gridOk g) rfl (fun fhc0=> ?_) fun fhc0=> ?_
 ·refine sr ?_
  refine fO (OF.assign (VEv.int .i64 1)) (nt (rt (vinB.r (tr (vi (n':=1) rfl ?_)))))
  exact (if_pos (by assumption)).symm
 refine sr (lO (OL.loadOn (us:=(Qc false g)) (tv (T.op 0 0) rfl) rfl Q1 QT (lb rfl) rfl) (cO (cS (vc (tv (T.agg (Qc false g)) rfl) vn) (LendL.cons (lg Qt) ln) (Qb3 (n+4) g (by omega)) rfl rfl) (fO (QS (tv (tB (decide (QdZ g))) rfl)) (aO (tB (!(decide (QdZ g)))) rfl (nt ?_)))))
 refine cn (QdZ g) rfl (fun fhc1=> ?_) fun fhc1=> ?_
 ·refine sr ?_
  refine fO (OF.assign (VEv.int .i64 2)) (nt (rt (vinB.r (tr (vi (n':=2) rfl ?_)))))
  (simp only [ZV];simp [*];done)
 refine sr (lO (OL.loadOn (us:=(Qc false g)) (tv (T.op 0 0) rfl) rfl Q1 QT (lb rfl) rfl) (cO (cS (vc (tv (T.agg (Qc false g)) rfl) vn) (LendL.cons (lg Qt) ln) (QbZ (n+4) g (by assumption)) rfl rfl) (fO (QS (tv (tB (decide (ZZ g=1))) rfl)) (aO (tB (!(decide (ZZ g=1)))) rfl (nt ?_)))))
 refine cn (ZZ g=1) rfl (fun fhc2=> ?_) fun fhc2=> ?_
 ·refine sr ?_
  refine fO (OF.assign (VEv.int .i64 3)) (nt (rt (vinB.r (tr (vi (n':=3) rfl ?_)))))
  (simp only [ZV];simp [*];done)
 refine sr (lO (OL.loadOn (us:=(Qc false g)) (tv (T.op 0 0) rfl) rfl Q1 QT (lb rfl) rfl) (cO (cS (vc (tv (T.agg (Qc false g)) rfl) vn) (LendL.cons (lg Qt) ln) (QdN (n+4) g (by omega)) rfl rfl) (aO (tB (decide (Qch g))) rfl (nt ?_))))
 refine cd (Qch g) rfl (fun fhc3=> ?_) fun fhc3=> ?_
 ·refine sr ?_
  refine fO (OF.assign (VEv.int .i64 4)) (nt (rt (vinB.r (tr (vi (n':=4) rfl ?_)))))
  (simp only [ZV];simp [*];done)
 refine sr (lO (OL.loadOn (us:=(Qc false g)) (tv (T.op 0 0) rfl) rfl Q1 QT (lb rfl) rfl) (cO (cS (vc (tv (T.agg (Qc false g)) rfl) vn) (LendL.cons (lg Qt) ln) (QdL (n+0) g (by omega)) rfl rfl) (aO (tB (decide (Qbc g))) rfl (nt ?_))))
 refine cd (Qbc g) rfl (fun fhc4=> ?_) fun fhc4=> ?_
 ·refine sr ?_
  refine fO (OF.assign (VEv.int .i64 5)) (nt (rt (vinB.r (tr (vi (n':=5) rfl ?_)))))
  (simp only [ZV];simp [*];done)
 refine sk (vinB.n (tn (sr (fO (OF.assign (VEv.int .i64 0)) (nt (rt (vi (n':=0) rfl ?_)))))))
 (simp only [ZV];simp [*];done)
theorem Qfp (n:Nat) (g:D.Grid) (hc:g.Cells.size≤mx):Pure (Qq Tryz.prog (n+41)) 106 [(T.agg (Qc false g))] (tI (ZV g)):=by
 refine Pure.intro (rs:= [ResultVar.tmp 2]) Tryz.func106 rfl rfl rfl (E0:= [(0,(T.agg (Qc false g)))]) rfl ?_
 obtain ⟨hlim,hmx,hmax⟩:=QG
 have hsl:=Zn g
 refine sr (kO (B.box (ts:=(Qc false g)) (tv (T.agg (Qc false g)) rfl) nofun rfl) (fO (OF.assign (VEv.int .i64 0)) (nt (sq (VRun.block (sr (lO (OL.loadOn (us:=(Qc false g)) (tv (T.op 0 0) rfl) rfl Q1 QT (lb rfl) rfl) (cO (cS (vc (tv (T.agg (Qc false g)) rfl) vn) (LendL.cons (lg Qt) ln) (ZT (n+38) g (by omega)) rfl rfl) (fO (QS (tv (tB (decide (gridOk g))) rfl)) (aO (tB (!(decide (gridOk g)))) rfl (nt ?_)))))))))))
 refine cn (gridOk g) rfl (fun fhc0=> ?_) fun fhc0=> ?_
 ·refine sr ?_
  refine fO (OF.assign (VEv.int .i64 1)) (nt (rt (vinB.r (tr (vi (n':=1) rfl ?_)))))
  exact (if_pos fhc0).symm
 refine sr (lO (OL.loadOn (us:=(Qc false g)) (tv (T.op 0 0) rfl) rfl Q1 QT (lb rfl) rfl) (cO (cS (vc (tv (T.agg (Qc false g)) rfl) vn) (LendL.cons (lg Qt) ln) (Qce (n+36) g (by omega)) rfl rfl) (fO (QS (tv (tB (decide (QdZ g))) rfl)) (aO (tB (!(decide (QdZ g)))) rfl (nt ?_)))))
 refine cn (QdZ g) rfl (fun fhc1=> ?_) fun fhc1=> ?_
 ·refine sr ?_
  refine fO (OF.assign (VEv.int .i64 2)) (nt (rt (vinB.r (tr (vi (n':=2) rfl ?_)))))
  unfold ZV;rw [if_neg (not_not_intro fhc0),if_pos fhc1]
 refine sr (lO (OL.loadOn (us:=(Qc false g)) (tv (T.op 0 0) rfl) rfl Q1 QT (lb rfl) rfl) (cO (cS (vc (tv (T.agg (Qc false g)) rfl) vn) (LendL.cons (lg Qt) ln) (Qcf (n+0) g (by assumption)) rfl rfl) (fO (QS (tv (tB (decide (ZZ g=1))) rfl)) (aO (tB (!(decide (ZZ g=1)))) rfl (nt ?_)))))
 refine cn (ZZ g=1) rfl (fun fhc2=> ?_) fun fhc2=> ?_
 ·refine sr ?_
  refine fO (OF.assign (VEv.int .i64 3)) (nt (rt (vinB.r (tr (vi (n':=3) rfl ?_)))))
  unfold ZV;rw [if_neg (not_not_intro fhc0),if_neg (not_not_intro fhc1),if_pos fhc2]
 refine sk (vinB.n (tn (sr (lO (OL.loadOn (us:=(Qc false g)) (tv (T.op 0 0) rfl) rfl Q1 QT (lb rfl) rfl) (cO (OC.callF (us:= [(T.agg (Qc false g))]) (r:=(T.sl true 4 ((Qb g).map (Qg true)))) (r':=(T.os 4 1 0 (((Qb g).map (Qg true)).length))) (objs:= [(Obj.rows 4 ((Qb g).map (Qg true)))]) rfl (vc (tv (T.agg (Qc false g)) rfl) vn) (LendL.cons (lg Qt) ln) (JW (n+37) g (by omega)) rfl) (aO (T.os 4 1 0 (((Qb g).map (Qg true)).length)) rfl (nt (sq (sr (mO (T.os 4 1 0 (((Qb g).map (Qg true)).length)) rfl (lO (B.lenO (m:=(Qb g).length) (tv (T.os 4 1 0 (((Qb g).map (Qg true)).length)) rfl) Z7 (List.length_map ..)) ?_)))))))))))
 refine fO (OF.move (VEv.int .i64 0)) (nt (VRun.block ?_))
 refine VRun.loop (A:=Nat) (fun s_=> [(1,(T.op 0 0)),(3,(T.os 4 1 0 (((Qb g).map (Qg true)).length))),(22,(T.os 4 1 0 (((Qb g).map (Qg true)).length))),(23,(tN ((Qb g).length))),(24,(tN s_))]) (fun s_=>Q4 [(0,(Obj.cells (Qc false g))),(1,(Obj.rows 4 ((Qb g).map (Qg true))))]) 2 (fun s_=>NoneTo (fun s:D.Slot=>s.Length<3) (Qb g) s_) (fun s_=>(Qb g).length - s_) (0:Nat) ?_ (Wk.mk (fun k=>k) ?_ ?_ ?_) ?_
 ·exact NoneTo.start _ _
 ·exact (b2 (b2 (b2 (b2 (b2 bn)))))
 ·exact (b3 (b3 bn))
 ·exact nd rfl
 rintro i (hI':NoneTo (fun s:D.Slot=>s.Length<3) (Qb g) i)
 show VRun _ _ _ [(1,(T.op 0 0)),(3,(T.os 4 1 0 (((Qb g).map (Qg true)).length))),(22,(T.os 4 1 0 (((Qb g).map (Qg true)).length))),(23,(tN ((Qb g).length))),(24,(tN i))] (Q4 [(0,(Obj.cells (Qc false g))),(1,(Obj.rows 4 ((Qb g).map (Qg true))))]) 2 _
 have hI1:=hI'.1
 have hns:=hI'
 refine sr (fO (Ze (tv (tN i) rfl) (tv (tN ((Qb g).length)) rfl)) (nt (sq ?_)))
 refine cd (i<(Qb g).length) rfl (fun fhc3=> ?_) fun fhc3=> ?_
 ·have hx0:=fhc3
  refine sk (tn (sq (VRun.block (sr ?_))))
  obtain ⟨x1,hx1⟩:∃x,(Qb g)[i]? =some x:=⟨_,List.getElem?_eq_getElem (by omega)⟩
  refine fO (B.indexAddrO (i:=i) (tv (T.os 4 1 0 (((Qb g).map (Qg true)).length)) rfl) (tv (tN i) rfl) rfl (by (simp only [List.length_map];omega)) Z7 Zb QaX) (lO (OL.loadPn (us:=(Qg false x1)) (row:=(Qg true x1)) (tv (T.orp 4 1 i 0) rfl) rfl (Qu _ hx1) QcD Zb (lb rfl) rfl (bc rfl (bc rfl (bc rfl (bc rfl bn))))) (kO (B.alloc (t:=(T.agg [(tN 0),(tB false),(tN 0),(tN 0)])) (ts:= [(tN 0),(tB false),(tN 0),(tN 0)]) Yx QjE nofun (fun _=> .agg _ _ rfl (Yb (RL.cons (.int _ _) (RL.cons (.bool _) (RL.cons (.int _ _) (RL.cons (.int _ _) (RL.nil _))))))) rfl) (cO (B.storeO (us:=(Qg false x1)) (ws:=(Qg false x1)) (tv (T.op 2 0) rfl) (tv (T.agg (Qg false x1)) rfl) nofun rfl rfl (lb rfl) QaX Zb (bc rfl (bc rfl (bc rfl (bc rfl bn)))) rfl) (nt (sr (lf (tI x1.Length) rfl QaR rfl rfl QU (fO (xls (tv (tI x1.Length) rfl) (VEv.int .i64 3)) (nt ?_))))))))
  refine cd (x1.Length<3) rfl (fun fhc4=> ?_) fun fhc4=> ?_
  ·refine sr ?_
   refine fO (OF.assign (VEv.int .i64 4)) (nt (rt (vinB.r (tr (tr (vinB.r (tr (vi (n':=4) rfl ?_))))))))
   unfold ZV;rw [if_neg (not_not_intro fhc0),if_neg (not_not_intro fhc1),if_neg (not_not_intro fhc2),if_pos (show Qch g from ⟨x1,List.mem_of_getElem? hx1,fhc4⟩)]
  refine sk (vinB.n (tn (VRun.region (fO (QB (tv (tN i) rfl) (VEv.int .i64 1) (by omega)) (mO (tN (i+1)) rfl (VRunO.nil (tn ?_)))))))
  refine ⟨(i+1:Nat),?_,?_,Wk.mk (fun k=>k) ?_ ?_ ?_⟩
  ·exact hI'.next hx1 fhc4
  ·omega
  ·exact (b2 (b2 (b2 (b2 (b2 bn)))))
  ·exact (b3 (b3 bn))
  ·exact nd rfl
 have hsh:¬Qch g:=by rintro ⟨y,hy,hy2⟩;exact hns.mem fhc3 y hy hy2
 refine VRun.exit (vthn.e (vthn.e (vinB.e (tn (sq (sr (mO (T.os 4 1 0 (((Qb g).map (Qg true)).length)) rfl (lO (B.lenO (m:=(Qb g).length) (tv (T.os 4 1 0 (((Qb g).map (Qg true)).length)) rfl) Z7 (List.length_map ..)) (fO (OF.move (VEv.int .i64 0)) (nt (VRun.block ?_)))))))))))
 refine VRun.loop (A:=Nat) (fun s_=> [(1,(T.op 0 0)),(32,(T.os 4 1 0 (((Qb g).map (Qg true)).length))),(33,(tN ((Qb g).length))),(34,(tN s_))]) (fun s_=>Q4 [(0,(Obj.cells (Qc false g))),(1,(Obj.rows 4 ((Qb g).map (Qg true))))]) 2 (fun s_=>NoBad g s_) (fun s_=>(Qb g).length - s_) (0:Nat) ?_ (Wk.mk (fun k=>k) ?_ ?_ ?_) ?_
 ·exact NoBad.start _
 ·exact (b2 (b2 (b2 (b2 bn))))
 ·exact (b3 (b3 bn))
 ·exact nd rfl
 rintro k (hI':NoBad g k)
 show VRun _ _ _ [(1,(T.op 0 0)),(32,(T.os 4 1 0 (((Qb g).map (Qg true)).length))),(33,(tN ((Qb g).length))),(34,(tN k))] (Q4 [(0,(Obj.cells (Qc false g))),(1,(Obj.rows 4 ((Qb g).map (Qg true))))]) 2 _
 have hJ1:=hI'.1
 have hub:=QjY g ((k:Nat):Int)
 refine sr (fO (Ze (tv (tN k) rfl) (tv (tN ((Qb g).length)) rfl)) (nt (sq ?_)))
 refine cd (k<(Qb g).length) rfl (fun fhc5=> ?_) fun fhc5=> ?_
 ·refine sk ?_
  refine tn (sq (VRun.block (sr (mO (tN k) rfl ?_))))
  obtain ⟨x1,hx1⟩:∃x,(Qb g)[k]? =some x:=⟨_,List.getElem?_eq_getElem (by omega)⟩
  refine fO (B.indexAddrO (i:=k) (tv (T.os 4 1 0 (((Qb g).map (Qg true)).length)) rfl) (tv (tN k) rfl) rfl (by (simp only [List.length_map];omega)) Z7 Zb QaX) (lO (OL.loadPn (us:=(Qg false x1)) (row:=(Qg true x1)) (tv (T.orp 4 1 k 0) rfl) rfl (Qu _ hx1) QcD Zb (lb rfl) rfl (bc rfl (bc rfl (bc rfl (bc rfl bn))))) (kO (B.alloc (t:=(T.agg [(tN 0),(tB false),(tN 0),(tN 0)])) (ts:= [(tN 0),(tB false),(tN 0),(tN 0)]) Yx QjE nofun (fun _=> .agg _ _ rfl (Yb (RL.cons (.int _ _) (RL.cons (.bool _) (RL.cons (.int _ _) (RL.cons (.int _ _) (RL.nil _))))))) rfl) (aO (tN k) rfl (cO (B.storeO (us:=(Qg false x1)) (ws:=(Qg false x1)) (tv (T.op 2 0) rfl) (tv (T.agg (Qg false x1)) rfl) nofun rfl rfl (lb rfl) QaX Zb (bc rfl (bc rfl (bc rfl (bc rfl bn)))) rfl) (nt (sq (VRun.draw (B:= [[],[],[1,0],[0,1,2],[],[4],[4,5,2,1,0,3]]) (by kernel_rfl) (by kernel_rfl) (lD (OL.loadOn (us:=(Qc false g)) (tv (T.op 0 0) rfl) rfl Q1 QT (lb rfl) rfl) rfl rfl (mD (tN k) rfl rfl (VRunD.quiet (bi:= [1,0]) rfl VWant.always rfl rfl rfl bn (cS (vc (tv (T.agg (Qc false g)) rfl) (vc (tv (tN k) rfl) vn)) (LendL.cons (lg Qt) (lp rfl ln)) (Qb9 (n+33) g ((k:Nat):Int) (by omega)) rfl rfl) (fD (B.mul (n:=(2*unG g ((k:Nat):Int))) (VEv.int .i64 2) (tv (tI (unG g ((k:Nat):Int))) rfl) (by (rw [Qv (by omega)];done))) rfl rfl ?_)))))))))))
  refine fD (OF.fieldAddrO (tv (T.op 2 0) rfl) QaR) rfl rfl (lD (OL.loadO1 (t:=(tI x1.Length)) (tv (T.op 2 3) rfl) rfl rfl QU) rfl rfl (fD (xgt (tv (tI (2*unG g ((k:Nat):Int))) rfl) (tv (tI x1.Length) rfl)) rfl rfl (VRunD.nil (tn ?_))))
  refine cd (x1.Length<(2*unG g ((k:Nat):Int))) rfl (fun fhc6=> ?_) fun fhc6=> ?_
  ·have q1:Qd1 g k x1:=by unfold Qd1;omega
   refine sr (fO (OF.assign (VEv.int .i64 5)) (nt (rt (vinB.r (tr (tr (vinB.r (tr (vi (n':=5) rfl ?_)))))))))
   unfold ZV;rw [if_neg (not_not_intro fhc0),if_neg (not_not_intro fhc1),if_neg (not_not_intro fhc2),if_neg hsh,if_pos (show Qbc g from .inl ⟨k,x1,hx1,q1⟩)]
  have q1:¬Qd1 g k x1:=by unfold Qd1;omega
  refine sk (vinB.n (tn (VRun.region (fO (QB (tv (tN k) rfl) (VEv.int .i64 1) (by omega)) (mO (tN (k+1)) rfl (VRunO.nil (tn ?_)))))))
  refine ⟨(k+1:Nat),?_,?_,Wk.mk (fun k=>k) ?_ ?_ ?_⟩
  ·exact hI'.next hx1 q1
  ·omega
  ·exact (b2 (b2 (b2 (b2 bn))))
  ·exact (b3 (b3 bn))
  ·exact nd rfl
 have hal:=QhS (g:=g) (fun j s hj=>hI'.2 j s (by omega)) (by simpa using fhc0)
 refine VRun.exit (vthn.e (vthn.e (vinB.e (tn (sq (sr (lO (OL.loadOn (us:=(Qc false g)) (tv (T.op 0 0) rfl) rfl Q1 QT (lb rfl) rfl) (lf (tS g.Cells) rfl QC rfl rfl Z5 (cO (cS (vc (tv (T.agg (Qc false g)) rfl) (vc (tv (tS g.Cells) rfl) vn)) (LendL.cons (lg Qt) (lp rfl ln)) (Qgd (n+35) g g.Cells (by omega) (by omega)) rfl rfl) (nt ?_))))))))))
 refine cd (Qgb g g.Cells) rfl (fun fhc7=> ?_) fun fhc7=> ?_
 ·refine sr ?_
  refine fO (OF.assign (VEv.int .i64 5)) (nt (rt (tr (vi (n':=5) rfl ?_))))
  unfold ZV;rw [if_neg (not_not_intro fhc0),if_neg (not_not_intro fhc1),if_neg (not_not_intro fhc2),if_neg hsh,if_pos (hal.1 fhc7)]
 refine sk (tn (sr (fO (OF.assign (VEv.int .i64 0)) (nt (rt (vi (n':=0) rfl ?_))))))
 unfold ZV;rw [if_neg (not_not_intro fhc0),if_neg (not_not_intro fhc1),if_neg (not_not_intro fhc2),if_neg hsh,if_neg (fun h=>fhc7 (hal.2 h))]
end Go.Proofs.YtcccmceoplcciaaGreat.AE
namespace Go.Proofs.YtcccmceoplcciaaGreat.AE
open Go Go.RowKit
set_option linter.unusedVariables false
set_option linter.unusedSimpArgs false
set_option maxRecDepth 20000
set_option maxHeartbeats 2000000
noncomputable section
def okC (c:D.Clue):Prop:=(1≤c.Sense∧c.Sense≤99)∧Yo c.Play
end
end Go.Proofs.YtcccmceoplcciaaGreat.AE
namespace Go.Proofs.YtcccmceoplcciaaGreat.AE
open Go Go.RowKit
set_option linter.unusedVariables false
set_option linter.unusedSimpArgs false
set_option maxRecDepth 20000
set_option maxHeartbeats 2000000
noncomputable section
def Qel : Nat→Int→ByteArray→ByteArray
 | 0,_,acc=>acc
 | f+1,k,acc=>if 0<k then Qel f (k.tdiv 10) (ZP [IntKind.u8.wrap (48+k.tmod 10)]++acc) else acc
def Qa0 (k:Int):ByteArray:=if k≤0 then ⟨#[109,48]⟩ else ⟨#[109]⟩++Qel k.toNat k ⟨#[]⟩
theorem Qjq {f:Nat} {k:Int} {acc:ByteArray} (hk:0<k) (hf:k.toNat≤f):0≤k.tdiv 10∧(k.tdiv 10).toNat≤f - 1∧Qel f k acc=Qel (f - 1) (k.tdiv 10) (ZP [IntKind.u8.wrap (48+k.tmod 10)]++acc):=by
 have h1:k.tdiv 10=k / 10:=Int.tdiv_eq_ediv_of_nonneg (by omega)
 cases f with
 | zero=>omega
 | succ f =>
  refine ⟨by omega,by omega,?_⟩
  simp only [Qel,if_pos hk]
  rfl
theorem Qkm {f:Nat} {k:Int} {acc:ByteArray} (hk:¬ 0<k):Qel f k acc=acc:=by
 cases f with
 | zero=>rfl
 | succ f=>simp only [Qel,if_neg hk]
theorem Qkt (n:Int):(ZP [n]).size=1:=rfl
theorem Ql9 {k:Int} (h:0<k):0≤k.tmod 10∧k.tmod 10<10∧0≤k.tdiv 10∧k.tdiv 10≤k:=by
 rw [Int.tmod_eq_emod_of_nonneg (by omega),Int.tdiv_eq_ediv_of_nonneg (by omega)]
 omega
end
theorem QdR (n:Nat) (q:Int) (hq:q≤Jn):Pure (Qq Tryz.prog (n+1)) 102 [(tI q)] (tS (Qa0 q)):=by
 refine Pure.intro (rs:= [ResultVar.tmp 2]) Tryz.func102 rfl rfl rfl (E0:= [(0,(tI q))]) rfl ?_
 obtain ⟨hlim,hmx,hmax⟩:=QG
 refine sr (fO (OF.assign (VEv.str (⟨#[]⟩:ByteArray))) (nt (sq (sr (mO (tI q) rfl (fO (xle (tv (tI q) rfl) (VEv.int .i64 0)) (nt ?_)))))))
 refine cd (q≤0) rfl (fun fhc0=> ?_) fun fhc0=> ?_
 ·refine sr ?_
  refine fO (OF.assign (VEv.str (⟨#[109,48]⟩:ByteArray))) (nt (rt (tr ?_)))
  refine vfin.eq (r':=(tS (⟨#[109,48]⟩:ByteArray))) ?_ (vfin.r (VRes.tmp (t:=(tS (⟨#[109,48]⟩:ByteArray))) rfl VRes.nil) (Give.str _))
  show (tS (⟨#[109,48]⟩:ByteArray))=(tS (Qa0 q))
  refine congrArg T.str ?_
  exact (if_pos fhc0).symm
 refine sk (tn (sr (fO (OF.assign (VEv.str (⟨#[]⟩:ByteArray))) (nt (sq (VRun.block ?_))))))
 refine VRun.loop (A:=Int×Nat×ByteArray) (fun s_=> [(0,(tI s_.1)),(2,(tS (⟨#[]⟩:ByteArray))),(3,(tS s_.2.2))]) (fun s_=>Q4 []) 0 (fun s_=>0≤s_.1∧s_.1.toNat≤s_.2.1∧s_.2.2.size+s_.2.1≤q.toNat∧Qel q.toNat q ⟨#[]⟩=Qel s_.2.1 s_.1 s_.2.2) (fun s_=>s_.2.1) ((q,q.toNat,⟨#[]⟩):Int×Nat×ByteArray) ?_ (Wk.mk (fun k=>k) ?_ ?_ ?_) ?_
 ·exact ⟨by omega,Nat.le_refl _,by show 0+q.toNat≤q.toNat;omega,rfl⟩
 ·exact (b2 (b2 (bc ⟨(congrArg T.str (show (⟨#[]⟩:ByteArray)=⟨#[]⟩ from (by rfl))),rfl⟩ bn)))
 ·exact bn
 ·exact nd rfl
 rintro ⟨k,f,acc⟩ (hI':0≤k∧k.toNat≤f∧acc.size+f≤q.toNat∧Qel q.toNat q ⟨#[]⟩=Qel f k acc)
 show VRun _ _ _ [(0,(tI k)),(2,(tS (⟨#[]⟩:ByteArray))),(3,(tS acc))] (Q4 []) 0 _
 have hI1:=hI'.1
 have hI2:=hI'.2.1
 have hI3:=hI'.2.2.1
 have hI4:=hI'.2.2.2
 refine sq (sr (mO (tI k) rfl (fO (xgt (tv (tI k) rfl) (VEv.int .i64 0)) (nt ?_))))
 refine cd (0<k) rfl (fun fhc1=> ?_) fun fhc1=> ?_
 ·obtain ⟨m1,m2,m3,m4⟩:=Ql9 fhc1
  refine sk (tn (VRun.block (sr (mO (tI k) rfl (fO (B.rem (n:=(k.tmod 10)) (tv (tI k) rfl) (VEv.int .i64 10) (by omega) (by rfl)) (fO (B.add (n:=(48+(k.tmod 10))) (VEv.int .i64 48) (tv (tI (k.tmod 10)) rfl) (by (rw [Qv (by omega)];done))) (fO (OF.convI (tv (tI (48+(k.tmod 10))) rfl) (k0:= .i64) U3 U5) (kO (OM.buildSlice (l:= [(T.int .u8 (IntKind.u8.wrap (48+(k.tmod 10))))]) (VEvp.cons (tv (T.int .u8 (IntKind.u8.wrap (48+(k.tmod 10)))) rfl) VEvp.nil) rfl (by decide) (bc (nofun) bn) (bc ((bc (rfl) bn)) bn) (bc (rfl) bn) QbM zo5 (by kernel_rfl) rfl (by rw [sz5];decide) sz5 (Nat.le_of_ble_eq_true rfl)) (lO (B.convBS (l:= [IntKind.u8.wrap (48+(k.tmod 10))]) (tv (T.os 1 0 0 1) rfl) rfl rfl QbM U5 U9) (mO (tS acc) rfl (fO (B.sadd (tv (tS (ZP [IntKind.u8.wrap (48+(k.tmod 10))])) rfl) (tv (tS acc) rfl) (by (simp only [Qkt];omega))) ?_)))))))))))
  refine aO (tS ((ZP [IntKind.u8.wrap (48+(k.tmod 10))])++acc)) rfl (nt (VRun.region (mO (tI k) rfl (fO (B.quo (n:=(k.tdiv 10)) (tv (tI k) rfl) (VEv.int .i64 10) (by omega) (by (rw [Qv (by omega)];done))) (aO (tI (k.tdiv 10)) rfl (VRunO.nil (vinB.n (tn ?_))))))))
  obtain ⟨n1,n2,n3⟩:=Qjq (acc:=acc) fhc1 hI2
  refine ⟨((k.tdiv 10,f - 1,ZP [IntKind.u8.wrap (48+k.tmod 10)]++acc):Int×Nat×ByteArray),?_,?_,Wk.mk (fun k=>k) ?_ ?_ ?_⟩
  ·exact ⟨n1,n2,by show (ZP _++acc).size+(f - 1)≤q.toNat;rw [ByteArray.size_append,Qkt];omega,hI4.trans n3⟩
  ·(simp only [];omega)
  ·exact (b2 (b2 (bc ⟨(congrArg T.str (show ((ZP [IntKind.u8.wrap (48+(k.tmod 10))])++acc)=(ZP [IntKind.u8.wrap (48+k.tmod 10)]++acc) from (by rfl))),rfl⟩ bn)))
  ·exact bn
  ·exact nd rfl
 refine VRun.exit (vthn.e (vthn.e (vinB.e (tn (sr (mO (tS acc) rfl (fO (B.sadd (VEv.str (⟨#[109]⟩:ByteArray)) (tv (tS acc) rfl) (by (rw [show (⟨#[109]⟩:ByteArray).size=1 from rfl];omega))) (aO (tS ((⟨#[109]⟩:ByteArray)++acc)) rfl (nt (rt ?_))))))))))
 refine vfin.eq (r':=(tS ((⟨#[109]⟩:ByteArray)++acc))) ?_ (vfin.r (VRes.tmp (t:=(tS ((⟨#[109]⟩:ByteArray)++acc))) rfl VRes.nil) (Give.str _))
 show (tS ((⟨#[109]⟩:ByteArray)++acc))=(tS (Qa0 q))
 refine congrArg T.str ?_
 unfold Qa0
 rw [if_neg fhc0,hI4,Qkm fhc1]
end Go.Proofs.YtcccmceoplcciaaGreat.AE
namespace Go.Proofs.YtcccmceoplcciaaGreat.AE
open Go Go.RowKit
set_option linter.unusedVariables false
set_option linter.unusedSimpArgs false
set_option maxRecDepth 20000
set_option maxHeartbeats 2000000
noncomputable section
def Zp (k:Nat):D.Step:=(D.Step.mk ((k:Nat):Int) (Qa0 ((k+1:Nat):Int)) ((k+2:Nat):Int) ((k+3:Nat):Int))
end
theorem Qc5 (n:Nat) (a:List D.Step) (k:Nat) (hk:k+4*a.length≤Jn):Mut (Qq Tryz.prog (n+2)) 52 4 (a.map (Qj true)) [(tN k)] (some ((k+4*a.length:Nat):Int)) ((JA Zp 4 k a.length).map (Qj true)):=by
 refine Mut.intro (rt:=4) Tryz.func52 rfl rfl rfl (by kernel_rfl) (Zo (fun _=>rfl) _) (Zo (fun _=>rfl) _) (E0:= [(1,(tN k))]) rfl ?_
 obtain ⟨hlim,hmx,hmax⟩:=QG
 refine sr (fO (OF.assign (VEv.int .i64 0)) (nt (sq (sr (fO (OF.assign (VEv.int .i64 0)) (nt (VRun.block ?_)))))))
 have he1:a=Y1 Zp 4 k a 0:=by rfl
 refine VRun.loop (A:=Nat) (fun s_=> [(0,(T.os 4 0 0 (((Y1 Zp 4 k a s_).map (Qj true)).length))),(1,(tN (k+4*s_))),(4,(tN 0)),(5,(tN s_))]) (fun s_=>Q4 [(0,(Obj.rows 4 ((Y1 Zp 4 k a s_).map (Qj true))))]) 1 (fun s_=>s_≤a.length) (fun s_=>a.length - s_) (0:Nat) ?_ (Wk.mk (fun k=>k) ?_ ?_ ?_) ?_
 ·(simp;done)
 ·exact (bc ⟨(congrArg (fun l_=>T.os 4 0 0 (List.map (Qj true) l_).length) he1),rfl⟩ (bc ⟨(congrArg (T.int .i64) (show ((k:Nat):Int)=((k+4*0:Nat):Int) from (by rfl))),rfl⟩ (b2 (b2 bn))))
 ·exact (bc ⟨(congrArg (fun l_=>some (Obj.rows 4 (List.map (Qj true) l_))) he1),(lb rfl),rfl⟩ bn)
 ·exact nd rfl
 rintro i (hI':i≤a.length)
 show VRun _ _ _ [(0,(T.os 4 0 0 (((Y1 Zp 4 k a i).map (Qj true)).length))),(1,(tN (k+4*i))),(4,(tN 0)),(5,(tN i))] (Q4 [(0,(Obj.rows 4 ((Y1 Zp 4 k a i).map (Qj true))))]) 1 _
 have hml:=Qby (f:=Zp) (w:=4) (k:=k) hI'
 refine sq (sr (mO (tN i) rfl (mO (T.os 4 0 0 (((Y1 Zp 4 k a i).map (Qj true)).length)) rfl (lO (B.lenO (m:=(Y1 Zp 4 k a i).length) (tv (T.os 4 0 0 (((Y1 Zp 4 k a i).map (Qj true)).length)) rfl) U81 (List.length_map ..)) (fO (Ze (tv (tN i) rfl) (tv (tN ((Y1 Zp 4 k a i).length)) rfl)) (nt ?_))))))
 refine cd (i<(Y1 Zp 4 k a i).length) rfl (fun fhc0=> ?_) fun fhc0=> ?_
 ·refine sk ?_
  refine tn (sq (VRun.block (sr (mO (T.os 4 0 0 (((Y1 Zp 4 k a i).map (Qj true)).length)) rfl (mO (tN i) rfl (mO (tN (k+4*i)) rfl ?_))))))
  obtain ⟨x1,hx1⟩:∃x,(Y1 Zp 4 k a i)[i]? =some x:=⟨_,List.getElem?_eq_getElem (by omega)⟩
  refine fO (B.indexAddrO (i:=i) (tv (T.os 4 0 0 (((Y1 Zp 4 k a i).map (Qj true)).length)) rfl) (tv (tN i) rfl) rfl (by (simp only [List.length_map];omega)) U81 Yj JF) (fO (OF.fieldAddrP (tv (T.orp 4 0 i 0) rfl) Q6) (cO (B.storeP (us:= [(tN (k+4*i))]) (rows':=(((Y1 Zp 4 k a i).set i (D.Step.mk ((k+4*i:Nat):Int) x1.Word x1.A x1.B)).map (Qj true))) (row:=(Qj true x1)) (tv (T.orp 4 0 i 0) rfl) (tv (tN (k+4*i)) rfl) nofun rfl (Qu _ hx1) rfl (lb rfl) Yl Za (bc rfl bn) (by intro r hr t ht;obtain ⟨x,_,rfl⟩:=List.mem_map.1 hr;rw [QeT] at ht;exact ZA (okeStep.pl _ t ht)) (Zw rfl)) (nt (sr (mO (tN (k+4*i)) rfl (fO (QB (tv (tN (k+4*i)) rfl) (VEv.int .i64 1) (by omega)) (aO (tN (k+4*i+1)) rfl (nt (sr (mO (T.os 4 0 0 (((Y1 Zp 4 k a i).map (Qj true)).length)) rfl (mO (tN i) rfl ?_)))))))))))
  refine mO (tN (k+4*i+1)) rfl (cO (cS (vc (tv (tN (k+4*i+1)) rfl) vn) (ZO rfl) (QdR (n+0) (((k+4*i+1):Nat):Int) (by omega)) rfl rfl) (fO (B.indexAddrO (i:=i) (tv (T.os 4 0 0 (((Y1 Zp 4 k a i).map (Qj true)).length)) rfl) (tv (tN i) rfl) rfl (by (simp only [List.length_map];omega)) U81 Yj JF) (fO (OF.fieldAddrP (tv (T.orp 4 0 i 0) rfl) Qaa) (cO (B.storeP (us:= [(tS (Qa0 (((k+4*i+1):Nat):Int)))]) (rows':=((((Y1 Zp 4 k a i).set i (D.Step.mk ((k+4*i:Nat):Int) x1.Word x1.A x1.B)).set i (D.Step.mk ((k+4*i:Nat):Int) (Qa0 (((k+4*i+1):Nat):Int)) x1.A x1.B)).map (Qj true))) (row:=(Qj true (D.Step.mk ((k+4*i:Nat):Int) x1.Word x1.A x1.B))) (tv (T.orp 4 0 i 1) rfl) (tv (tS (Qa0 (((k+4*i+1):Nat):Int))) rfl) nofun rfl (Qu _ (Qf9 (by omega))) rfl (lb rfl) if9 sz9 (bc rfl bn) (by intro r hr t ht;obtain ⟨x,_,rfl⟩:=List.mem_map.1 hr;rw [QeT] at ht;exact ZA (okeStep.pl _ t ht)) (Zw rfl)) (nt (sr (mO (tN (k+4*i+1)) rfl (fO (QB (tv (tN (k+4*i+1)) rfl) (VEv.int .i64 1) (by omega)) (aO (tN ((k+4*i+1)+1)) rfl (nt (sr ?_)))))))))))
  refine mO (T.os 4 0 0 (((Y1 Zp 4 k a i).map (Qj true)).length)) rfl (mO (tN i) rfl (mO (tN ((k+4*i+1)+1)) rfl (fO (B.indexAddrO (i:=i) (tv (T.os 4 0 0 (((Y1 Zp 4 k a i).map (Qj true)).length)) rfl) (tv (tN i) rfl) rfl (by (simp only [List.length_map];omega)) U81 Yj JF) (fO (OF.fieldAddrP (tv (T.orp 4 0 i 0) rfl) YD) (cO (B.storeP (us:= [(tN ((k+4*i+1)+1))]) (rows':=(((((Y1 Zp 4 k a i).set i (D.Step.mk ((k+4*i:Nat):Int) x1.Word x1.A x1.B)).set i (D.Step.mk ((k+4*i:Nat):Int) (Qa0 (((k+4*i+1):Nat):Int)) x1.A x1.B)).set i (D.Step.mk ((k+4*i:Nat):Int) (Qa0 (((k+4*i+1):Nat):Int)) ((((k+4*i+1)+1):Nat):Int) x1.B)).map (Qj true))) (row:=(Qj true (D.Step.mk ((k+4*i:Nat):Int) (Qa0 (((k+4*i+1):Nat):Int)) x1.A x1.B))) (tv (T.orp 4 0 i 2) rfl) (tv (tN ((k+4*i+1)+1)) rfl) nofun rfl (Qu _ (Qf9 (by (simp only [List.length_set];omega)))) rfl (lb rfl) Yl Za (bc rfl bn) (by intro r hr t ht;obtain ⟨x,_,rfl⟩:=List.mem_map.1 hr;rw [QeT] at ht;exact ZA (okeStep.pl _ t ht)) (Zw rfl)) (nt (sr (mO (tN ((k+4*i+1)+1)) rfl (fO (QB (tv (tN ((k+4*i+1)+1)) rfl) (VEv.int .i64 1) (by omega)) (aO (tN (((k+4*i+1)+1)+1)) rfl (nt ?_)))))))))))
  refine sr (mO (T.os 4 0 0 (((Y1 Zp 4 k a i).map (Qj true)).length)) rfl (mO (tN i) rfl (mO (tN (((k+4*i+1)+1)+1)) rfl (fO (B.indexAddrO (i:=i) (tv (T.os 4 0 0 (((Y1 Zp 4 k a i).map (Qj true)).length)) rfl) (tv (tN i) rfl) rfl (by (simp only [List.length_map];omega)) U81 Yj JF) (fO (OF.fieldAddrP (tv (T.orp 4 0 i 0) rfl) Yg) (cO (B.storeP (us:= [(tN (((k+4*i+1)+1)+1))]) (rows':=((((((Y1 Zp 4 k a i).set i (D.Step.mk ((k+4*i:Nat):Int) x1.Word x1.A x1.B)).set i (D.Step.mk ((k+4*i:Nat):Int) (Qa0 (((k+4*i+1):Nat):Int)) x1.A x1.B)).set i (D.Step.mk ((k+4*i:Nat):Int) (Qa0 (((k+4*i+1):Nat):Int)) ((((k+4*i+1)+1):Nat):Int) x1.B)).set i (D.Step.mk ((k+4*i:Nat):Int) (Qa0 (((k+4*i+1):Nat):Int)) ((((k+4*i+1)+1):Nat):Int) (((((k+4*i+1)+1)+1):Nat):Int))).map (Qj true))) (row:=(Qj true (D.Step.mk ((k+4*i:Nat):Int) (Qa0 (((k+4*i+1):Nat):Int)) ((((k+4*i+1)+1):Nat):Int) x1.B))) (tv (T.orp 4 0 i 3) rfl) (tv (tN (((k+4*i+1)+1)+1)) rfl) nofun rfl (Qu _ (Qf9 (by (simp only [List.length_set];omega)))) rfl (lb rfl) Yl Za (bc rfl bn) (by intro r hr t ht;obtain ⟨x,_,rfl⟩:=List.mem_map.1 hr;rw [QeT] at ht;exact ZA (okeStep.pl _ t ht)) (Zw rfl)) (nt (VRun.region (mO (tN (((k+4*i+1)+1)+1)) rfl (fO (QB (tv (tN (((k+4*i+1)+1)+1)) rfl) (VEv.int .i64 1) (by omega)) (aO (tN ((((k+4*i+1)+1)+1)+1)) rfl ?_)))))))))))
  refine VRunO.nil (vinB.n (tn (VRun.region (mO (tN i) rfl (fO (QB (tv (tN i) rfl) (VEv.int .i64 1) (by omega)) (aO (tN (i+1)) rfl (VRunO.nil (tn ?_))))))))
  have hi1:i+1≤a.length:=by omega
  have he2:(((((Y1 Zp 4 k a i).set i (D.Step.mk ((k+4*i:Nat):Int) x1.Word x1.A x1.B)).set i (D.Step.mk ((k+4*i:Nat):Int) (Qa0 (((k+4*i+1):Nat):Int)) x1.A x1.B)).set i (D.Step.mk ((k+4*i:Nat):Int) (Qa0 (((k+4*i+1):Nat):Int)) ((((k+4*i+1)+1):Nat):Int) x1.B)).set i (D.Step.mk ((k+4*i:Nat):Int) (Qa0 (((k+4*i+1):Nat):Int)) ((((k+4*i+1)+1):Nat):Int) (((((k+4*i+1)+1)+1):Nat):Int)))=Y1 Zp 4 k a (i+1):=by (simp only [List.set_set];refine Qit ?_;omega)
  refine ⟨(i+1:Nat),?_,?_,Wk.mk (fun k=>k) ?_ ?_ ?_⟩
  ·trivial
  ·omega
  ·exact (bc ⟨(congrArg (fun n_=>T.os 4 0 0 n_) (show ((Y1 Zp 4 k a i).map (Qj true)).length=((Y1 Zp 4 k a (i+1)).map (Qj true)).length from (by rw [List.length_map,List.length_map,Qby hI',Qby hi1]))),rfl⟩ (bc ⟨(congrArg (T.int .i64) (show ((((((k+4*i+1)+1)+1)+1):Nat):Int)=((k+4*(i+1):Nat):Int) from (by rfl))),rfl⟩ (b2 (b2 bn))))
  ·exact (bc ⟨(congrArg (fun l_=>some (Obj.rows 4 (List.map (Qj true) l_))) he2),(lb rfl),rfl⟩ bn)
  ·exact nd rfl
 refine VRun.exit (vthn.e (vthn.e (vinB.e (tn (sr (mO (tN (k+4*i)) rfl (aO (tN (k+4*i)) rfl (nt (rt ?_)))))))))
 refine vmut.r (r0:=((k+4*i:Nat):Int)) (rows:=((Y1 Zp 4 k a i).map (Qj true))) rfl rfl rfl ?_ ?_ rfl
 ·(push_cast;omega)
 ·show List.map _ (Y1 Zp 4 k a i)=List.map _ (JA Zp 4 k a.length)
  refine congrArg (List.map _) ?_
  exact Qiv hI' (by omega)
noncomputable section
def Zl (k:Nat):Int:=((k:Nat):Int)
end
theorem QaV (n:Nat) (a:List Int) (k:Nat) (hk:k+1*a.length≤Jn):Mut (Qq Tryz.prog (n+1)) 21 1 (a.map (Qa true)) [(tN k)] (some ((k+1*a.length:Nat):Int)) ((JA Zl 1 k a.length).map (Qa true)):=by
 refine Mut.intro (rt:=4) Tryz.func21 rfl rfl rfl (by kernel_rfl) (Zo (fun _=>rfl) _) (Zo (fun _=>rfl) _) (E0:= [(1,(tN k))]) rfl ?_
 obtain ⟨hlim,hmx,hmax⟩:=QG
 refine sr (fO (OF.assign (VEv.int .i64 0)) (nt (sq (sr (fO (OF.assign (VEv.int .i64 0)) (nt (VRun.block ?_)))))))
 have he1:a=Y1 Zl 1 k a 0:=by rfl
 refine VRun.loop (A:=Nat) (fun s_=> [(0,(T.os 1 0 0 (((Y1 Zl 1 k a s_).map (Qa true)).length))),(1,(tN (k+1*s_))),(4,(tN 0)),(5,(tN s_))]) (fun s_=>Q4 [(0,(Obj.rows 1 ((Y1 Zl 1 k a s_).map (Qa true))))]) 1 (fun s_=>s_≤a.length) (fun s_=>a.length - s_) (0:Nat) ?_ (Wk.mk (fun k=>k) ?_ ?_ ?_) ?_
 ·(simp;done)
 ·exact (bc ⟨(congrArg (fun l_=>T.os 1 0 0 (List.map (Qa true) l_).length) he1),rfl⟩ (bc ⟨(congrArg (T.int .i64) (show ((k:Nat):Int)=((k+1*0:Nat):Int) from (by rfl))),rfl⟩ (b2 (b2 bn))))
 ·exact (bc ⟨(congrArg (fun l_=>some (Obj.rows 1 (List.map (Qa true) l_))) he1),(lb rfl),rfl⟩ bn)
 ·exact nd rfl
 rintro i (hI':i≤a.length)
 show VRun _ _ _ [(0,(T.os 1 0 0 (((Y1 Zl 1 k a i).map (Qa true)).length))),(1,(tN (k+1*i))),(4,(tN 0)),(5,(tN i))] (Q4 [(0,(Obj.rows 1 ((Y1 Zl 1 k a i).map (Qa true))))]) 1 _
 have hml:=Qby (f:=Zl) (w:=1) (k:=k) hI'
 refine sq (sr (mO (tN i) rfl (mO (T.os 1 0 0 (((Y1 Zl 1 k a i).map (Qa true)).length)) rfl (lO (B.lenO (m:=(Y1 Zl 1 k a i).length) (tv (T.os 1 0 0 (((Y1 Zl 1 k a i).map (Qa true)).length)) rfl) Zt (List.length_map ..)) (fO (Ze (tv (tN i) rfl) (tv (tN ((Y1 Zl 1 k a i).length)) rfl)) (nt ?_))))))
 refine cd (i<(Y1 Zl 1 k a i).length) rfl (fun fhc0=> ?_) fun fhc0=> ?_
 ·refine sk ?_
  refine tn (sq (VRun.block (sr (mO (T.os 1 0 0 (((Y1 Zl 1 k a i).map (Qa true)).length)) rfl (mO (tN i) rfl (mO (tN (k+1*i)) rfl ?_))))))
  obtain ⟨x1,hx1⟩:∃x,(Y1 Zl 1 k a i)[i]? =some x:=⟨_,List.getElem?_eq_getElem (by omega)⟩
  refine fO (B.indexAddrO (i:=i) (tv (T.os 1 0 0 (((Y1 Zl 1 k a i).map (Qa true)).length)) rfl) (tv (tN i) rfl) rfl (by (simp only [List.length_map];omega)) Zt Za Yl) (cO (B.storeP (us:= [(tN (k+1*i))]) (rows':=(((Y1 Zl 1 k a i).set i ((k+1*i:Nat):Int)).map (Qa true))) (row:=(Qa true x1)) (tv (T.orp 1 0 i 0) rfl) (tv (tN (k+1*i)) rfl) nofun rfl (Qu _ hx1) rfl (lb rfl) Yl Za (bc rfl bn) (by intro r hr t ht;obtain ⟨x,_,rfl⟩:=List.mem_map.1 hr;rw [QlM] at ht;exact ZA (okInt.pl _ t ht)) (Zw rfl)) (nt (VRun.region (mO (tN (k+1*i)) rfl (fO (QB (tv (tN (k+1*i)) rfl) (VEv.int .i64 1) (by omega)) (aO (tN (k+1*i+1)) rfl (VRunO.nil (vinB.n (tn (VRun.region (mO (tN i) rfl ?_)))))))))))
  refine fO (QB (tv (tN i) rfl) (VEv.int .i64 1) (by omega)) (aO (tN (i+1)) rfl (VRunO.nil (tn ?_)))
  have hi1:i+1≤a.length:=by omega
  have he2:((Y1 Zl 1 k a i).set i ((k+1*i:Nat):Int))=Y1 Zl 1 k a (i+1):=by (refine Qit ?_;omega)
  refine ⟨(i+1:Nat),?_,?_,Wk.mk (fun k=>k) ?_ ?_ ?_⟩
  ·trivial
  ·omega
  ·exact (bc ⟨(congrArg (fun n_=>T.os 1 0 0 n_) (show ((Y1 Zl 1 k a i).map (Qa true)).length=((Y1 Zl 1 k a (i+1)).map (Qa true)).length from (by rw [List.length_map,List.length_map,Qby hI',Qby hi1]))),rfl⟩ (bc ⟨(congrArg (T.int .i64) (show (((k+1*i+1):Nat):Int)=((k+1*(i+1):Nat):Int) from (by rfl))),rfl⟩ (b2 (b2 bn))))
  ·exact (bc ⟨(congrArg (fun l_=>some (Obj.rows 1 (List.map (Qa true) l_))) he2),(lb rfl),rfl⟩ bn)
  ·exact nd rfl
 refine VRun.exit (vthn.e (vthn.e (vinB.e (tn (sr (mO (tN (k+1*i)) rfl (aO (tN (k+1*i)) rfl (nt (rt ?_)))))))))
 refine vmut.r (r0:=((k+1*i:Nat):Int)) (rows:=((Y1 Zl 1 k a i).map (Qa true))) rfl rfl rfl ?_ ?_ rfl
 ·(push_cast;omega)
 ·show List.map _ (Y1 Zl 1 k a i)=List.map _ (JA Zl 1 k a.length)
  refine congrArg (List.map _) ?_
  exact Qiv hI' (by omega)
theorem Qd2 (n:Nat) (a:List Int) (k:Nat) (hh:a=JA Zl 1 k a.length) (hk:k+1*a.length≤Jn):Pure (Qq Tryz.prog (n+1)) 22 [(rd 1 Qa a),(tN k)] (tN (k+1*a.length)):=by
 refine Pure.intro (rs:= [ResultVar.tmp 4]) Tryz.func22 rfl rfl rfl (E0:= [(0,(rd 1 Qa a)),(1,(tN k))]) rfl ?_
 obtain ⟨hlim,hmx,hmax⟩:=QG
 refine sr (fO (OF.assign (VEv.int .i64 0)) (nt (sq (sr (fO (OF.assign (VEv.int .i64 0)) (nt (VRun.block ?_)))))))
 refine VRun.loop (A:=Nat) (fun s_=> [(0,(rd 1 Qa a)),(1,(tN (k+1*s_))),(5,(tN s_))]) (fun s_=>Q4 []) 0 (fun s_=>s_≤a.length) (fun s_=>a.length - s_) (0:Nat) ?_ (Wk.mk (fun k=>k) ?_ ?_ ?_) ?_
 ·(simp;done)
 ·exact (b2 (bc ⟨(congrArg (T.int .i64) (show ((k:Nat):Int)=((k+1*0:Nat):Int) from (by rfl))),rfl⟩ (b2 bn)))
 ·exact bn
 ·exact nd rfl
 rintro i (hI':i≤a.length)
 show VRun _ _ _ [(0,(rd 1 Qa a)),(1,(tN (k+1*i))),(5,(tN i))] (Q4 []) 0 _
 refine sq (sr (mO (tN i) rfl (mO (rd 1 Qa a) rfl (lO (B.lenR (m:=a.length) (tv (rd 1 Qa a) rfl) Zt (List.length_map ..)) (fO (Ze (tv (tN i) rfl) (tv (tN a.length) rfl)) (nt ?_))))))
 refine cd (i<a.length) rfl (fun fhc0=> ?_) fun fhc0=> ?_
 ·refine sk ?_
  refine tn (sq (VRun.block (sq (sr (mO (rd 1 Qa a) rfl (mO (tN i) rfl ?_))))))
  obtain ⟨x1,hx1⟩:∃x,a[i]? =some x:=⟨_,List.getElem?_eq_getElem (by omega)⟩
  refine fO (OF.indexAddrR (row:=(Qa false x1)) (i:=i) (tv (rd 1 Qa a) rfl) (tv (tN i) rfl) rfl (Qu _ hx1) Zt Za Yl) (lO (OL.loadR1 (t:=(tI x1)) (tv (T.rp [(tI x1)]) rfl) rfl QU) (mO (tN (k+1*i)) rfl (fO (xne (tv (tI x1) rfl) (tv (tN (k+1*i)) rfl)) (nt ?_))))
  refine cn (x1=((k+1*i:Nat):Int)) rfl (fun fhc1=> ?_) fun fhc1=> ?_
  ·exact absurd (Qmz hh hx1) fhc1
  refine sk (tn (VRun.region (mO (tN (k+1*i)) rfl (fO (QB (tv (tN (k+1*i)) rfl) (VEv.int .i64 1) (by omega)) (aO (tN (k+1*i+1)) rfl (VRunO.nil (vinB.n (tn (VRun.region (mO (tN i) rfl (fO (QB (tv (tN i) rfl) (VEv.int .i64 1) (by omega)) ?_)))))))))))
  refine aO (tN (i+1)) rfl (VRunO.nil (tn ?_))
  refine ⟨(i+1:Nat),?_,?_,Wk.mk (fun k=>k) ?_ ?_ ?_⟩
  ·trivial
  ·omega
  ·exact (b2 (bc ⟨(congrArg (T.int .i64) (show (((k+1*i+1):Nat):Int)=((k+1*(i+1):Nat):Int) from (by rfl))),rfl⟩ (b2 bn)))
  ·exact bn
  ·exact nd rfl
 refine VRun.exit (vthn.e (vthn.e (vinB.e (tn (sr (mO (tN (k+1*i)) rfl (aO (tN (k+1*i)) rfl (nt (rt (vi (n':=((k+1*i:Nat):Int)) rfl ?_))))))))))
 omega
end Go.Proofs.YtcccmceoplcciaaGreat.AE
namespace Go.Proofs.YtcccmceoplcciaaGreat.AE
open Go Go.RowKit
set_option linter.unusedVariables false
set_option linter.unusedSimpArgs false
set_option maxRecDepth 20000
set_option maxHeartbeats 2000000
noncomputable section
def QM (c:D.Clue):Nat:=1+4*c.Play.length
def ZW (k:Nat) (c:D.Clue):D.Clue:=D.Clue.mk ((k:Nat):Int) (JA Zp 4 (k+1) c.Play.length)
theorem Qlq (k:Nat) (c:D.Clue):QM (ZW k c)=QM c:=by unfold QM ZW;simp only [YU]
theorem QlD (c:D.Clue):QM c≤5*(1+QP c):=by
 have:=QV (z:=ZB) c.Play
 unfold QM QP
 omega
def Je : Nat→List D.Clue→List D.Clue:=mkL ZW QM
def QK : Nat→List D.Clue→Nat:=Jj QM
theorem Zs (k k2:Nat) (l:List D.Clue):QK k (Je k2 l)=QK k l:=Qg6 Qlq k k2 l
theorem QhY (k:Nat) (l:List D.Clue):QK k l≤k+5*zL QP l:=Qke QlD k l
theorem QdE (k:Nat) (l:List D.Clue):(Je k l).length=l.length:=QaU k l
end
theorem Qc4 (n:Nat) (a:List D.Clue) (k:Nat) (hk:QK k a≤Jn):LoanM (Qq Tryz.prog (n+3)) 76 [(2,(a.map (Qh true)))] [(T.os 2 0 0 ((a.map (Qh true)).length)),(tN k)] (tN (QK k a)) [(2,((Je k a).map (Qh true)))]:=by
 refine LoanM.intro (rs:= [ResultVar.tmp 4]) [(0,(T.os 2 0 0 ((a.map (Qh true)).length)))] Tryz.func76 rfl rfl rfl rfl (bc ⟨by kernel_rfl,rfl⟩ bn) (PinsTo.at (And.intro trivial ⟨_,(.head _),(.os _ _)⟩)) (.int _ _) (bc (okeClue.cleanMap _) bn) (E0:= [(0,(T.os 2 0 0 ((a.map (Qh true)).length))),(1,(tN k))]) rfl (fun asg=> ?_)
 obtain ⟨hlim,hmx,hmax⟩:=QG
 show VRun _ _ _ [(0,(T.os 2 0 0 ((a.map (Qh true)).length))),(1,(tN k))] (Q4 [(0,(Obj.rowsN 2 (a.map (Qh true)) (asg 0)))]) 1 _
 have hk2:=hk
 unfold QK at hk2
 have hla:=QiF (w:=QM) (fun x=>Nat.le_add_right _ _) k a
 refine sr (fO (OF.assign (VEv.int .i64 0)) (nt (sq (sr (fO (OF.assign (VEv.int .i64 0)) (nt (VRun.block ?_)))))))
 have he1:a=mkT ZW QM k a 0:=by rfl
 refine VRun.loop (A:=Nat) (fun s_=> [(0,(T.os 2 0 0 (((mkT ZW QM k a s_).map (Qh true)).length))),(1,(tN (Jj QM k (a.take s_)))),(4,(tN 0)),(5,(tN s_))]) (fun s_=>Q4 [(0,(Obj.rowsN 2 ((mkT ZW QM k a s_).map (Qh true)) (asg 0)))]) 1 (fun s_=>s_≤a.length) (fun s_=>a.length - s_) (0:Nat) ?_ (Wk.mk (fun k=>k) ?_ ?_ ?_) ?_
 ·(simp;done)
 ·exact (bc ⟨(congrArg (fun l_=>T.os 2 0 0 (List.map (Qh true) l_).length) he1),rfl⟩ (bc ⟨(congrArg (T.int .i64) (show ((k:Nat):Int)=((Jj QM k (a.take 0):Nat):Int) from (by rfl))),rfl⟩ (b2 (b2 bn))))
 ·exact (bc ⟨(congrArg (fun l_=>some (Obj.rowsN 2 (List.map (Qh true) l_) (asg 0))) he1),(lb rfl),rfl⟩ bn)
 ·exact nd rfl
 rintro i (hI':i≤a.length)
 show VRun _ _ _ [(0,(T.os 2 0 0 (((mkT ZW QM k a i).map (Qh true)).length))),(1,(tN (Jj QM k (a.take i)))),(4,(tN 0)),(5,(tN i))] (Q4 [(0,(Obj.rowsN 2 ((mkT ZW QM k a i).map (Qh true)) (asg 0)))]) 1 _
 have hml:=Qec (f:=ZW) (w:=QM) k a i
 have hme:=Qhk (w:=QM) k a i
 refine sq (sr (mO (tN i) rfl (mO (T.os 2 0 0 (((mkT ZW QM k a i).map (Qh true)).length)) rfl (lO (B.lenO (m:=(mkT ZW QM k a i).length) (tv (T.os 2 0 0 (((mkT ZW QM k a i).map (Qh true)).length)) rfl) U35 (List.length_map ..)) (fO (Ze (tv (tN i) rfl) (tv (tN ((mkT ZW QM k a i).length)) rfl)) (nt ?_))))))
 refine cd (i<(mkT ZW QM k a i).length) rfl (fun fhc0=> ?_) fun fhc0=> ?_
 ·refine sk ?_
  refine tn (sq (VRun.block (sr (mO (T.os 2 0 0 (((mkT ZW QM k a i).map (Qh true)).length)) rfl (mO (tN i) rfl (mO (tN (Jj QM k (a.take i))) rfl ?_))))))
  obtain ⟨x1,hx1⟩:∃x,(mkT ZW QM k a i)[i]? =some x:=⟨_,List.getElem?_eq_getElem (by omega)⟩
  (have hy1:=Ql8 (show i<a.length by omega) hx1;have hnx:=QkG (w:=QM) (k:=k) hy1;have hnt:=Qhk (w:=QM) k a (i+1);have hw2:QM x1=1+4*x1.Play.length:=rfl)
  refine fO (B.indexAddrO (i:=i) (tv (T.os 2 0 0 (((mkT ZW QM k a i).map (Qh true)).length)) rfl) (tv (tN i) rfl) rfl (by (simp only [List.length_map];omega)) U35 Qa1 Qgc) (fO (OF.fieldAddrP (tv (T.orp 2 0 i 0) rfl) Qdj) (cO (B.storeN (t0:=(tI x1.Sense)) (rows':=(((mkT ZW QM k a i).set i (D.Clue.mk ((Jj QM k (a.take i):Nat):Int) x1.Play)).map (Qh true))) (row:=(Qh true x1)) (tv (T.orp 2 0 i 0) rfl) (tv (tN (Jj QM k (a.take i))) rfl) rfl rfl (Qu _ hx1) rfl rfl Yl Za (Zw rfl)) (nt (sr (mO (tN (Jj QM k (a.take i))) rfl (fO (QB (tv (tN (Jj QM k (a.take i))) rfl) (VEv.int .i64 1) (by omega)) (aO (tN (Jj QM k (a.take i)+1)) rfl (nt (VRun.region (mO (T.os 2 0 0 (((mkT ZW QM k a i).map (Qh true)).length)) rfl (mO (tN i) rfl ?_)))))))))))
  refine fO (B.indexAddrO (i:=i) (tv (T.os 2 0 0 (((mkT ZW QM k a i).map (Qh true)).length)) rfl) (tv (tN i) rfl) rfl (by (simp only [List.length_map];omega)) U35 Qa1 Qgc) (fO (OF.fieldAddrP (tv (T.orp 2 0 i 0) rfl) Qdd) (VRunO.nest (row:=(Qh true (D.Clue.mk ((Jj QM k (a.take i):Nat):Int) x1.Play))) (rs:=(x1.Play.map (Qj true))) (rs':=((JA Zp 4 (Jj QM k (a.take i)+1) x1.Play.length).map (Qj true))) (rows':=((((mkT ZW QM k a i).set i (D.Clue.mk ((Jj QM k (a.take i):Nat):Int) x1.Play)).set i (D.Clue.mk ((Jj QM k (a.take i):Nat):Int) (JA Zp 4 (Jj QM k (a.take i)+1) x1.Play.length))).map (Qh true))) (n:=(((Jj QM k (a.take i)+1):Nat):Int)) (r:=(((Jj QM k (a.take i)+1)+4*x1.Play.length:Nat):Int)) rfl (tv (T.orp 2 0 i 1) rfl) rfl (Qu _ (Qf9 (by omega))) rfl QkS (tv (tN (Jj QM k (a.take i)+1)) rfl) rfl (Qc5 (n+0) x1.Play (Jj QM k (a.take i)+1) (by omega)) (okeStep.cleanMap _) (Zw rfl) (aO (tN ((Jj QM k (a.take i)+1)+4*x1.Play.length)) rfl (VRunO.nil (vinB.n (tn (VRun.region (mO (tN i) rfl (fO (QB (tv (tN i) rfl) (VEv.int .i64 1) (by omega)) (aO (tN (i+1)) rfl (VRunO.nil ?_)))))))))))
  refine tn ?_
  have he2:(((mkT ZW QM k a i).set i (D.Clue.mk ((Jj QM k (a.take i):Nat):Int) x1.Play)).set i (D.Clue.mk ((Jj QM k (a.take i):Nat):Int) (JA Zp 4 (Jj QM k (a.take i)+1) x1.Play.length)))=mkT ZW QM k a (i+1):=by (rw [List.set_set];exact Qla hy1 rfl)
  refine ⟨(i+1:Nat),?_,?_,Wk.mk (fun k=>k) ?_ ?_ ?_⟩
  ·omega
  ·omega
  ·exact (bc ⟨(congrArg (fun n_=>T.os 2 0 0 n_) (show ((mkT ZW QM k a i).map (Qh true)).length=((mkT ZW QM k a (i+1)).map (Qh true)).length from (by rw [List.length_map,List.length_map,Qec,Qec]))),rfl⟩ (bc ⟨(congrArg (T.int .i64) (show (((Jj QM k (a.take i)+1)+4*x1.Play.length:Nat):Int)=((Jj QM k (a.take (i+1)):Nat):Int) from (by omega))),rfl⟩ (b2 (b2 bn))))
  ·exact (bc ⟨(congrArg (fun l_=>some (Obj.rowsN 2 (List.map (Qh true) l_) (asg 0))) he2),(lb rfl),rfl⟩ bn)
  ·exact nd rfl
 refine VRun.exit (vthn.e (vthn.e (vinB.e (tn (sr (mO (tN (Jj QM k (a.take i))) rfl (aO (tN (Jj QM k (a.take i))) rfl (nt (rt ?_)))))))))
 have hnew0:mkT ZW QM k a i=Je k a:=by
  exact QjK (by omega)
 exact vloanM.r (L1:= [(2,((mkT ZW QM k a i).map (Qh true)))]) (fun k=>k) (VRes.tmp (t:=(tN (Jj QM k (a.take i)))) rfl VRes.nil) (congrArg (T.int .i64) (show ((Jj QM k (a.take i):Nat):Int)=((QK k a:Nat):Int) by rw [List.take_of_length_le (by omega)];rfl)) (bc (congrArg (fun n_=>T.os 2 0 0 n_) (show ((mkT ZW QM k a i).map (Qh true)).length=(a.map (Qh true)).length from (by rw [List.length_map,List.length_map,Qec]))) bn) (And.intro rfl (trivial)) (by rw [hnew0])
end Go.Proofs.YtcccmceoplcciaaGreat.AE
namespace Go.Proofs.YtcccmceoplcciaaGreat.AE
open Go Go.RowKit
set_option linter.unusedVariables false
set_option linter.unusedSimpArgs false
set_option maxRecDepth 20000
set_option maxHeartbeats 2000000
noncomputable section
theorem Qga {ok:Nat→Prop} [DecidablePred ok]:∀(f n k:Nat),n≤k→k<Qaq ok f n→ok k
 | 0,n,k,h1,h2=>by simp only [Qaq] at h2;omega
 | f+1,n,k,h1,h2=>by
  simp only [Qaq] at h2
  split at h2
  ·by_cases e:k=n
   ·subst e;assumption
   ·exact Qga f (n+1) k (by omega) h2
  ·omega
theorem QjD {g:D.Grid} {cell k:Nat} {down:Bool} (hg:gridOk g) (hc:cell<g.Cells.size) (hk:k<Qo g cell down):0≤((cell:Nat):Int)+((k:Nat):Int)*(if down=true then g.Cols else 1)∧((cell:Nat):Int)+((k:Nat):Int)*(if down=true then g.Cols else 1)<((g.Cells.size:Nat):Int):=by
 have hB:=hg.2.1
 obtain ⟨_,_,_,h4,h5⟩:=QbC hg hc
 unfold Qo at hk
 cases down with
 | true =>
  rw [if_pos rfl] at hk
  unfold QfD at hk
  split at hk
  ·have h1:=Qga _ _ k (Nat.zero_le _) hk
   have h2:=h5 k h1.1
   have h3:0≤((k:Nat):Int)*g.Cols:=Int.mul_nonneg (by omega) (by omega)
   rw [if_pos rfl]
   omega
  ·omega
 | false =>
  rw [if_neg (by simp)] at hk
  unfold Qfw at hk
  split at hk
  ·have h1:=Qga _ _ k (Nat.zero_le _) hk
   have h2:=h4 k h1.1
   rw [if_neg (by simp),Int.mul_one]
   omega
  ·omega
theorem QdJ (g:D.Grid):∀i,∀s∈(Qd g i).1,∃c:Nat,c<i∧s.Cell=((c:Nat):Int)∧s.Length=((Qo g c s.Down:Nat):Int)
 | 0,s,hs=>by simp [Qd] at hs
 | i+1,s,hs=>by
  rw [Yv,List.mem_append,List.mem_append] at hs
  rcases hs with (hs | hs) | hs
  ·obtain ⟨c,h1,h2⟩:=QdJ g i s hs
   exact ⟨c,by omega,h2⟩
  ·split at hs
   ·obtain rfl:=List.mem_singleton.1 hs
    exact ⟨i,by omega,rfl,rfl⟩
   ·cases hs
  ·split at hs
   ·obtain rfl:=List.mem_singleton.1 hs
    exact ⟨i,by omega,rfl,rfl⟩
   ·cases hs
theorem QfQ {g:D.Grid} {s:D.Slot} {c:Int} (hs:s∈Qb g) (hc:c∈Qi g s s.Length.toNat):0≤c∧c<((g.Cells.size:Nat):Int):=by
 have hg:=(QaA hs).1
 unfold Qb at hs
 rw [if_pos hg] at hs
 obtain ⟨c0,h1,h2,h3⟩:=QdJ g _ s hs
 unfold Qi at hc
 obtain ⟨k,hk,rfl⟩:=List.mem_map.1 hc
 rw [List.mem_range] at hk
 have:=QjD (down:=s.Down) hg h1 (k:=k) (by omega)
 rw [h2]
 unfold QeF
 exact this
def YR (f:ByteArray) (l:List Int):List Int:=l.map fun c=>Qs f (Int.toNat c)
theorem Qi7 {f:ByteArray} {l:List Int} {i:Nat} {c:Int} (h:l[i]? =some c):YR f (l.take i)++ [Qs f (Int.toNat c)]=YR f (l.take (i+1)):=by
 unfold YR
 rw [List.take_add_one,h,Option.toList_some,List.map_append];rfl
theorem Qku (f:ByteArray) (l:List Int):(YR f l).length=l.length:=by simp [YR]
def Jq (f:ByteArray) (l:List Int):ByteArray:=ZP (YR f l)
theorem Qkk {f:ByteArray} {l:List Int} {i:Nat} {c:Int} (h:l[i]? =some c) (h1:0≤c∧c<((f.size:Nat):Int)):Jq f (l.take (i+1))=Jq f (l.take i)++f.extract (Int.toNat c) (Int.toNat (c+1)):=by
 have hc:Int.toNat c<f.data.toList.length:=by rw [Array.length_toList];show Int.toNat c<f.size;omega
 refine Qbt ?_
 unfold Jq YR
 rw [List.take_add_one,h,Option.toList_some,List.map_append,ZR,ByteArray.data_append,Array.toList_append,ZR,List.map_append]
 congr 1
 rw [ByteArray.data_extract,Array.toList_extract,List.extract_eq_take_drop,show Int.toNat (c+1) - Int.toNat c=1 by omega,List.drop_eq_getElem_cons hc]
 have hb:Qs f (Int.toNat c)=((f.data.toList[Int.toNat c]).toNat:Int):=by
  rw [← YJ (show Int.toNat c<f.size by omega)];rfl
 simp [hb]
theorem QkX (f:ByteArray) (l:List Int):(Jq f l).size=l.length:=by
 show (Jq f l).data.size=_
 rw [← Array.length_toList]
 unfold Jq YR
 rw [ZR]
 simp
def YE (g:D.Grid) (f:ByteArray) (slot:Int):ByteArray:=if 0≤slot then (match (Qb g)[slot.toNat]? with | some s=>if QR g f then Jq f (Qi g s s.Length.toNat) else ⟨#[]⟩ | none=>⟨#[]⟩) else ⟨#[]⟩
theorem Qb0 {g:D.Grid} {f:ByteArray} {slot:Int} (h:¬QR g f∨¬(0≤slot∧slot≤(((Qb g).length:Nat):Int) - 1)):YE g f slot=⟨#[]⟩:=by
 unfold YE
 by_cases h0:0≤slot
 ·rw [if_pos h0]
  cases hs:(Qb g)[slot.toNat]? with
  | none=>rfl
  | some s =>
   have:=(List.getElem?_eq_some_iff.1 hs).1
   simp only
   rw [if_neg]
   rcases h with h | h
   ·exact h
   ·exact absurd ⟨h0,by omega⟩ h
 ·rw [if_neg h0]
theorem Qeo {g:D.Grid} {f:ByteArray} {slot:Int} {s:D.Slot} (h0:0≤slot) (hs:(Qb g)[slot.toNat]? =some s) (hf:QR g f):YE g f slot=Jq f (Qi g s s.Length.toNat):=by
 unfold YE
 rw [if_pos h0,hs]
 exact if_pos hf
def Ya (g:D.Grid) (f:ByteArray):List ByteArray:=if QR g f then (QD g).map (Jq f) else []
theorem QkU {g:D.Grid} {f:ByteArray} {i:Nat} {x:ByteArray} (h:(Ya g f)[i]? =some x):x=YE g f ((i:Nat):Int):=by
 unfold Ya at h
 split at h
 ·rename_i hf
  rw [List.getElem?_map] at h
  obtain ⟨y,h1,rfl⟩:=Option.map_eq_some_iff.1 h
  obtain ⟨s,h2,rfl⟩:=QeR h1
  exact (Qeo (by omega) h2 hf).symm
 ·simp at h
theorem QfP {g:D.Grid} {f:ByteArray} (h:QR g f):(Ya g f).length=(Qb g).length:=by
 unfold Ya
 rw [if_pos h,List.length_map,QaB]
theorem QlY {g:D.Grid} {s:D.Slot} {f:ByteArray} {i:Nat} {c:Int} (hf:QR g f) (h:(if s∈Qb g then Qi g s s.Length.toNat else [])[i]? =some c):0≤c∧c<((f.size:Nat):Int):=by
 have hm:=List.mem_of_getElem? h
 split at hm
 ·rename_i hs
  have:=QfQ hs hm
  have:=hf.2.1
  omega
 ·cases hm
end
theorem QhU (n:Nat) (g:D.Grid) (f:ByteArray) (slot:Int) (hc:g.Cells.size≤maxLen) (hf:f.size≤maxLen):Pure (Qq Tryz.prog (n+5)) 92 [(T.agg (Qc false g)),(tS f),(tI slot)] (tS (YE g f slot)):=by
 refine Pure.intro (rs:= [ResultVar.tmp 6]) Tryz.func92 rfl rfl rfl (E0:= [(0,(T.agg (Qc false g))),(1,(tS f)),(2,(tI slot))]) rfl ?_
 obtain ⟨hlim,hmx,hmax⟩:=QG
 have hsl:=Zn g
 refine sr (kO (B.box (ts:=(Qc false g)) (tv (T.agg (Qc false g)) rfl) nofun rfl) (fO (OF.assign (VEv.str (⟨#[]⟩:ByteArray))) (nt (sr (lO (OL.loadOn (us:=(Qc false g)) (tv (T.op 0 0) rfl) rfl Q1 QT (lb rfl) rfl) (cO (OC.callF (us:= [(T.agg (Qc false g))]) (r:=(T.sl true 4 ((Qb g).map (Qg true)))) (r':=(T.os 4 1 0 (((Qb g).map (Qg true)).length))) (objs:= [(Obj.rows 4 ((Qb g).map (Qg true)))]) rfl (vc (tv (T.agg (Qc false g)) rfl) vn) (LendL.cons (lg Qt) ln) (ZJ (n+1) g (by assumption)) rfl) (aO (T.os 4 1 0 (((Qb g).map (Qg true)).length)) rfl (nt (sq (sr (lO (OL.loadOn (us:=(Qc false g)) (tv (T.op 0 0) rfl) rfl Q1 QT (lb rfl) rfl) ?_)))))))))))
 refine mO (tS f) rfl (cO (cS (vc (tv (T.agg (Qc false g)) rfl) (vc (tv (tS f) rfl) vn)) (LendL.cons (lg Qt) (lp rfl ln)) (QbS (n+1) g f (by assumption) (by assumption)) rfl rfl) (fO (QS (tv (tB (decide (QR g f))) rfl)) (mO (tB (!(decide (QR g f)))) rfl ?_)))
 refine VRunO.joinB 7 [18,19,20,21,22,23] 24 (tB (decide ((¬(QR g f))∨(¬(0≤slot∧slot≤((((Qb g).length:Nat):Int) - 1)))))) ?_ ?_
 ·refine gn (QR g f) (fun fhg17_1=> ?_) fun fhg17_1=> ?_
  ·refine Qy 6 4 false 17 (ny fhg17_1) rfl rfl rfl ?_
   refine fO (OF.pickT (VEv.tmpB rfl (ny fhg17_1)) (VEv.bool true)) (VRunO.nil ?_)
   exact jq (congrArg T.bool (kOT fhg17_1)) (js rfl (js rfl (js rfl (js rfl (js rfl (js rfl (jn)))))))
  ·refine gF (nz fhg17_1) rfl rfl (OF.move (tv (tI slot) rfl)) ?_
   refine gF (nz fhg17_1) rfl rfl (OF.move (tv (T.os 4 1 0 (((Qb g).map (Qg true)).length)) rfl)) (gL (nz fhg17_1) rfl rfl (B.lenO (m:=(Qb g).length) (tv (T.os 4 1 0 (((Qb g).map (Qg true)).length)) rfl) Z7 (List.length_map ..)) (gF (nz fhg17_1) rfl rfl (B.sub (n:=((((Qb g).length:Nat):Int) - 1)) (tv (tN ((Qb g).length)) rfl) (VEv.int .i64 1) (by (rw [Qv (by omega)];done))) (VRunO.chain (VWant.on rfl rfl (nz fhg17_1)) (cS (vc (tv (tI slot) rfl) (vc (VEv.int .i64 0) (vc (tv (tI ((((Qb g).length:Nat):Int) - 1)) rfl) vn))) (ZO rfl) (QN (n+3) slot 0 ((((Qb g).length:Nat):Int) - 1)) rfl rfl) (gF (nz fhg17_1) rfl rfl (QS (tv (tB (decide (0≤slot∧slot≤((((Qb g).length:Nat):Int) - 1)))) rfl)) (fO (OF.pickF (VEv.tmpB rfl (nz fhg17_1)) (tv (tB (!(decide (0≤slot∧slot≤((((Qb g).length:Nat):Int) - 1))))) rfl)) (VRunO.nil ?_))))))
   exact jq (congrArg T.bool (kOF (not_not_intro fhg17_1) dN)) (js rfl (js rfl (js rfl (js rfl (js rfl (js rfl (jn)))))))
 refine nt ?_
 refine cd ((¬(QR g f))∨(¬(0≤slot∧slot≤((((Qb g).length:Nat):Int) - 1)))) rfl (fun fhc0=> ?_) fun fhc0=> ?_
 ·refine sr ?_
  refine fO (OF.assign (VEv.str (⟨#[]⟩:ByteArray))) (nt (rt (tr ?_)))
  refine vfin.eq (r':=(tS (⟨#[]⟩:ByteArray))) ?_ (vfin.r (VRes.tmp (t:=(tS (⟨#[]⟩:ByteArray))) rfl VRes.nil) (Give.str _))
  show (tS (⟨#[]⟩:ByteArray))=(tS (YE g f slot))
  refine congrArg T.str ?_
  exact (Qb0 fhc0).symm
 have hs0:0≤slot∧slot≤(((Qb g).length:Nat):Int) - 1:=Classical.byContradiction fun h=>fhc0 (.inr h)
 have hfi:QR g f:=Classical.byContradiction fun h=>fhc0 (.inl h)
 have hsz:=hfi.1.size
 refine sk (tn (sr (fO (OF.assign (VEv.str (⟨#[]⟩:ByteArray))) (nt (sq (VRun.draw (B:= [[],[],[],[2,1],[1,2,3],[3,2,1,4,0],[0,4,1,2,3,5]]) (by kernel_rfl) (by kernel_rfl) (lD (OL.loadOn (us:=(Qc false g)) (tv (T.op 0 0) rfl) rfl Q1 QT (lb rfl) rfl) rfl rfl (mD (T.os 4 1 0 (((Qb g).map (Qg true)).length)) rfl rfl (mD (tI slot) rfl rfl ?_)))))))))
 obtain ⟨x1,hx1⟩:∃x,(Qb g)[(Int.toNat slot)]? =some x:=⟨_,List.getElem?_eq_getElem (by omega)⟩
 skip
 refine fD (B.indexAddrO (i:=(Int.toNat slot)) (tv (T.os 4 1 0 (((Qb g).map (Qg true)).length)) rfl) (tv (tI slot) rfl) (by omega) (by (simp only [List.length_map];omega)) Z7 Zb QaX) rfl rfl (lD (OL.loadPn (us:=(Qg false x1)) (row:=(Qg true x1)) (tv (T.orp 4 1 (Int.toNat slot) 0) rfl) rfl (Qu _ hx1) QcD Zb (lb rfl) rfl (bc rfl (bc rfl (bc rfl (bc rfl bn))))) rfl rfl (VRunD.quiet (bi:= [3,2,1,4,0]) rfl VWant.always rfl rfl rfl bn (OC.callF (us:= [(T.agg (Qc false g)),(T.agg (Qg false x1))]) (r:=(T.sl true 1 ((if x1∈Qb g then Qi g x1 x1.Length.toNat else []).map (Qa true)))) (r':=(T.os 1 2 0 (((if x1∈Qb g then Qi g x1 x1.Length.toNat else []).map (Qa true)).length))) (objs:= [(Obj.rows 1 ((if x1∈Qb g then Qi g x1 x1.Length.toNat else []).map (Qa true)))]) rfl (vc (tv (T.agg (Qc false g)) rfl) (vc (tv (T.agg (Qg false x1)) rfl) vn)) (LendL.cons (lg Qt) (LendL.cons (lg okeSlot) ln)) (JB (n+0) g x1 (by assumption)) rfl) (fD (OF.assign (tv (T.os 1 2 0 (((if x1∈Qb g then Qi g x1 x1.Length.toNat else []).map (Qa true)).length)) rfl)) rfl rfl (VRunD.nil (tn (sq (sr (fO (OF.assign (VEv.int .i64 0)) (nt (VRun.block ?_))))))))))
 refine VRun.loop (A:=Nat) (fun s_=> [(1,(tS f)),(6,(tS (⟨#[]⟩:ByteArray))),(8,(tS (Jq f ((if x1∈Qb g then Qi g x1 x1.Length.toNat else []).take s_)))),(9,(T.os 1 0 0 (((if x1∈Qb g then Qi g x1 x1.Length.toNat else []).map (Qa true)).length))),(10,(tN s_))]) (fun s_=>Q4 [(0,(Obj.rows 1 ((if x1∈Qb g then Qi g x1 x1.Length.toNat else []).map (Qa true))))]) 1 (fun s_=>s_≤(if x1∈Qb g then Qi g x1 x1.Length.toNat else []).length) (fun s_=>(if x1∈Qb g then Qi g x1 x1.Length.toNat else []).length - s_) (0:Nat) ?_ (Wk.mk (fun k=>if k=0 then 2 else k) ?_ ?_ ?_) ?_
 ·(simp;done)
 ·exact (b2 (b2 (bc ⟨(congrArg T.str (show (⟨#[]⟩:ByteArray)=Jq f ((if x1∈Qb g then Qi g x1 x1.Length.toNat else []).take 0) from (by rfl))),rfl⟩ (b2 (b2 bn)))))
 ·exact (b3 bn)
 ·exact nd rfl
 rintro i (hI':i≤(if x1∈Qb g then Qi g x1 x1.Length.toNat else []).length)
 show VRun _ _ _ [(1,(tS f)),(6,(tS (⟨#[]⟩:ByteArray))),(8,(tS (Jq f ((if x1∈Qb g then Qi g x1 x1.Length.toNat else []).take i)))),(9,(T.os 1 0 0 (((if x1∈Qb g then Qi g x1 x1.Length.toNat else []).map (Qa true)).length))),(10,(tN i))] (Q4 [(0,(Obj.rows 1 ((if x1∈Qb g then Qi g x1 x1.Length.toNat else []).map (Qa true))))]) 1 _
 have hI1:=hI'
 have hl6:=Qgx g x1
 have hps:=QkX f ((if x1∈Qb g then Qi g x1 x1.Length.toNat else []).take i)
 have htl:=Jh (if x1∈Qb g then Qi g x1 x1.Length.toNat else []) i
 refine sq (sr (mO (tN i) rfl (mO (T.os 1 0 0 (((if x1∈Qb g then Qi g x1 x1.Length.toNat else []).map (Qa true)).length)) rfl (lO (B.lenO (m:=(if x1∈Qb g then Qi g x1 x1.Length.toNat else []).length) (tv (T.os 1 0 0 (((if x1∈Qb g then Qi g x1 x1.Length.toNat else []).map (Qa true)).length)) rfl) Zt (List.length_map ..)) (fO (Ze (tv (tN i) rfl) (tv (tN ((if x1∈Qb g then Qi g x1 x1.Length.toNat else []).length)) rfl)) (nt ?_))))))
 refine cd (i<(if x1∈Qb g then Qi g x1 x1.Length.toNat else []).length) rfl (fun fhc1=> ?_) fun fhc1=> ?_
 ·refine sk ?_
  refine tn (sq (VRun.block (VRun.draw (B:= [[],[],[],[],[3,2],[2,3,4],[],[],[7,6],[6,7,8],[8,7,6,9],[9,6,7,8,10,4,3,2,5,1],[1,5,2,3,4,10,8,7,6,9,11,0],[0,11,9,6,7,8,10,4,3,2,5,1,12]]) (by kernel_rfl) (by kernel_rfl) (mD (tS (Jq f ((if x1∈Qb g then Qi g x1 x1.Length.toNat else []).take i))) rfl rfl (mD (tS f) rfl rfl (mD (T.os 1 0 0 (((if x1∈Qb g then Qi g x1 x1.Length.toNat else []).map (Qa true)).length)) rfl rfl (mD (tN i) rfl rfl ?_)))))))
  obtain ⟨x2,hx2⟩:∃x,(if x1∈Qb g then Qi g x1 x1.Length.toNat else [])[i]? =some x:=⟨_,List.getElem?_eq_getElem (by omega)⟩
  have hcb:=QlY hfi hx2
  refine fD (B.indexAddrO (i:=i) (tv (T.os 1 0 0 (((if x1∈Qb g then Qi g x1 x1.Length.toNat else []).map (Qa true)).length)) rfl) (tv (tN i) rfl) rfl (by (simp only [List.length_map];omega)) Zt Za Yl) rfl rfl (lD (OL.loadP1 (t:=(tI x2)) (row:=(Qa true x2)) (tv (T.orp 1 0 i 0) rfl) rfl (Qu _ hx2) rfl rfl QU) rfl rfl (mD (T.os 1 0 0 (((if x1∈Qb g then Qi g x1 x1.Length.toNat else []).map (Qa true)).length)) rfl rfl (mD (tN i) rfl rfl (fD (B.indexAddrO (i:=i) (tv (T.os 1 0 0 (((if x1∈Qb g then Qi g x1 x1.Length.toNat else []).map (Qa true)).length)) rfl) (tv (tN i) rfl) rfl (by (simp only [List.length_map];omega)) Zt Za Yl) rfl rfl (lD (OL.loadP1 (t:=(tI x2)) (row:=(Qa true x2)) (tv (T.orp 1 0 i 0) rfl) rfl (Qu _ hx2) rfl rfl QU) rfl rfl (fD (B.add (n:=(x2+1)) (tv (tI x2) rfl) (VEv.int .i64 1) (by (rw [Qv (by omega)];done))) rfl rfl (lD (OL.sliceS (i:=(Int.toNat x2)) (j:=(Int.toNat (x2+1))) (tv (tS f) rfl) (tv (tI x2) rfl) (tv (tI (x2+1)) rfl) (by omega) (by omega) (by omega) (by omega) U9) rfl rfl (fD (B.sadd (tv (tS (Jq f ((if x1∈Qb g then Qi g x1 x1.Length.toNat else []).take i))) rfl) (tv (tS (f.extract (Int.toNat x2) (Int.toNat (x2+1)))) rfl) (by (simp only [ByteArray.size_extract];omega))) rfl rfl (fD (OF.assign (tv (tS (Jq f ((if x1∈Qb g then Qi g x1 x1.Length.toNat else []).take i)++(f.extract (Int.toNat x2) (Int.toNat (x2+1))))) rfl)) rfl rfl (VRunD.nil (vinB.n ?_)))))))))))
  refine tn (VRun.region (mO (tN i) rfl (fO (QB (tv (tN i) rfl) (VEv.int .i64 1) (by omega)) (aO (tN (i+1)) rfl (VRunO.nil (tn ?_))))))
  refine ⟨(i+1:Nat),?_,?_,Wk.mk (fun k=>k) ?_ ?_ ?_⟩
  ·trivial
  ·omega
  ·exact (b2 (b2 (bc ⟨(congrArg T.str (show (Jq f ((if x1∈Qb g then Qi g x1 x1.Length.toNat else []).take i)++(f.extract (Int.toNat x2) (Int.toNat (x2+1))))=Jq f ((if x1∈Qb g then Qi g x1 x1.Length.toNat else []).take (i+1)) from (by exact (Qkk hx2 hcb).symm))),rfl⟩ (b2 (b2 bn)))))
  ·exact (b3 bn)
  ·exact nd rfl
 refine VRun.exit (vthn.e (vthn.e (vinB.e (tn (sr (mO (tS (Jq f ((if x1∈Qb g then Qi g x1 x1.Length.toNat else []).take i))) rfl (aO (tS (Jq f ((if x1∈Qb g then Qi g x1 x1.Length.toNat else []).take i))) rfl (nt (rt ?_)))))))))
 refine vfin.eq (r':=(tS (Jq f ((if x1∈Qb g then Qi g x1 x1.Length.toNat else []).take i)))) ?_ (vfin.r (VRes.tmp (t:=(tS (Jq f ((if x1∈Qb g then Qi g x1 x1.Length.toNat else []).take i)))) rfl VRes.nil) (Give.str _))
 show (tS (Jq f ((if x1∈Qb g then Qi g x1 x1.Length.toNat else []).take i)))=(tS (YE g f slot))
 refine congrArg T.str ?_
 rw [Qeo hs0.1 hx1 hfi,Qbh hI1 fhc1,QgF hx1]
theorem QcS (n:Nat) (f:ByteArray) (l:List Int) (hl:l.length≤64) (hb:∀c∈l,0≤c∧c<((f.size:Nat):Int)):Pure (Qq Tryz.prog (n+1)) 149 [(tS f),(rd 1 Qa l)] (tS (Jq f l)):=by
 refine Pure.intro (rs:= [ResultVar.tmp 4]) Tryz.func149 rfl rfl rfl (E0:= [(0,(tS f)),(1,(rd 1 Qa l))]) rfl ?_
 obtain ⟨hlim,hmx,hmax⟩:=QG
 refine sr (fO (OF.assign (VEv.str (⟨#[]⟩:ByteArray))) (nt (sr (fO (OF.assign VEv.nils) (nt (sq (sr (mO (rd 1 Qa l) rfl (lO (B.lenR (m:=l.length) (tv (rd 1 Qa l) rfl) Zt (List.length_map ..)) (fO (OF.move (VEv.int .i64 0)) (nt ?_)))))))))))
 refine VRun.block (VRun.wk (Wk.phantom 5 1 rfl) ?_)
 have he1: []=((YR f (l.take 0)).map (QF true)):=by rfl
 refine VRun.loop (A:=Nat) (fun s_=> [(0,(tS f)),(4,(tS (⟨#[]⟩:ByteArray))),(5,(T.os 1 0 0 (((YR f (l.take s_)).map (QF true)).length))),(8,(rd 1 Qa l)),(9,(tN l.length)),(10,(tN s_))]) (fun s_=>Q4 [(0,(Obj.rows 1 ((YR f (l.take s_)).map (QF true))))]) 1 (fun s_=>s_≤l.length) (fun s_=>l.length - s_) (0:Nat) ?_ (Wk.mk (fun k=>k) ?_ ?_ ?_) ?_
 ·(simp;done)
 ·exact (b2 (b2 (bc ⟨(congrArg (fun n_=>T.os 1 0 0 n_) (show 0=((YR f (l.take 0)).map (QF true)).length from (by rfl))),rfl⟩ (b2 (b2 (b2 bn))))))
 ·exact (bc ⟨(congrArg (fun l_=>some (Obj.rows 1 l_)) he1),(lb rfl),rfl⟩ bn)
 ·exact nd rfl
 rintro i (hI':i≤l.length)
 show VRun _ _ _ [(0,(tS f)),(4,(tS (⟨#[]⟩:ByteArray))),(5,(T.os 1 0 0 (((YR f (l.take i)).map (QF true)).length))),(8,(rd 1 Qa l)),(9,(tN l.length)),(10,(tN i))] (Q4 [(0,(Obj.rows 1 ((YR f (l.take i)).map (QF true))))]) 1 _
 have hI1:=hI'
 have htl:=Jh l i
 have hcl:=Qku f (l.take i)
 refine sr (fO (Ze (tv (tN i) rfl) (tv (tN l.length) rfl)) (nt (sq ?_)))
 refine cd (i<l.length) rfl (fun fhc0=> ?_) fun fhc0=> ?_
 ·refine sk ?_
  refine tn (sq (VRun.block (sr ?_)))
  obtain ⟨x1,hx1⟩:∃x,l[i]? =some x:=⟨_,List.getElem?_eq_getElem (by omega)⟩
  have hbx:=hb _ (List.mem_of_getElem? hx1)
  refine fO (OF.indexAddrR (row:=(Qa false x1)) (i:=i) (tv (rd 1 Qa l) rfl) (tv (tN i) rfl) rfl (Qu _ hx1) Zt Za Yl) (lO (OL.loadR1 (t:=(tI x1)) (tv (T.rp [(tI x1)]) rfl) rfl QU) (aO (tI x1) rfl (nt (VRun.region (mO (T.os 1 0 0 (((YR f (l.take i)).map (QF true)).length)) rfl (mO (tS f) rfl (mO (tI x1) rfl ?_)))))))
  have hb2:(Int.toNat x1)<f.size:=(by omega)
  refine fO (B.index (n:=(Qs f (Int.toNat x1))) (i:=(Int.toNat x1)) (tv (tS f) rfl) (tv (tI x1) rfl) (by omega) hb2 U9 (YJ hb2)) (kO (OM.buildSlice (l:= [(T.int .u8 (Qs f (Int.toNat x1)))]) (VEvp.cons (tv (T.int .u8 (Qs f (Int.toNat x1))) rfl) VEvp.nil) rfl (by decide) (bc (nofun) bn) (bc ((bc (rfl) bn)) bn) (bc (rfl) bn) QbM zo5 (by kernel_rfl) rfl (by rw [sz5];decide) sz5 (Nat.le_of_ble_eq_true rfl)) (cO (B.append (rows:=((YR f (l.take i)).map (QF true))) (rows2:= [[(T.int .u8 (Qs f (Int.toNat x1)))]]) (rows3:=((YR f (l.take i)++ [Qs f (Int.toNat x1)]).map (QF true))) (VDst.own (tv (T.os 1 0 0 (((YR f (l.take i)).map (QF true)).length)) rfl) rfl rfl) (VSrc.own (tv (T.os 1 1 0 1) rfl) rfl rfl QbM (bc (bc rfl bn) bn)) (by decide) QbM sz5 (by decide) zo5 rfl (of_decide_eq_true (by kernel_rfl)) (by (simp only [List.length_map,List.length_append,List.length_cons,List.length_nil,List.length_replicate,List.length_set,List.length_drop,List.length_take,Jn] at *;omega)) ((List.map_append (f:=QF true) (l₁:=YR f (l.take i)) (l₂:= [Qs f (Int.toNat x1)])).symm)) (aO (T.os 1 2 0 (((YR f (l.take i)++ [Qs f (Int.toNat x1)]).map (QF true)).length)) rfl (VRunO.nil (vinB.n (tn (VRun.region (fO (QB (tv (tN i) rfl) (VEv.int .i64 1) (by omega)) (mO (tN (i+1)) rfl (VRunO.nil (tn ?_)))))))))))
  have he3:(YR f (l.take i)++ [Qs f (Int.toNat x1)])=YR f (l.take (i+1)):=by exact Qi7 hx1
  refine ⟨(i+1:Nat),?_,?_,Wk.mk (fun k=>if k=0 then 2 else k) ?_ ?_ ?_⟩
  ·trivial
  ·omega
  ·exact (b2 (b2 (bc ⟨(congrArg (fun l_=>T.os 1 2 0 (List.map (QF true) l_).length) he3),rfl⟩ (b2 (b2 (b2 bn))))))
  ·exact (bc ⟨(congrArg (fun l_=>some (Obj.rows 1 (List.map (QF true) l_))) he3),(lb rfl),rfl⟩ bn)
  ·exact nd rfl
 refine VRun.exit (vthn.e (vthn.e (vinB.e (tn (sr (mO (T.os 1 0 0 (((YR f (l.take i)).map (QF true)).length)) rfl (lO (B.convBS (l:=YR f (l.take i)) (tv (T.os 1 0 0 (((YR f (l.take i)).map (QF true)).length)) rfl) rfl (List.length_map ..) QbM U5 U9) (aO (tS (ZP (YR f (l.take i)))) rfl (nt (rt ?_))))))))))
 refine vfin.eq (r':=(tS (ZP (YR f (l.take i))))) ?_ (vfin.r (VRes.tmp (t:=(tS (ZP (YR f (l.take i))))) rfl VRes.nil) (Give.str _))
 show (tS (ZP (YR f (l.take i))))=(tS (Jq f l))
 refine congrArg T.str ?_
 rw [Qbh hI' fhc0];rfl
theorem Qd0 (n:Nat) (g:D.Grid) (f:ByteArray) (hc:g.Cells.size≤maxLen) (hf:f.size≤maxLen):Pure (Qq Tryz.prog (n+5)) 122 [(T.agg (Qc false g)),(tS f)] (T.sl true 1 ((Ya g f).map (Yc true))):=by
 refine Pure.intro (rs:= [ResultVar.tmp 4]) Tryz.func122 rfl rfl rfl (E0:= [(0,(T.agg (Qc false g))),(1,(tS f))]) rfl ?_
 obtain ⟨hlim,hmx,hmax⟩:=QG
 have hsl:=Zn g
 have hll:=QaB g
 refine sr (kO (B.box (ts:=(Qc false g)) (tv (T.agg (Qc false g)) rfl) nofun rfl) (fO (OF.assign VEv.nils) (nt (sq (sr (lO (OL.loadOn (us:=(Qc false g)) (tv (T.op 0 0) rfl) rfl Q1 QT (lb rfl) rfl) (mO (tS f) rfl (cO (cS (vc (tv (T.agg (Qc false g)) rfl) (vc (tv (tS f) rfl) vn)) (LendL.cons (lg Qt) (lp rfl ln)) (QbU (n+1) g f (by assumption) (by assumption)) rfl rfl) (fO (QS (tv (tB (decide (QR g f))) rfl)) (nt ?_))))))))))
 refine cn (QR g f) rfl (fun fhc0=> ?_) fun fhc0=> ?_
 ·refine sr ?_
  refine fO (OF.assign VEv.nils) (nt (rt (tr ?_)))
  refine vfin.eq (r':=(T.sl true 1 [])) ?_ (vfin.r (VRes.tmp (t:=T.nils) rfl VRes.nil) (Give.nils 1))
  show (T.sl true 1 [])=(T.sl true 1 ((Ya g f).map (Yc true)))
  refine congrArg (fun l_=>T.sl true 1 (List.map (Yc true) l_)) (a₁:= []) ?_
  exact (if_neg fhc0).symm
 refine sk (tn (sr (fO (OF.assign VEv.nils) (nt (sq (sr (lO (OL.loadOn (us:=(Qc false g)) (tv (T.op 0 0) rfl) rfl Q1 QT (lb rfl) rfl) (cO (OC.callF (us:= [(T.agg (Qc false g))]) (r:=(T.sl true 1 ((QD g).map ((YG 1 Qa) true)))) (r':=(T.os 1 1 0 (((QD g).map ((YG 1 Qa) true)).length))) (objs:= [(Obj.rows 1 ((QD g).map ((YG 1 Qa) true)))]) rfl (vc (tv (T.agg (Qc false g)) rfl) vn) (LendL.cons (lg Qt) ln) (Jf (n+0) g (by assumption)) rfl) (lO (B.lenO (m:=(QD g).length) (tv (T.os 1 1 0 (((QD g).map ((YG 1 Qa) true)).length)) rfl) Qew (List.length_map ..)) (fO (OF.move (VEv.int .i64 0)) (nt ?_)))))))))))
 refine VRun.block (VRun.wk (Wk.freeze (sz:=1) (k:=1) (rows':=((QD g).map ((YG 1 Qa) false))) [13] (bc rfl bn) rfl rfl ((QjU okInt).fzMap _ _)) (VRun.wk (Wk.phantom 5 1 rfl) ?_))
 have he1: []=((((QD g).take 0).map (Jq f)).map (Yc true)):=by rfl
 refine VRun.loop (A:=Nat) (fun s_=> [(1,(tS f)),(4,T.nils),(5,(T.os 1 0 0 (((((QD g).take s_).map (Jq f)).map (Yc true)).length))),(13,(rd 1 (YG 1 Qa) (QD g))),(14,(tN ((QD g).length))),(15,(tN s_))]) (fun s_=>Q4 [(0,(Obj.rows 1 ((((QD g).take s_).map (Jq f)).map (Yc true))))]) 1 (fun s_=>s_≤(QD g).length) (fun s_=>(QD g).length - s_) (0:Nat) ?_ (Wk.mk (fun k=>if k=0 then 2 else k) ?_ ?_ ?_) ?_
 ·(simp;done)
 ·exact (b2 (b2 (bc ⟨(congrArg (fun n_=>T.os 1 2 0 n_) (show 0=((((QD g).take 0).map (Jq f)).map (Yc true)).length from (by rfl))),rfl⟩ (b2 (b2 (b2 bn))))))
 ·exact (bc ⟨(congrArg (fun l_=>some (Obj.rows 1 l_)) he1),(lb rfl),rfl⟩ bn)
 ·exact nd rfl
 rintro i (hI':i≤(QD g).length)
 show VRun _ _ _ [(1,(tS f)),(4,T.nils),(5,(T.os 1 0 0 (((((QD g).take i).map (Jq f)).map (Yc true)).length))),(13,(rd 1 (YG 1 Qa) (QD g))),(14,(tN ((QD g).length))),(15,(tN i))] (Q4 [(0,(Obj.rows 1 ((((QD g).take i).map (Jq f)).map (Yc true))))]) 1 _
 have hI1:=hI'
 have htl:=Jh (QD g) i
 refine sr (fO (Ze (tv (tN i) rfl) (tv (tN ((QD g).length)) rfl)) (nt (sq ?_)))
 refine cd (i<(QD g).length) rfl (fun fhc1=> ?_) fun fhc1=> ?_
 ·refine sk ?_
  refine tn (sq (VRun.block (sr ?_)))
  obtain ⟨x1,hx1⟩:∃x,(QD g)[i]? =some x:=⟨_,List.getElem?_eq_getElem (by omega)⟩
  obtain ⟨y1,hy1,hq1⟩:=QeR hx1
  refine fO (OF.indexAddrR (row:=((YG 1 Qa) false x1)) (i:=i) (tv (rd 1 (YG 1 Qa) (QD g)) rfl) (tv (tN i) rfl) rfl (Qu _ hx1) Qew Qbd QcG) (lO (OL.loadR1 (t:=(rd 1 Qa x1)) (tv (T.rp [(rd 1 Qa x1)]) rfl) rfl Y0) (aO (rd 1 Qa x1) rfl (nt (VRun.region (mO (T.os 1 0 0 (((((QD g).take i).map (Jq f)).map (Yc true)).length)) rfl (mO (tS f) rfl (mO (rd 1 Qa x1) rfl (cO (cS (vc (tv (tS f) rfl) (vc (tv (rd 1 Qa x1) rfl) vn)) (ZO rfl) (QcS (n+3) f x1 (by (rw [hq1];exact Nat.le_trans (QcE hy1) (by decide))) (by (rw [hq1];intro c hc;have:=QfQ (List.mem_of_getElem? hy1) hc;have:=fhc0.2.1;omega))) rfl rfl) (kO (OM.buildSlice (l:= [(tS (Jq f x1))]) (VEvp.cons (tv (tS (Jq f x1)) rfl) VEvp.nil) rfl (by decide) (bc (nofun) bn) (bc ((bc (rfl) bn)) bn) (bc (rfl) bn) Qk2 zo9 (by kernel_rfl) rfl (by rw [sz9];decide) sz9 (Nat.le_of_ble_eq_true rfl)) (cO (B.append (rows:=((((QD g).take i).map (Jq f)).map (Yc true))) (rows2:= [[(tS (Jq f x1))]]) (rows3:=((((QD g).take i).map (Jq f)++ [Jq f x1]).map (Yc true))) (VDst.own (tv (T.os 1 0 0 (((((QD g).take i).map (Jq f)).map (Yc true)).length)) rfl) rfl rfl) (VSrc.own (tv (T.os 1 1 0 1) rfl) rfl rfl Qk2 (bc (bc rfl bn) bn)) (by decide) Qk2 sz9 (by decide) zo9 rfl (of_decide_eq_true (by kernel_rfl)) (by (simp only [List.length_map,List.length_append,List.length_cons,List.length_nil,List.length_replicate,List.length_set,List.length_drop,List.length_take,Jn] at *;omega)) ((List.map_append (f:=Yc true) (l₁:=((QD g).take i).map (Jq f)) (l₂:= [Jq f x1])).symm)) (aO (T.os 1 2 0 (((((QD g).take i).map (Jq f)++ [Jq f x1]).map (Yc true)).length)) rfl ?_)))))))))))
  refine VRunO.nil (vinB.n (tn (VRun.region (fO (QB (tv (tN i) rfl) (VEv.int .i64 1) (by omega)) (mO (tN (i+1)) rfl (VRunO.nil (tn ?_)))))))
  have he2:(((QD g).take i).map (Jq f)++ [Jq f x1])=((QD g).take (i+1)).map (Jq f):=by (rw [List.take_add_one,hx1,Option.toList_some,List.map_append];rfl)
  refine ⟨(i+1:Nat),?_,?_,Wk.mk (fun k=>if k=0 then 2 else k) ?_ ?_ ?_⟩
  ·trivial
  ·omega
  ·exact (b2 (b2 (bc ⟨(congrArg (fun l_=>T.os 1 2 0 (List.map (Yc true) l_).length) he2),rfl⟩ (b2 (b2 (b2 bn))))))
  ·exact (bc ⟨(congrArg (fun l_=>some (Obj.rows 1 (List.map (Yc true) l_))) he2),(lb rfl),rfl⟩ bn)
  ·exact nd rfl
 refine VRun.exit (vthn.e (vthn.e (vinB.e (tn (sr (mO (T.os 1 0 0 (((((QD g).take i).map (Jq f)).map (Yc true)).length)) rfl (aO (T.os 1 0 0 (((((QD g).take i).map (Jq f)).map (Yc true)).length)) rfl (nt (rt ?_)))))))))
 refine vfin.eq (r':=(T.sl true 1 ((((QD g).take i).map (Jq f)).map (Yc true)))) ?_ (vfin.r (VRes.tmp (t:=(T.os 1 0 0 (((((QD g).take i).map (Jq f)).map (Yc true)).length))) rfl VRes.nil) (Give.os rfl rfl (okStr.cleanMap _)))
 show (T.sl true 1 ((((QD g).take i).map (Jq f)).map (Yc true)))=(T.sl true 1 ((Ya g f).map (Yc true)))
 refine congrArg (fun l_=>T.sl true 1 (List.map (Yc true) l_)) ?_
 rw [Qbh hI' fhc1,Ya,if_pos (by simpa using fhc0)]
end Go.Proofs.YtcccmceoplcciaaGreat.AE
namespace Go.Proofs.YtcccmceoplcciaaGreat.AE
open Go Go.RowKit
set_option linter.unusedVariables false
set_option linter.unusedSimpArgs false
set_option maxRecDepth 20000
set_option maxHeartbeats 2000000
noncomputable section
theorem Qki (g:D.Grid) (f:ByteArray):(Ya g f).length≤(Qb g).length:=by
 by_cases h:QR g f
 ·rw [QfP h];exact Nat.le_refl _
 ·unfold Ya;rw [if_neg h];exact Nat.zero_le _
end
end Go.Proofs.YtcccmceoplcciaaGreat.AE
namespace Go.Proofs.YtcccmceoplcciaaGreat.AE
open Go Go.RowKit
set_option linter.unusedVariables false
set_option linter.unusedSimpArgs false
set_option maxRecDepth 20000
set_option maxHeartbeats 2000000
noncomputable section
def ZX (p:D.Puzzle):Prop:=ZV p.Grid=0∧p.Clues.length=(Qb p.Grid).length∧p.Seals.length=(Qb p.Grid).length∧(1≤p.Salt∧p.Salt≤9999)∧∀c∈p.Clues,okC c
instance (p:D.Puzzle):Decidable (ZX p):=Classical.propDecidable _
def noC (c:D.Clue):Prop:=¬okC c
instance (c:D.Clue):Decidable (noC c):=Classical.propDecidable _
end
theorem Qco (n:Nat) (c:D.Clue) (hz:QP c≤mx):Pure (Qq Tryz.prog (n+5)) 109 [(T.agg (Qh false c))] (tB (decide (noC c))):=by
 refine Pure.intro (rs:= [ResultVar.tmp 2]) Tryz.func109 rfl rfl rfl (E0:= [(0,(T.agg (Qh false c)))]) rfl ?_
 obtain ⟨hlim,hmx,hmax⟩:=QG
 refine sr (kO (B.box (ts:=(Qh false c)) (tv (T.agg (Qh false c)) rfl) nofun rfl) (fO (OF.assign (VEv.bool false)) (nt (sr (lO (OL.loadOn (us:=(Qh false c)) (tv (T.op 0 0) rfl) rfl Qh8 Qa1 (lb rfl) rfl) (cO (cS (vc (tv (T.agg (Qh false c)) rfl) vn) (LendL.cons (lg okeClue) ln) (Qfa (n+0) c (by assumption)) rfl rfl) (fO (QS (tv (tB (decide ((1≤c.Sense∧c.Sense≤99)∧Yo c.Play))) rfl)) (aO (tB (!(decide ((1≤c.Sense∧c.Sense≤99)∧Yo c.Play)))) rfl (nt (rt (vb (b':=(!(decide ((1≤c.Sense∧c.Sense≤99)∧Yo c.Play)))) rfl ?_)))))))))))
 rw [dN];exact Q9 Iff.rfl
theorem ZE (n:Nat) (l:List D.Clue) (hz:zL QP l≤mx):Pure (Qq Tryz.prog (n+6)) 141 [(rd 2 Qh l),(T.fn 109 [])] (tI (ixF noC l)):=by
 refine Pure.intro (rs:= [ResultVar.tmp 4]) Tryz.func141 rfl rfl rfl (E0:= [(0,(rd 2 Qh l)),(1,(T.fn 109 []))]) rfl ?_
 obtain ⟨hlim,hmx,hmax⟩:=QG
 have hl:=QV (z:=QP) l
 refine sr (fO (OF.assign (VEv.int .i64 0)) (nt (sq (sr (mO (rd 2 Qh l) rfl (lO (B.lenR (m:=l.length) (tv (rd 2 Qh l) rfl) U35 (List.length_map ..)) (fO (OF.move (VEv.int .i64 0)) (nt (VRun.block ?_)))))))))
 refine VRun.loop (A:=Nat) (fun s_=> [(0,(rd 2 Qh l)),(1,(T.fn 109 [])),(7,(tN l.length)),(8,(tN s_))]) (fun s_=>Q4 []) 0 (fun s_=>NoneTo noC l s_) (fun s_=>l.length - s_) (0:Nat) ?_ (Wk.mk (fun k=>k) ?_ ?_ ?_) ?_
 ·exact NoneTo.start _ _
 ·exact (b2 (b2 (b2 (b2 bn))))
 ·exact bn
 ·exact nd rfl
 rintro i (hI':NoneTo noC l i)
 show VRun _ _ _ [(0,(rd 2 Qh l)),(1,(T.fn 109 [])),(7,(tN l.length)),(8,(tN i))] (Q4 []) 0 _
 have hI1:=hI'.1
 refine sr (fO (Ze (tv (tN i) rfl) (tv (tN l.length) rfl)) (nt (sq ?_)))
 refine cd (i<l.length) rfl (fun fhc0=> ?_) fun fhc0=> ?_
 ·refine sk ?_
  refine tn (sq (VRun.block (sr (mO (tN i) rfl (aO (tN i) rfl (nt (sr (mO (T.fn 109 []) rfl (mO (rd 2 Qh l) rfl (mO (tN i) rfl ?_))))))))))
  obtain ⟨x1,hx1⟩:∃x,l[i]? =some x:=⟨_,List.getElem?_eq_getElem (by omega)⟩
  refine fO (OF.indexAddrR (row:=(Qh false x1)) (i:=i) (tv (rd 2 Qh l) rfl) (tv (tN i) rfl) rfl (Qu _ hx1) U35 Qa1 Qgc) (lO (OL.loadRn (us:=(Qh false x1)) (tv (T.rp (Qh false x1)) rfl) Qh8 Qa1 (lb rfl) rfl) (cO (OC.callv (us:= [(T.agg (Qh false x1))]) (ucaps:= []) (r:=(tB (decide (noC x1)))) (r':=(tB (decide (noC x1)))) (objs:= []) rfl rfl (vc (tv (T.agg (Qh false x1)) rfl) vn) (LendL.cons (lg okeClue) ln) ln (Qco (n+0) x1 (by exact Nat.le_trans (QfS hx1) hz)) rfl) (nt ?_)))
  refine cd (noC x1) rfl (fun fhc1=> ?_) fun fhc1=> ?_
  ·refine sr ?_
   refine mO (tN i) rfl (aO (tN i) rfl (nt (rt (vinB.r (tr (tr (vinB.r (tr (vi (n':=((i:Nat):Int)) rfl ?_)))))))))
   exact (Qde hx1 fhc1 hI'.2).symm
  refine sk (vinB.n (tn (VRun.region (fO (QB (tv (tN i) rfl) (VEv.int .i64 1) (by omega)) (mO (tN (i+1)) rfl (VRunO.nil (tn ?_)))))))
  refine ⟨(i+1:Nat),?_,?_,Wk.mk (fun k=>k) ?_ ?_ ?_⟩
  ·exact hI'.next hx1 fhc1
  ·omega
  ·exact (b2 (b2 (b2 (b2 bn))))
  ·exact bn
  ·exact nd rfl
 refine VRun.exit (vthn.e (vthn.e (vinB.e (tn (sr (fO (OF.assign (VEv.int .i64 (-1))) (nt (rt (vi (n':=(-1)) rfl ?_)))))))))
 exact (QeW (hI'.all fhc0)).symm
theorem Zq (n:Nat) (l:List D.Clue) (hz:zL QP l≤mx):Pure (Qq Tryz.prog (n+7)) 108 [(rd 2 Qh l),(T.fn 109 [])] (tB (decide (∃c∈l,noC c))):=by
 refine Pure.intro (rs:= [ResultVar.tmp 4]) Tryz.func108 rfl rfl rfl (E0:= [(0,(rd 2 Qh l)),(1,(T.fn 109 []))]) rfl ?_
 obtain ⟨hlim,hmx,hmax⟩:=QG
 refine sr (fO (OF.assign (VEv.bool false)) (nt (sr (mO (rd 2 Qh l) rfl (mO (T.fn 109 []) rfl (cO (cS (us:= [(rd 2 Qh l),(T.fn 109 [])]) (vc (tv (rd 2 Qh l) rfl) (vc (tv (T.fn 109 []) rfl) vn)) (lp rfl (LendL.cons (Lend.fn ln) ln)) (ZE (n+0) l (by assumption)) rfl rfl) (fO (xge (tv (tI (ixF noC l)) rfl) (VEv.int .i64 0)) (aO (tB (decide (0≤ixF noC l))) rfl (nt (rt (vb (b':=(decide (0≤ixF noC l))) rfl ?_)))))))))))
 refine Q9 ?_;exact QhQ
theorem Qd4 (n:Nat) (a:D.Puzzle) (hz:QJ a≤mx):Pure (Qq Tryz.prog (n+10)) 57 [(T.agg (Qp false a))] (tB (decide (ZX a))):=by
 refine Pure.intro (rs:= [ResultVar.tmp 2]) Tryz.func57 rfl rfl rfl (E0:= [(0,(T.agg (Qp false a)))]) rfl ?_
 obtain ⟨hlim,hmx,hmax⟩:=QG
 simp only [QJ,Zz] at hz
 have hl:=QV (z:=QP) a.Clues
 have hl2:=QV (z:=zI) a.Seals
 refine sr (kO (B.box (ts:=(Qp false a)) (tv (T.agg (Qp false a)) rfl) nofun rfl) (fO (OF.assign (VEv.bool false)) (nt (sq (sr (fO (OF.assign (VEv.int .i64 0)) (nt (VRun.block ?_))))))))
 refine VRun.loop (A:=Nat) (fun s_=> [(1,(T.op 0 0)),(3,(tN s_))]) (fun s_=>Q4 [(0,(Obj.cells (Qp false a)))]) 1 (fun s_=>NoneTo noC a.Clues s_) (fun s_=>a.Clues.length - s_) (0:Nat) ?_ (Wk.mk (fun k=>k) ?_ ?_ ?_) ?_
 ·exact NoneTo.start _ _
 ·exact (b2 (b2 bn))
 ·exact (b3 bn)
 ·exact nd rfl
 rintro i (hI':NoneTo noC a.Clues i)
 show VRun _ _ _ [(1,(T.op 0 0)),(3,(tN i))] (Q4 [(0,(Obj.cells (Qp false a)))]) 1 _
 have hI1:=hI'.1
 refine sq (sr (mO (tN i) rfl (lf (rd 2 Qh a.Clues) rfl Y5 rfl rfl QdQ (lO (B.lenR (m:=a.Clues.length) (tv (rd 2 Qh a.Clues) rfl) U35 (List.length_map ..)) (fO (Ze (tv (tN i) rfl) (tv (tN a.Clues.length) rfl)) (nt ?_))))))
 refine cd (i<a.Clues.length) rfl (fun fhc0=> ?_) fun fhc0=> ?_
 ·refine sk ?_
  refine tn (sq (VRun.block (sr (lf (rd 2 Qh a.Clues) rfl Y5 rfl rfl QdQ (mO (tN i) rfl ?_)))))
  obtain ⟨x1,hx1⟩:∃x,a.Clues[i]? =some x:=⟨_,List.getElem?_eq_getElem (by omega)⟩
  refine fO (OF.indexAddrR (row:=(Qh false x1)) (i:=i) (tv (rd 2 Qh a.Clues) rfl) (tv (tN i) rfl) rfl (Qu _ hx1) U35 Qa1 Qgc) (lO (OL.loadRn (us:=(Qh false x1)) (tv (T.rp (Qh false x1)) rfl) Qh8 Qa1 (lb rfl) rfl) (cO (cS (vc (tv (T.agg (Qh false x1)) rfl) vn) (LendL.cons (lg okeClue) ln) (Qe7 (n+4) x1 (by exact Nat.le_trans (QfS hx1) (by omega))) rfl rfl) (fO (QS (tv (tB (decide ((1≤x1.Sense∧x1.Sense≤99)∧Yo x1.Play))) rfl)) (nt ?_))))
  refine cn ((1≤x1.Sense∧x1.Sense≤99)∧Yo x1.Play) rfl (fun fhc1=> ?_) fun fhc1=> ?_
  ·refine sr ?_
   refine fO (OF.assign (VEv.bool false)) (nt (rt (vinB.r (tr (tr (vinB.r (tr (vb (b':=false) rfl ?_))))))))
   symm;rw [decide_eq_false_iff_not];rintro ⟨_,_,_,_,h⟩;exact fhc1 (h x1 (List.mem_of_getElem? hx1))
  refine sk (vinB.n (tn (VRun.region (mO (tN i) rfl (fO (QB (tv (tN i) rfl) (VEv.int .i64 1) (by omega)) (aO (tN (i+1)) rfl (VRunO.nil (tn ?_))))))))
  refine ⟨(i+1:Nat),?_,?_,Wk.mk (fun k=>k) ?_ ?_ ?_⟩
  ·exact hI'.next hx1 (fun h=>h fhc1)
  ·omega
  ·exact (b2 (b2 bn))
  ·exact (b3 bn)
  ·exact nd rfl
 refine VRun.exit (vthn.e (vthn.e (vinB.e (tn (sr (fO (OF.fieldAddrO (tv (T.op 0 0) rfl) JN) (lO (OL.loadOn (us:=(Qc false a.Grid)) (tv (T.op 0 0) rfl) rfl Q1 QT (lb rfl) rfl) (cO (OC.callF (us:= [(T.agg (Qc false a.Grid))]) (r:=(T.sl true 4 ((Qb a.Grid).map (Qg true)))) (r':=(T.os 4 1 0 (((Qb a.Grid).map (Qg true)).length))) (objs:= [(Obj.rows 4 ((Qb a.Grid).map (Qg true)))]) rfl (vc (tv (T.agg (Qc false a.Grid)) rfl) vn) (LendL.cons (lg Qt) ln) (ZJ (n+6) a.Grid (by omega)) rfl) (lO (B.lenO (m:=(Qb a.Grid).length) (tv (T.os 4 1 0 (((Qb a.Grid).map (Qg true)).length)) rfl) Z7 (List.length_map ..)) (aO (tN ((Qb a.Grid).length)) rfl (nt ?_)))))))))))
 refine sr (fO (OF.fieldAddrO (tv (T.op 0 0) rfl) JN) (lO (OL.loadOn (us:=(Qc false a.Grid)) (tv (T.op 0 0) rfl) rfl Q1 QT (lb rfl) rfl) (cO (cS (vc (tv (T.agg (Qc false a.Grid)) rfl) vn) (LendL.cons (lg Qt) ln) (Qe5 (n+0) a.Grid (by omega)) rfl rfl) (fO (Y7 (tv (tI (ZV a.Grid)) rfl) (VEv.int .i64 0)) (mO (tB (decide (ZV a.Grid=0))) rfl ?_)))))
 refine VRunO.joinB 6 [28,29,30,31,32] 33 (tB (decide ((ZV a.Grid=0)∧(a.Clues.length=(Qb a.Grid).length)))) ?_ ?_
 ·refine gw (ZV a.Grid=0) (fun fhg27_1=> ?_) fun fhg27_1=> ?_
  ·refine Yi (rd 2 Qh a.Clues) (dy fhg27_1) rfl rfl rfl rfl Y5 rfl rfl QdQ ?_
   refine gL (dy fhg27_1) rfl rfl (B.lenR (m:=a.Clues.length) (tv (rd 2 Qh a.Clues) rfl) U35 (List.length_map ..)) (gF (dy fhg27_1) rfl rfl (OF.move (tv (tN ((Qb a.Grid).length)) rfl)) (gF (dy fhg27_1) rfl rfl (Qlh (tv (tN a.Clues.length) rfl) (tv (tN ((Qb a.Grid).length)) rfl)) (fO (OF.pickT (VEv.tmpB rfl (dy fhg27_1)) (tv (tB (decide (a.Clues.length=(Qb a.Grid).length))) rfl)) (VRunO.nil ?_))))
   exact jq (congrArg T.bool (kAT fhg27_1 rfl)) (js rfl (js rfl (js rfl (js rfl (js rfl (jn))))))
  ·refine Qy 5 4 true 27 (dz fhg27_1) rfl rfl rfl ?_
   refine fO (OF.pickF (VEv.tmpB rfl (dz fhg27_1)) (VEv.bool false)) (VRunO.nil ?_)
   exact jq (congrArg T.bool (kAF fhg27_1)) (js rfl (js rfl (js rfl (js rfl (js rfl (jn))))))
 refine mO (tB (decide ((ZV a.Grid=0)∧(a.Clues.length=(Qb a.Grid).length)))) rfl ?_
 refine VRunO.joinB 6 [35,36,37,38,39] 40 (tB (decide (((ZV a.Grid=0)∧(a.Clues.length=(Qb a.Grid).length))∧(a.Seals.length=(Qb a.Grid).length)))) ?_ ?_
 ·refine gw ((ZV a.Grid=0)∧(a.Clues.length=(Qb a.Grid).length)) (fun fhg34_2=> ?_) fun fhg34_2=> ?_
  ·refine Yi (rd 1 Qa a.Seals) (dy fhg34_2) rfl rfl rfl rfl Qdf rfl rfl Y0 ?_
   refine gL (dy fhg34_2) rfl rfl (B.lenR (m:=a.Seals.length) (tv (rd 1 Qa a.Seals) rfl) Zt (List.length_map ..)) (gF (dy fhg34_2) rfl rfl (OF.move (tv (tN ((Qb a.Grid).length)) rfl)) (gF (dy fhg34_2) rfl rfl (Qlh (tv (tN a.Seals.length) rfl) (tv (tN ((Qb a.Grid).length)) rfl)) (fO (OF.pickT (VEv.tmpB rfl (dy fhg34_2)) (tv (tB (decide (a.Seals.length=(Qb a.Grid).length))) rfl)) (VRunO.nil ?_))))
   exact jq (congrArg T.bool (kAT fhg34_2 rfl)) (js rfl (js rfl (js rfl (js rfl (js rfl (jn))))))
  ·refine Qy 5 11 true 34 (dz fhg34_2) rfl rfl rfl ?_
   refine fO (OF.pickF (VEv.tmpB rfl (dz fhg34_2)) (VEv.bool false)) (VRunO.nil ?_)
   exact jq (congrArg T.bool (kAF fhg34_2)) (js rfl (js rfl (js rfl (js rfl (js rfl (jn))))))
 refine mO (tB (decide (((ZV a.Grid=0)∧(a.Clues.length=(Qb a.Grid).length))∧(a.Seals.length=(Qb a.Grid).length)))) rfl ?_
 refine VRunO.joinB 4 [42,43,44] 45 (tB (decide ((((ZV a.Grid=0)∧(a.Clues.length=(Qb a.Grid).length))∧(a.Seals.length=(Qb a.Grid).length))∧(1≤a.Salt∧a.Salt≤9999)))) ?_ ?_
 ·refine gw (((ZV a.Grid=0)∧(a.Clues.length=(Qb a.Grid).length))∧(a.Seals.length=(Qb a.Grid).length)) (fun fhg41_3=> ?_) fun fhg41_3=> ?_
  ·refine Yi (tI a.Salt) (dy fhg41_3) rfl rfl rfl rfl QeZ rfl rfl QU ?_
   refine VRunO.chain (VWant.on rfl rfl (dy fhg41_3)) (cS (vc (tv (tI a.Salt) rfl) (vc (VEv.int .i64 1) (vc (VEv.int .i64 9999) vn))) (ZO rfl) (QN (n+8) a.Salt 1 9999) rfl rfl) (fO (OF.pickT (VEv.tmpB rfl (dy fhg41_3)) (tv (tB (decide (1≤a.Salt∧a.Salt≤9999))) rfl)) (VRunO.nil ?_))
   exact jq (congrArg T.bool (kAT fhg41_3 rfl)) (js rfl (js rfl (js rfl (jn))))
  ·refine Qy 3 18 true 41 (dz fhg41_3) rfl rfl rfl ?_
   refine fO (OF.pickF (VEv.tmpB rfl (dz fhg41_3)) (VEv.bool false)) (VRunO.nil ?_)
   exact jq (congrArg T.bool (kAF fhg41_3)) (js rfl (js rfl (js rfl (jn))))
 refine aO (tB (decide ((((ZV a.Grid=0)∧(a.Clues.length=(Qb a.Grid).length))∧(a.Seals.length=(Qb a.Grid).length))∧(1≤a.Salt∧a.Salt≤9999)))) rfl (nt (rt (vb (b':=(decide ((((ZV a.Grid=0)∧(a.Clues.length=(Qb a.Grid).length))∧(a.Seals.length=(Qb a.Grid).length))∧(1≤a.Salt∧a.Salt≤9999)))) rfl ?_)))
 refine Q9 ⟨fun h=>⟨h.1.1.1,h.1.1.2,h.1.2,h.2,fun c hc=>Classical.byContradiction fun e=>hI'.mem fhc0 c hc e⟩,fun h=>⟨⟨⟨h.1,h.2.1⟩,h.2.2.1⟩,h.2.2.2.1⟩⟩
theorem QdT (n:Nat) (a:D.Puzzle) (hz:QJ a≤mx):Pure (Qq Tryz.prog (n+42)) 62 [(T.agg (Qp false a))] (tB (decide (ZX a))):=by
 refine Pure.intro (rs:= [ResultVar.tmp 2]) Tryz.func62 rfl rfl rfl (E0:= [(0,(T.agg (Qp false a)))]) rfl ?_
 obtain ⟨hlim,hmx,hmax⟩:=QG
 simp only [QJ,Zz] at hz
 have hl:=QV (z:=QP) a.Clues
 have hl2:=QV (z:=zI) a.Seals
 refine sr (kO (B.box (ts:=(Qp false a)) (tv (T.agg (Qp false a)) rfl) nofun rfl) (fO (OF.assign (VEv.bool false)) (nt (sq (sr (fO (OF.fieldAddrO (tv (T.op 0 0) rfl) JN) (lO (OL.loadOn (us:=(Qc false a.Grid)) (tv (T.op 0 0) rfl) rfl Q1 QT (lb rfl) rfl) (cO (cS (vc (tv (T.agg (Qc false a.Grid)) rfl) vn) (LendL.cons (lg Qt) ln) (Qfp (n+0) a.Grid (by omega)) rfl rfl) (fO (xne (tv (tI (ZV a.Grid)) rfl) (VEv.int .i64 0)) (nt ?_))))))))))
 refine cn (ZV a.Grid=0) rfl (fun fhc0=> ?_) fun fhc0=> ?_
 ·refine sr ?_
  refine fO (OF.assign (VEv.bool false)) (nt (rt (tr (vb (b':=false) rfl ?_))))
  symm;rw [decide_eq_false_iff_not];intro h;exact fhc0 h.1
 refine sk (tn (sr (fO (OF.fieldAddrO (tv (T.op 0 0) rfl) JN) (lO (OL.loadOn (us:=(Qc false a.Grid)) (tv (T.op 0 0) rfl) rfl Q1 QT (lb rfl) rfl) (cO (OC.callF (us:= [(T.agg (Qc false a.Grid))]) (r:=(T.sl true 4 ((Qb a.Grid).map (Qg true)))) (r':=(T.os 4 1 0 (((Qb a.Grid).map (Qg true)).length))) (objs:= [(Obj.rows 4 ((Qb a.Grid).map (Qg true)))]) rfl (vc (tv (T.agg (Qc false a.Grid)) rfl) vn) (LendL.cons (lg Qt) ln) (JW (n+38) a.Grid (by omega)) rfl) (lO (B.lenO (m:=(Qb a.Grid).length) (tv (T.os 4 1 0 (((Qb a.Grid).map (Qg true)).length)) rfl) Z7 (List.length_map ..)) (aO (tN ((Qb a.Grid).length)) rfl (nt (sr (lf (rd 2 Qh a.Clues) rfl Y5 rfl rfl QdQ (lO (B.lenR (m:=a.Clues.length) (tv (rd 2 Qh a.Clues) rfl) U35 (List.length_map ..)) ?_)))))))))))
 refine mO (tN ((Qb a.Grid).length)) rfl (fO (Qlh (tv (tN a.Clues.length) rfl) (tv (tN ((Qb a.Grid).length)) rfl)) (mO (tB (decide (a.Clues.length=(Qb a.Grid).length))) rfl ?_))
 refine gw (a.Clues.length=(Qb a.Grid).length) (fun fhg17_1=> ?_) fun fhg17_1=> ?_
 ·refine Yi (rd 1 Qa a.Seals) (dy fhg17_1) rfl rfl rfl rfl Qdf rfl rfl Y0 ?_
  refine gL (dy fhg17_1) rfl rfl (B.lenR (m:=a.Seals.length) (tv (rd 1 Qa a.Seals) rfl) Zt (List.length_map ..)) (gF (dy fhg17_1) rfl rfl (OF.move (tv (tN ((Qb a.Grid).length)) rfl)) (gF (dy fhg17_1) rfl rfl (Qlh (tv (tN a.Seals.length) rfl) (tv (tN ((Qb a.Grid).length)) rfl)) (fO (OF.pickT (VEv.tmpB rfl (dy fhg17_1)) (tv (tB (decide (a.Seals.length=(Qb a.Grid).length))) rfl)) (mO (tB (decide (a.Seals.length=(Qb a.Grid).length))) rfl ?_))))
  refine gw (a.Seals.length=(Qb a.Grid).length) (fun fhg24_2=> ?_) fun fhg24_2=> ?_
  ·refine Yi (tI a.Salt) (dy fhg24_2) rfl rfl rfl rfl QeZ rfl rfl QU ?_
   refine VRunO.chain (VWant.on rfl rfl (dy fhg24_2)) (cS (vc (tv (tI a.Salt) rfl) (vc (VEv.int .i64 1) (vc (VEv.int .i64 9999) vn))) (ZO rfl) (QW (n+40) a.Salt 1 9999) rfl rfl) (fO (OF.pickT (VEv.tmpB rfl (dy fhg24_2)) (tv (tB (decide (1≤a.Salt∧a.Salt≤9999))) rfl)) (mO (tB (decide (1≤a.Salt∧a.Salt≤9999))) rfl ?_))
   refine gw (1≤a.Salt∧a.Salt≤9999) (fun fhg29_3=> ?_) fun fhg29_3=> ?_
   ·refine Yi (rd 2 Qh a.Clues) (dy fhg29_3) rfl rfl rfl rfl Y5 rfl rfl QdQ ?_
    refine VRunO.chain (VWant.on rfl rfl (dy fhg29_3)) (cS (us:= [(rd 2 Qh a.Clues),(T.fn 109 [])]) (vc (tv (rd 2 Qh a.Clues) rfl) (vc (VEv.func 109) vn)) (lp rfl (LendL.cons (Lend.fn ln) ln)) (Zq (n+34) a.Clues (by omega)) rfl rfl) (gF (dy fhg29_3) rfl rfl (QS (tv (tB (decide (∃c∈a.Clues,noC c))) rfl)) (fO (OF.pickT (VEv.tmpB rfl (dy fhg29_3)) (tv (tB (!(decide (∃c∈a.Clues,noC c)))) rfl)) (aO (tB (!(decide (∃c∈a.Clues,noC c)))) rfl (nt (rt (vb (b':=(!(decide (∃c∈a.Clues,noC c)))) rfl ?_))))))
    (rw [dN];refine Q9 ⟨fun h=>⟨?_,?_,?_,?_,fun c hc=>Classical.byContradiction fun e=>h ⟨c,hc,e⟩⟩,fun h=> ?_⟩<;>first | assumption | (rintro ⟨c,hc,hb⟩;exact hb (h.2.2.2.2 c hc)))
   refine Qy 4 17 true 29 (dz fhg29_3) rfl rfl rfl (fO (OF.pickF (VEv.tmpB rfl (dz fhg29_3)) (VEv.bool false)) (aO (tB false) rfl (nt (rt (vb (b':=false) rfl ?_)))))
   (symm;rw [decide_eq_false_iff_not];rintro ⟨h1,h2,h3,h4,h5⟩;contradiction)
  refine Qy 3 12 true 24 (dz fhg24_2) rfl rfl rfl (fO (OF.pickF (VEv.tmpB rfl (dz fhg24_2)) (VEv.bool false)) (mO (tB false) rfl (Qy 4 17 true 29 (b:=false) rfl rfl rfl rfl (fO (OF.pickF (tv (tB false) rfl) (VEv.bool false)) (aO (tB false) rfl (nt (rt (vb (b':=false) rfl ?_))))))))
  (symm;rw [decide_eq_false_iff_not];rintro ⟨h1,h2,h3,h4,h5⟩;contradiction)
 refine Qy 5 5 true 17 (dz fhg17_1) rfl rfl rfl (fO (OF.pickF (VEv.tmpB rfl (dz fhg17_1)) (VEv.bool false)) (mO (tB false) rfl (Qy 3 12 true 24 (b:=false) rfl rfl rfl rfl (fO (OF.pickF (tv (tB false) rfl) (VEv.bool false)) (mO (tB false) rfl (Qy 4 17 true 29 (b:=false) rfl rfl rfl rfl (fO (OF.pickF (tv (tB false) rfl) (VEv.bool false)) (aO (tB false) rfl (nt (rt (vb (b':=false) rfl ?_)))))))))))
 (symm;rw [decide_eq_false_iff_not];rintro ⟨h1,h2,h3,h4,h5⟩;contradiction)
end Go.Proofs.YtcccmceoplcciaaGreat.AE
namespace Go.Proofs.YtcccmceoplcciaaGreat.AE
open Go Go.RowKit
set_option linter.unusedVariables false
set_option linter.unusedSimpArgs false
set_option maxRecDepth 20000
set_option maxHeartbeats 2000000
noncomputable section
def wrI (f w:ByteArray) (cs:List Int):Nat→List Int
 | 0=>bys f
 | i+1=>(wrI f w cs i).set (Int.toNat (cs.getD i 0)) (Qs w i)
def wrS (f w:ByteArray) (cs:List Int) (i:Nat):ByteArray:=ZP (wrI f w cs i)
theorem Qbo (f w:ByteArray) (cs:List Int):∀i,(wrI f w cs i).length=f.size
 | 0=>Qgk f
 | i+1=>by rw [wrI,List.length_set,Qbo f w cs i]
theorem QeC {f w:ByteArray} {cs:List Int} {i:Nat} {c:Int} (h:cs[i]? =some c):(wrI f w cs i).set (Int.toNat c) (Qs w i)=wrI f w cs (i+1):=by
 rw [wrI,List.getD_eq_getElem?_getD,h];rfl
theorem QhC (f w:ByteArray) (cs:List Int) (i:Nat):(wrS f w cs i).size=f.size:=by
 show (wrS f w cs i).data.size=_
 rw [← Array.length_toList]
 unfold wrS
 rw [ZR,List.length_map,Qbo]
theorem Qi4 (f:ByteArray):ZP (bys f)=f:=by
 refine Qbt ?_
 rw [ZR,bys,List.map_map]
 refine List.map_id'' (fun b=> ?_) _
 simp
theorem QmQ (f w:ByteArray) (cs:List Int):wrS f w cs 0=f:=Qi4 f
theorem QjA {f w:ByteArray} {cs:List Int} {i:Nat} {c:Int} (h:cs[i]? =some c) (h1:0≤c∧c<((f.size:Nat):Int)) (h2:i<w.size):(wrS f w cs i).extract 0 (Int.toNat c)++w.extract i (i+1)++(wrS f w cs i).extract (Int.toNat (c+1)) (wrS f w cs i).size=wrS f w cs (i+1):=by
 have hl:=Qbo f w cs i
 have hs:=QhC f w cs i
 have hc:Int.toNat c<(wrI f w cs i).length:=by omega
 have hb:Qs w i=((w.data.toList[i]'(by rw [Array.length_toList];exact h2)).toNat:Int):=by rw [← YJ h2];rfl
 refine Qbt ?_
 rw [hs]
 unfold wrS
 rw [← QeC h,ZR]
 simp only [ByteArray.data_append,Array.toList_append,ByteArray.data_extract,Array.toList_extract,ZR,List.extract_eq_take_drop]
 rw [List.set_eq_take_append_cons_drop,if_pos hc]
 simp only [List.map_append,List.map_cons,List.map_take,List.map_drop]
 rw [show i+1 - i=1 by omega,show Int.toNat (c+1)=Int.toNat c+1 by omega,List.drop_eq_getElem_cons (show i<w.data.toList.length by rw [Array.length_toList];exact h2),hb]
 rw [List.drop_zero,Nat.sub_zero,List.take_of_length_le (l:=List.drop (Int.toNat c+1) (List.map _ (wrI f w cs i))) (by rw [List.length_drop,List.length_map,hl];omega),Int.toNat_natCast,UInt8.ofNat_toNat]
 simp only [List.take_succ_cons,List.take_zero,List.append_assoc,List.cons_append,List.nil_append]
end
theorem Qcj (n:Nat) (f:ByteArray) (l:List Int) (w:ByteArray) (hf:f.size≤maxLen) (hl:l.length=w.size) (hw:w.size≤maxLen) (hin:∀c∈l,0≤c∧c<((f.size:Nat):Int)):Pure (Qq Tryz.prog (n+1)) 87 [(tS f),(rd 1 Qa l),(tS w)] (tS (wrS f w l l.length)):=by
 refine Pure.intro (rs:= [ResultVar.tmp 6]) Tryz.func87 rfl rfl rfl (E0:= [(0,(tS f)),(1,(rd 1 Qa l)),(2,(tS w))]) rfl ?_
 obtain ⟨hlim,hmx,hmax⟩:=QG
 refine sr (fO (OF.assign (VEv.str (⟨#[]⟩:ByteArray))) (nt (sr (mO (tS f) rfl (kO (B.convSB (tv (tS f) rfl) U9 QbM U5) (aO (T.os 1 0 0 (((bys f).map (QF true)).length)) rfl (nt (sq (sr (mO (rd 1 Qa l) rfl (lO (B.lenR (m:=l.length) (tv (rd 1 Qa l) rfl) Zt (List.length_map ..)) ?_)))))))))))
 refine fO (OF.move (VEv.int .i64 0)) (nt (VRun.block ?_))
 have he1:(bys f)=wrI f w l 0:=by first | rfl | exact QeC hx1 | (simp;done) | omega
 refine VRun.loop (A:=Nat) (fun s_=> [(2,(tS w)),(6,(tS (⟨#[]⟩:ByteArray))),(7,(T.os 1 0 0 (((wrI f w l s_).map (QF true)).length))),(12,(rd 1 Qa l)),(13,(tN l.length)),(14,(tN s_))]) (fun s_=>Q4 [(0,(Obj.rows 1 ((wrI f w l s_).map (QF true))))]) 1 (fun s_=>s_≤l.length) (fun s_=>l.length - s_) (0:Nat) ?_ (Wk.mk (fun k=>k) ?_ ?_ ?_) ?_
 ·first | trivial | (simp;done) | omega | (constructor<;>simp)
 ·exact (b2 (b2 (bc ⟨(congrArg (fun l_=>T.os 1 0 0 (List.map (QF true) l_).length) he1),rfl⟩ (b2 (b2 (b2 bn))))))
 ·exact (bc ⟨(congrArg (fun l_=>some (Obj.rows 1 (List.map (QF true) l_))) he1),(lb rfl),rfl⟩ bn)
 ·exact nd rfl
 rintro i (hI':i≤l.length)
 show VRun _ _ _ [(2,(tS w)),(6,(tS (⟨#[]⟩:ByteArray))),(7,(T.os 1 0 0 (((wrI f w l i).map (QF true)).length))),(12,(rd 1 Qa l)),(13,(tN l.length)),(14,(tN i))] (Q4 [(0,(Obj.rows 1 ((wrI f w l i).map (QF true))))]) 1 _
 have hwl:=Qbo f w l i
 refine sr (fO (Ze (tv (tN i) rfl) (tv (tN l.length) rfl)) (nt (sq ?_)))
 refine cd (i<l.length) rfl (fun fhc0=> ?_) fun fhc0=> ?_
 ·refine sk ?_
  refine tn (sq (VRun.block (sr (mO (tN i) rfl ?_))))
  obtain ⟨x1,hx1⟩:∃x,l[i]? =some x:=⟨_,List.getElem?_eq_getElem (by omega)⟩
  first | (have hil:=hin x1 (List.mem_of_getElem? hx1)) | skip
  refine fO (OF.indexAddrR (row:=(Qa false x1)) (i:=i) (tv (rd 1 Qa l) rfl) (tv (tN i) rfl) rfl (Qu _ hx1) Zt Za Yl) (lO (OL.loadR1 (t:=(tI x1)) (tv (T.rp [(tI x1)]) rfl) rfl QU) (aO (tN i) rfl (aO (tI x1) rfl (nt (VRun.region (mO (T.os 1 0 0 (((wrI f w l i).map (QF true)).length)) rfl (mO (tI x1) rfl (mO (tS w) rfl (mO (tN i) rfl ?_)))))))))
  have hb2:i<w.size:=(by omega)
  refine fO (JZ (tv (tS w) rfl) (tv (tN i) rfl) hb2 U9) ?_
  obtain ⟨x2,hx2⟩:∃x,(wrI f w l i)[(Int.toNat x1)]? =some x:=⟨_,List.getElem?_eq_getElem (by omega)⟩
  first | (have hil:=hin x2 (List.mem_of_getElem? hx2)) | skip
  refine fO (B.indexAddrO (i:=(Int.toNat x1)) (tv (T.os 1 0 0 (((wrI f w l i).map (QF true)).length)) rfl) (tv (tI x1) rfl) (by omega) (by first | omega | (simp only [List.length_map];omega) | (simp only [List.length_map,List.length_append,List.length_cons,List.length_nil,List.length_replicate,List.length_set,List.length_drop,List.length_take,Jn] at *;omega)) QbM sz5 if5) (cO (B.storeP (us:= [(T.int .u8 (Qs w i))]) (rows':=(((wrI f w l i).set (Int.toNat x1) (Qs w i)).map (QF true))) (row:=(QF true x2)) (tv (T.orp 1 0 (Int.toNat x1) 0) rfl) (tv (T.int .u8 (Qs w i)) rfl) nofun rfl (Qu _ hx2) rfl (lb rfl) if5 sz5 (bc rfl bn) (by intro r hr t ht;obtain ⟨x,_,rfl⟩:=List.mem_map.1 hr;rw [QhX] at ht;exact ZA (okByte.pl _ t ht)) (Zw rfl)) (VRunO.nil (vinB.n (tn (VRun.region (fO (QB (tv (tN i) rfl) (VEv.int .i64 1) (by omega)) (mO (tN (i+1)) rfl (VRunO.nil (tn ?_)))))))))
  have he3:((wrI f w l i).set (Int.toNat x1) (Qs w i))=wrI f w l (i+1):=by first | rfl | exact QeC hx1 | (simp;done) | omega
  refine ⟨(i+1:Nat),?_,?_,Wk.mk (fun k=>k) ?_ ?_ ?_⟩
  ·first | trivial | omega | (simp;done) | exact ⟨by omega,hI'.2⟩
  ·first | omega | (simp only [];omega) | (show _<_;omega) | (simp;omega)
  ·exact (b2 (b2 (bc ⟨(congrArg (fun n_=>T.os 1 0 0 n_) (show ((wrI f w l i).map (QF true)).length=((wrI f w l (i+1)).map (QF true)).length from (by first | rfl | (rw [List.length_map,List.length_map,Qbo,Qbo]) | (simp only [List.length_map];omega) | (simp only [List.length_map,List.length_set,List.length_append,List.length_take,List.length_replicate,List.length_cons,List.length_nil];omega)))),rfl⟩ (b2 (b2 (b2 bn))))))
  ·exact (bc ⟨(congrArg (fun l_=>some (Obj.rows 1 (List.map (QF true) l_))) he3),(lb rfl),rfl⟩ bn)
  ·exact nd rfl
 refine VRun.exit (vthn.e (vthn.e (vinB.e (tn (sr (mO (T.os 1 0 0 (((wrI f w l i).map (QF true)).length)) rfl (lO (B.convBS (l:=wrI f w l i) (tv (T.os 1 0 0 (((wrI f w l i).map (QF true)).length)) rfl) rfl (List.length_map ..) QbM U5 U9) (aO (tS (ZP (wrI f w l i))) rfl (nt (rt ?_))))))))))
 refine vfin.eq (r':=(tS (ZP (wrI f w l i)))) ?_ (vfin.r (VRes.tmp (t:=(tS (ZP (wrI f w l i)))) rfl VRes.nil) (Give.str _))
 show (tS (ZP (wrI f w l i)))=(tS (wrS f w l l.length))
 refine congrArg T.str ?_
 rw [show i=l.length by omega];rfl
end Go.Proofs.YtcccmceoplcciaaGreat.AE
