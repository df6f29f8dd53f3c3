/- A part of what the row of FnExactCheckSlot uses. Conditions: as each theorem states. -/
import Derived.Test.YtcccmceoplcciaaGreatZFnExactCheckSlotd
namespace Go.Proofs.YtcccmceoplcciaaGreat.AE
open Go Go.RowKit
set_option linter.unusedVariables false
set_option linter.unusedSimpArgs false
set_option maxRecDepth 20000
set_option maxHeartbeats 2000000
noncomputable section
def inS (g:D.Grid) (c:Int) (s:D.Slot):Prop:=c∈Qi g s s.Length.toNat
instance (g:D.Grid) (c:Int) (s:D.Slot):Decidable (inS g c s):=Classical.propDecidable _
def atL (g:D.Grid) (c:Int):List D.Slot→Nat→List Int
 | [],_=> []
 | s::r,n=>(if inS g c s then [((n:Nat):Int)] else [])++atL g c r (n+1)
theorem QhM (g:D.Grid) (c:Int) (s:D.Slot):∀(l:List D.Slot) (n:Nat),atL g c (l++ [s]) n=atL g c l n++(if inS g c s then [((n+l.length:Nat):Int)] else [])
 | [],n=>by simp [atL]
 | x::r,n=>by
  rw [List.cons_append,atL,atL,QhM g c s r (n+1),List.append_assoc]
  simp only [List.length_cons,show n+1+r.length=n+(r.length+1) by omega]
def Z8 (g:D.Grid) (c:Int) (i:Nat):List Int:=atL g c ((Qb g).take i) 0
theorem QcE {g:D.Grid} {c:Int} {i:Nat} {s:D.Slot} (h:(Qb g)[i]? =some s):Z8 g c (i+1)=Z8 g c i++(if inS g c s then [((i:Nat):Int)] else []):=by
 have hi:=(List.getElem?_eq_some_iff.1 h).1
 unfold Z8
 rw [List.take_add_one,h,Option.toList_some,QhM]
 simp [Nat.min_eq_left (Nat.le_of_lt hi)]
theorem Qjc (g:D.Grid) (c:Int):∀(l:List D.Slot) (n:Nat),(atL g c l n).length≤l.length
 | [],n=>by simp [atL]
 | x::r,n=>by
  have:=Qjc g c r (n+1)
  rw [atL,List.length_append,List.length_cons]
  split<;>simp only [List.length_cons,List.length_nil]<;>omega
theorem Qjo (g:D.Grid) (c:Int) (i:Nat):(Z8 g c i).length≤(Qb g).length:=by
 have:=Qjc g c ((Qb g).take i) 0
 rw [List.length_take] at this
 unfold Z8
 omega
theorem QgB {g:D.Grid} {i:Nat} {s:D.Slot} (h:(Qb g)[i]? =some s):(if s∈Qb g then Qi g s s.Length.toNat else [])=Qi g s s.Length.toNat:=if_pos (List.mem_of_getElem? h)
theorem QgQ (g:D.Grid) (s:D.Slot):(if s∈Qb g then Qi g s s.Length.toNat else []).length≤6:=by
 split
 ·rename_i h
  rw [J1]
  have:=(QaQ h).2.2.2
  omega
 ·simp
end
theorem Qby (n:Nat) (g:D.Grid) (c:Int) (hc:g.Cells.size≤maxLen):Pure (Qq Tryz.prog (n+5)) 159 [(T.agg (Qc false g)),(tI c)] (T.sl true 1 ((Z8 g c (Qb g).length).map (Qa true))):=by
 refine Pure.intro (rs:= [ResultVar.tmp 4]) Tryz.func159 rfl rfl rfl (E0:= [(0,(T.agg (Qc false g))),(1,(tI c))]) rfl ?_
 obtain ⟨hlim,hmx,hmax⟩:=QC
 have hsl:=Ze g
 refine sr (kO (B.box (ts:=(Qc false g)) (tv (T.agg (Qc false g)) rfl) nofun rfl) (fO (OF.assign VEv.nils) (nt (sr (kO (OM.slice0 Zg J3 (by kernel_rfl) rfl (by rw [Q8];decide) Q8) (aO (T.os 1 1 0 0) rfl (nt (sr (lO (OL.loadOn (us:=(Qc false g)) (tv (T.op 0 0) rfl) rfl QX QT (lb rfl) rfl) (cO (OC.callF (us:= [(T.agg (Qc false g))]) (r:=(T.sl true 4 ((Qb g).map (Qf true)))) (r':=(T.os 4 2 0 (((Qb g).map (Qf true)).length))) (objs:= [(Obj.rows 4 ((Qb g).map (Qf true)))]) rfl (vc (tv (T.agg (Qc false g)) rfl) vn) (LendL.cons (lg Qs) ln) (ZA (n+1) g (by assumption)) rfl) (aO (T.os 4 2 0 (((Qb g).map (Qf true)).length)) rfl ?_)))))))))))
 refine nt (sq (sr (fO (OF.assign (VEv.int .i64 0)) (nt (VRun.block ?_)))))
 have he1: []=((Z8 g c 0).map (Qa true)):=by rfl
 refine VRun.loop (A:=Nat) (fun s_=> [(1,(tI c)),(2,(T.op 0 0)),(4,T.nils),(5,(T.os 1 2 0 (((Z8 g c s_).map (Qa true)).length))),(6,(T.os 4 1 0 (((Qb g).map (Qf true)).length))),(7,(tN s_))]) (fun s_=>Q3 [(0,(Obj.cells (Qc false g))),(1,(Obj.rows 4 ((Qb g).map (Qf true)))),(2,(Obj.rows 1 ((Z8 g c s_).map (Qa true))))]) 3 (fun s_=>s_≤(Qb g).length) (fun s_=>(Qb g).length - s_) (0:Nat) ?_ (Wk.mk (fun k=>if k=1 then 2 else if k=2 then 1 else k) ?_ ?_ ?_) ?_
 ·(simp;done)
 ·exact (b2 (b2 (b2 (bc ⟨(congrArg (fun n_=>T.os 1 1 0 n_) (show 0=((Z8 g c 0).map (Qa true)).length from (by rfl))),rfl⟩ (b2 (b2 bn))))))
 ·exact (b3 (b3 (bc ⟨(congrArg (fun l_=>some (Obj.rows 1 l_)) he1),(lb rfl),rfl⟩ bn)))
 ·exact nd rfl
 rintro i (hI':i≤(Qb g).length)
 show VRun _ _ _ [(1,(tI c)),(2,(T.op 0 0)),(4,T.nils),(5,(T.os 1 2 0 (((Z8 g c i).map (Qa true)).length))),(6,(T.os 4 1 0 (((Qb g).map (Qf true)).length))),(7,(tN i))] (Q3 [(0,(Obj.cells (Qc false g))),(1,(Obj.rows 4 ((Qb g).map (Qf true)))),(2,(Obj.rows 1 ((Z8 g c i).map (Qa true))))]) 3 _
 have hI1:=hI'
 have hal:=Qjo g c i
 refine sq (sr (mO (tN i) rfl (mO (T.os 4 1 0 (((Qb g).map (Qf true)).length)) rfl (lO (B.lenO (m:=(Qb g).length) (tv (T.os 4 1 0 (((Qb g).map (Qf true)).length)) rfl) Z9 (List.length_map ..)) (fO (Zf (tv (tN i) rfl) (tv (tN ((Qb g).length)) rfl)) (nt ?_))))))
 refine cd (i<(Qb g).length) rfl (fun fhc0=> ?_) fun fhc0=> ?_
 ·refine sk ?_
  refine tn (sq (VRun.block (sq (VRun.draw (B:= [[],[],[],[2,1],[1,2,3],[3,2,1,4,0],[],[6,0,4,1,2,3,5]]) (by kernel_rfl) (by kernel_rfl) (lD (OL.loadOn (us:=(Qc false g)) (tv (T.op 0 0) rfl) rfl QX QT (lb rfl) rfl) rfl rfl (mD (T.os 4 1 0 (((Qb g).map (Qf true)).length)) rfl rfl (mD (tN i) rfl rfl ?_)))))))
  obtain ⟨x1,hx1⟩:∃x,(Qb g)[i]? =some x:=⟨_,List.getElem?_eq_getElem (by omega)⟩
  refine fD (B.indexAddrO (i:=i) (tv (T.os 4 1 0 (((Qb g).map (Qf true)).length)) rfl) (tv (tN i) rfl) rfl (by (simp only [List.length_map];omega)) Z9 Zk Qa7) rfl rfl (lD (OL.loadPn (us:=(Qf false x1)) (row:=(Qf true x1)) (tv (T.orp 4 1 i 0) rfl) rfl (Qv _ hx1) QcD Zk (lb rfl) rfl (bc rfl (bc rfl (bc rfl (bc rfl bn))))) rfl rfl (VRunD.quiet (bi:= [3,2,1,4,0]) rfl VWant.always rfl rfl rfl bn (OC.callF (us:= [(T.agg (Qc false g)),(T.agg (Qf false x1))]) (r:=(T.sl true 1 ((if x1∈Qb g then Qi g x1 x1.Length.toNat else []).map (Qa true)))) (r':=(T.os 1 3 0 (((if x1∈Qb g then Qi g x1 x1.Length.toNat else []).map (Qa true)).length))) (objs:= [(Obj.rows 1 ((if x1∈Qb g then Qi g x1 x1.Length.toNat else []).map (Qa true)))]) rfl (vc (tv (T.agg (Qc false g)) rfl) (vc (tv (T.agg (Qf false x1)) rfl) vn)) (LendL.cons (lg Qs) (LendL.cons (lg okeSlot) ln)) (JY (n+0) g x1 (by assumption)) rfl) (mD (tI c) rfl rfl (VRunD.quiet (bi:= [6,0,4,1,2,3,5]) rfl VWant.always rfl rfl rfl bn (cS (us:= [(rd 1 Qa (if x1∈Qb g then Qi g x1 x1.Length.toNat else [])),(tI c)]) (vc (tv (T.os 1 3 0 (((if x1∈Qb g then Qi g x1 x1.Length.toNat else []).map (Qa true)).length)) rfl) (vc (tv (tI c) rfl) vn)) (LendL.cons (Lend.os rfl rfl (okInt.fzMap _ _)) (lp rfl ln)) (QcF (n+3) (if x1∈Qb g then Qi g x1 x1.Length.toNat else []) c (by exact Nat.le_trans (QgQ g _) (by decide))) rfl rfl) (VRunD.nil (tn ?_))))))
  refine cd (c∈(if x1∈Qb g then Qi g x1 x1.Length.toNat else [])) rfl (fun fhc1=> ?_) fun fhc1=> ?_
  ·rw [QgB hx1] at fhc1
   have q1:inS g c x1:=fhc1
   refine VRun.region (mO (T.os 1 2 0 (((Z8 g c i).map (Qa true)).length)) rfl (mO (tN i) rfl (kO (OM.buildSlice (l:= [(tN i)]) (VEvp.cons (tv (tN i) rfl) VEvp.nil) rfl (by decide) (bc (nofun) bn) (bc ((bc (rfl) bn)) bn) (bc (rfl) bn) Zg J3 (by kernel_rfl) rfl (by rw [Q8];decide) Q8 (Nat.le_of_ble_eq_true rfl)) (cO (B.append (rows:=((Z8 g c i).map (Qa true))) (rows2:= [[(tN i)]]) (rows3:=((Z8 g c i++ [((i:Nat):Int)]).map (Qa true))) (VDst.own (tv (T.os 1 2 0 (((Z8 g c i).map (Qa true)).length)) rfl) rfl rfl) (VSrc.own (tv (T.os 1 4 0 1) rfl) rfl rfl Zg (bc (bc rfl bn) bn)) (by decide) Zg Q8 (by decide) J3 rfl (of_decide_eq_true (by kernel_rfl)) (by (simp only [List.length_map,List.length_append,List.length_cons,List.length_nil,List.length_replicate,List.length_set,List.length_drop,List.length_take,YW] at *;omega)) ((List.map_append (f:=Qa true) (l₁:=Z8 g c i) (l₂:= [((i:Nat):Int)])).symm)) (aO (T.os 1 5 0 (((Z8 g c i++ [((i:Nat):Int)]).map (Qa true)).length)) rfl (VRunO.nil (vinB.n (tn (VRun.region (mO (tN i) rfl (fO (QB (tv (tN i) rfl) (VEv.int .i64 1) (by omega)) ?_)))))))))))
   refine aO (tN (i+1)) rfl (VRunO.nil (tn ?_))
   have he2:(Z8 g c i++ [((i:Nat):Int)])=Z8 g c (i+1):=by rw [QcE hx1,if_pos q1]
   refine ⟨(i+1:Nat),?_,?_,Wk.mk (fun k=>if k=2 then 5 else k) ?_ ?_ ?_⟩
   ·trivial
   ·omega
   ·exact (b2 (b2 (b2 (bc ⟨(congrArg (fun l_=>T.os 1 5 0 (List.map (Qa true) l_).length) he2),rfl⟩ (b2 (b2 bn))))))
   ·exact (b3 (b3 (bc ⟨(congrArg (fun l_=>some (Obj.rows 1 (List.map (Qa true) l_))) he2),(lb rfl),rfl⟩ bn)))
   ·exact nd rfl
  rw [QgB hx1] at fhc1
  have q1:¬inS g c x1:=fhc1
  refine sk (vinB.n (tn (VRun.region (mO (tN i) rfl (fO (QB (tv (tN i) rfl) (VEv.int .i64 1) (by omega)) (aO (tN (i+1)) rfl (VRunO.nil (tn ?_))))))))
  have he3:Z8 g c i=Z8 g c (i+1):=by rw [QcE hx1,if_neg q1,List.append_nil]
  refine ⟨(i+1:Nat),?_,?_,Wk.mk (fun k=>k) ?_ ?_ ?_⟩
  ·trivial
  ·omega
  ·exact (b2 (b2 (b2 (bc ⟨(congrArg (fun l_=>T.os 1 2 0 (List.map (Qa true) l_).length) he3),rfl⟩ (b2 (b2 bn))))))
  ·exact (b3 (b3 (bc ⟨(congrArg (fun l_=>some (Obj.rows 1 (List.map (Qa true) l_))) he3),(lb rfl),rfl⟩ bn)))
  ·exact nd rfl
 refine VRun.exit (vthn.e (vthn.e (vinB.e (tn (sr (mO (T.os 1 2 0 (((Z8 g c i).map (Qa true)).length)) rfl (aO (T.os 1 2 0 (((Z8 g c i).map (Qa true)).length)) rfl (nt (rt ?_)))))))))
 refine vfin.eq (r':=(T.sl true 1 ((Z8 g c i).map (Qa true)))) ?_ (vfin.r (VRes.tmp (t:=(T.os 1 2 0 (((Z8 g c i).map (Qa true)).length))) rfl VRes.nil) (Give.os rfl rfl (okInt.cleanMap _)))
 show (T.sl true 1 ((Z8 g c i).map (Qa true)))=(T.sl true 1 ((Z8 g c (Qb g).length).map (Qa true)))
 refine congrArg (fun l_=>T.sl true 1 (List.map (Qa true) l_)) ?_
 rw [show i=(Qb g).length from by omega]
noncomputable section
theorem Qez {g:D.Grid} {i:Nat} {x:List Int} (h:(QD g)[i]? =some x):∃s,(Qb g)[i]? =some s∧x=Qi g s s.Length.toNat:=by
 unfold QD at h
 rw [List.getElem?_map] at h
 obtain ⟨s,h1,h2⟩:=Option.map_eq_some_iff.1 h
 exact ⟨s,h1,h2.symm⟩
theorem QbC {g:D.Grid} {s:D.Slot} {i:Nat} (h:(Qb g)[i]? =some s):(Qi g s s.Length.toNat).length≤6:=by
 rw [J1]
 have:=(QaQ (List.mem_of_getElem? h)).2.2.2
 omega
end
theorem Qe1 (n:Nat) (g:D.Grid) (c:Int) (hc:g.Cells.size≤maxLen):Pure (Qq Tryz.prog (n+5)) 186 [(T.agg (Qc false g)),(tI c)] (T.sl true 1 ((Z8 g c (Qb g).length).map (Qa true))):=by
 refine Pure.intro (rs:= [ResultVar.tmp 4]) Tryz.func186 rfl rfl rfl (E0:= [(0,(T.agg (Qc false g))),(1,(tI c))]) rfl ?_
 obtain ⟨hlim,hmx,hmax⟩:=QC
 have hsl:=Ze g
 have hll:=QaO g
 refine sr (kO (B.box (ts:=(Qc false g)) (tv (T.agg (Qc false g)) rfl) nofun rfl) (fO (OF.assign VEv.nils) (nt (sr (fO (OF.assign VEv.nils) (nt (sq (sr (lO (OL.loadOn (us:=(Qc false g)) (tv (T.op 0 0) rfl) rfl QX QT (lb rfl) rfl) (cO (OC.callF (us:= [(T.agg (Qc false g))]) (r:=(T.sl true 1 ((QD g).map ((YM 1 Qa) true)))) (r':=(T.os 1 1 0 (((QD g).map ((YM 1 Qa) true)).length))) (objs:= [(Obj.rows 1 ((QD g).map ((YM 1 Qa) true)))]) rfl (vc (tv (T.agg (Qc false g)) rfl) vn) (LendL.cons (lg Qs) ln) (Jm (n+0) g (by assumption)) rfl) (lO (B.lenO (m:=(QD g).length) (tv (T.os 1 1 0 (((QD g).map ((YM 1 Qa) true)).length)) rfl) Qfg (List.length_map ..)) ?_)))))))))))
 refine fO (OF.move (VEv.int .i64 0)) (nt (VRun.block (VRun.wk (Wk.freeze (sz:=1) (k:=1) (rows':=((QD g).map ((YM 1 Qa) false))) [9] (bc rfl bn) rfl rfl ((Qkr okInt).fzMap _ _)) (VRun.wk (Wk.phantom 5 1 rfl) ?_))))
 have he1: []=((Z8 g c 0).map (Qa true)):=by rfl
 refine VRun.loop (A:=Nat) (fun s_=> [(1,(tI c)),(4,T.nils),(5,(T.os 1 0 0 (((Z8 g c s_).map (Qa true)).length))),(9,(rd 1 (YM 1 Qa) (QD g))),(10,(tN ((QD g).length))),(11,(tN s_))]) (fun s_=>Q3 [(0,(Obj.rows 1 ((Z8 g c s_).map (Qa true))))]) 1 (fun s_=>s_≤(QD g).length) (fun s_=>(QD g).length - s_) (0:Nat) ?_ (Wk.mk (fun k=>if k=0 then 2 else k) ?_ ?_ ?_) ?_
 ·(simp;done)
 ·exact (b2 (b2 (bc ⟨(congrArg (fun n_=>T.os 1 2 0 n_) (show 0=((Z8 g c 0).map (Qa true)).length from (by rfl))),rfl⟩ (b2 (b2 (b2 bn))))))
 ·exact (bc ⟨(congrArg (fun l_=>some (Obj.rows 1 l_)) he1),(lb rfl),rfl⟩ bn)
 ·exact nd rfl
 rintro i (hI':i≤(QD g).length)
 show VRun _ _ _ [(1,(tI c)),(4,T.nils),(5,(T.os 1 0 0 (((Z8 g c i).map (Qa true)).length))),(9,(rd 1 (YM 1 Qa) (QD g))),(10,(tN ((QD g).length))),(11,(tN i))] (Q3 [(0,(Obj.rows 1 ((Z8 g c i).map (Qa true))))]) 1 _
 have hI1:=hI'
 have hal:=Qjo g c i
 refine sr (fO (Zf (tv (tN i) rfl) (tv (tN ((QD g).length)) rfl)) (nt (sq ?_)))
 refine cd (i<(QD g).length) rfl (fun fhc0=> ?_) fun fhc0=> ?_
 ·refine sk ?_
  refine tn (sq (VRun.block (sr (mO (tN i) rfl ?_))))
  obtain ⟨x1,hx1⟩:∃x,(QD g)[i]? =some x:=⟨_,List.getElem?_eq_getElem (by omega)⟩
  obtain ⟨y1,hy1,hq1⟩:=Qez hx1
  refine fO (OF.indexAddrR (row:=((YM 1 Qa) false x1)) (i:=i) (tv (rd 1 (YM 1 Qa) (QD g)) rfl) (tv (tN i) rfl) rfl (Qv _ hx1) Qfg QbX Qdp) (lO (OL.loadR1 (t:=(rd 1 Qa x1)) (tv (T.rp [(rd 1 Qa x1)]) rfl) rfl YY) (aO (tN i) rfl (aO (rd 1 Qa x1) rfl (nt (sr (mO (rd 1 Qa x1) rfl (mO (tI c) rfl (cO (cS (vc (tv (rd 1 Qa x1) rfl) (vc (tv (tI c) rfl) vn)) (ZJ rfl) (Yw (n+2) x1 c (by (rw [hq1];exact Nat.le_trans (QbC hy1) (by decide)))) rfl rfl) (nt ?_)))))))))
  refine cd (c∈x1) rfl (fun fhc1=> ?_) fun fhc1=> ?_
  ·have q1:inS g c y1:=by rw [inS,← hq1];exact fhc1
   refine VRun.region (mO (T.os 1 0 0 (((Z8 g c i).map (Qa true)).length)) rfl (mO (tN i) rfl (kO (OM.buildSlice (l:= [(tN i)]) (VEvp.cons (tv (tN i) rfl) VEvp.nil) rfl (by decide) (bc (nofun) bn) (bc ((bc (rfl) bn)) bn) (bc (rfl) bn) Zg J3 (by kernel_rfl) rfl (by rw [Q8];decide) Q8 (Nat.le_of_ble_eq_true rfl)) (cO (B.append (rows:=((Z8 g c i).map (Qa true))) (rows2:= [[(tN i)]]) (rows3:=((Z8 g c i++ [((i:Nat):Int)]).map (Qa true))) (VDst.own (tv (T.os 1 0 0 (((Z8 g c i).map (Qa true)).length)) rfl) rfl rfl) (VSrc.own (tv (T.os 1 1 0 1) rfl) rfl rfl Zg (bc (bc rfl bn) bn)) (by decide) Zg Q8 (by decide) J3 rfl (of_decide_eq_true (by kernel_rfl)) (by (simp only [List.length_map,List.length_append,List.length_cons,List.length_nil,List.length_replicate,List.length_set,List.length_drop,List.length_take,YW] at *;omega)) ((List.map_append (f:=Qa true) (l₁:=Z8 g c i) (l₂:= [((i:Nat):Int)])).symm)) (aO (T.os 1 2 0 (((Z8 g c i++ [((i:Nat):Int)]).map (Qa true)).length)) rfl (VRunO.nil (vinB.n (tn (VRun.region (fO (QB (tv (tN i) rfl) (VEv.int .i64 1) (by omega)) (mO (tN (i+1)) rfl ?_)))))))))))
   refine VRunO.nil (tn ?_)
   have he2:(Z8 g c i++ [((i:Nat):Int)])=Z8 g c (i+1):=by rw [QcE hy1,if_pos q1]
   refine ⟨(i+1:Nat),?_,?_,Wk.mk (fun k=>if k=0 then 2 else k) ?_ ?_ ?_⟩
   ·trivial
   ·omega
   ·exact (b2 (b2 (bc ⟨(congrArg (fun l_=>T.os 1 2 0 (List.map (Qa true) l_).length) he2),rfl⟩ (b2 (b2 (b2 bn))))))
   ·exact (bc ⟨(congrArg (fun l_=>some (Obj.rows 1 (List.map (Qa true) l_))) he2),(lb rfl),rfl⟩ bn)
   ·exact nd rfl
  have q1:¬inS g c y1:=by rw [inS,← hq1];exact fhc1
  refine sk (vinB.n (tn (VRun.region (fO (QB (tv (tN i) rfl) (VEv.int .i64 1) (by omega)) (mO (tN (i+1)) rfl (VRunO.nil (tn ?_)))))))
  have he3:Z8 g c i=Z8 g c (i+1):=by rw [QcE hy1,if_neg q1,List.append_nil]
  refine ⟨(i+1:Nat),?_,?_,Wk.mk (fun k=>k) ?_ ?_ ?_⟩
  ·trivial
  ·omega
  ·exact (b2 (b2 (bc ⟨(congrArg (fun l_=>T.os 1 0 0 (List.map (Qa true) l_).length) he3),rfl⟩ (b2 (b2 (b2 bn))))))
  ·exact (bc ⟨(congrArg (fun l_=>some (Obj.rows 1 (List.map (Qa true) l_))) he3),(lb rfl),rfl⟩ bn)
  ·exact nd rfl
 refine VRun.exit (vthn.e (vthn.e (vinB.e (tn (sr (mO (T.os 1 0 0 (((Z8 g c i).map (Qa true)).length)) rfl (aO (T.os 1 0 0 (((Z8 g c i).map (Qa true)).length)) rfl (nt (rt ?_)))))))))
 refine vfin.eq (r':=(T.sl true 1 ((Z8 g c i).map (Qa true)))) ?_ (vfin.r (VRes.tmp (t:=(T.os 1 0 0 (((Z8 g c i).map (Qa true)).length))) rfl VRes.nil) (Give.os rfl rfl (okInt.cleanMap _)))
 show (T.sl true 1 ((Z8 g c i).map (Qa true)))=(T.sl true 1 ((Z8 g c (Qb g).length).map (Qa true)))
 refine congrArg (fun l_=>T.sl true 1 (List.map (Qa true) l_)) ?_
 rw [show i=(Qb g).length from by omega]
noncomputable section
def chk (g:D.Grid) (c:Int):Prop:=(Z8 g c (Qb g).length).length=2
instance (g:D.Grid) (c:Int):Decidable (chk g c):=Classical.propDecidable _
end
theorem Qdm (n:Nat) (g:D.Grid) (c:Int) (hc:g.Cells.size≤maxLen):Pure (Qq Tryz.prog (n+6)) 183 [(T.agg (Qc false g)),(tI c)] (tB (decide (chk g c))):=by
 refine Pure.intro (rs:= [ResultVar.tmp 4]) Tryz.func183 rfl rfl rfl (E0:= [(0,(T.agg (Qc false g))),(1,(tI c))]) rfl ?_
 obtain ⟨hlim,hmx,hmax⟩:=QC
 refine sr (kO (B.box (ts:=(Qc false g)) (tv (T.agg (Qc false g)) rfl) nofun rfl) (fO (OF.assign (VEv.bool false)) (nt (sr (lO (OL.loadOn (us:=(Qc false g)) (tv (T.op 0 0) rfl) rfl QX QT (lb rfl) rfl) (mO (tI c) rfl (cO (OC.callF (us:= [(T.agg (Qc false g)),(tI c)]) (r:=(T.sl true 1 ((Z8 g c (Qb g).length).map (Qa true)))) (r':=(T.os 1 1 0 (((Z8 g c (Qb g).length).map (Qa true)).length))) (objs:= [(Obj.rows 1 ((Z8 g c (Qb g).length).map (Qa true)))]) rfl (vc (tv (T.agg (Qc false g)) rfl) (vc (tv (tI c) rfl) vn)) (LendL.cons (lg Qs) (lp rfl ln)) (Qby (n+0) g c (by assumption)) rfl) (lO (B.lenO (m:=(Z8 g c (Qb g).length).length) (tv (T.os 1 1 0 (((Z8 g c (Qb g).length).map (Qa true)).length)) rfl) Zg (List.length_map ..)) (fO (B.eql (c:=(decide ((Z8 g c (Qb g).length).length=2))) (tv (tN ((Z8 g c (Qb g).length).length)) rfl) (VEv.int .i64 2) (Zb (by omega))) (aO (tB (decide ((Z8 g c (Qb g).length).length=2))) rfl (nt ?_)))))))))))
 refine rt (vb (b':=(decide ((Z8 g c (Qb g).length).length=2))) rfl ?_)
 exact Zb Iff.rfl
theorem Qc8 (n:Nat) (g:D.Grid) (c:Int) (hc:g.Cells.size≤maxLen):Pure (Qq Tryz.prog (n+6)) 162 [(T.agg (Qc false g)),(tI c)] (tB (decide (chk g c))):=by
 refine Pure.intro (rs:= [ResultVar.tmp 4]) Tryz.func162 rfl rfl rfl (E0:= [(0,(T.agg (Qc false g))),(1,(tI c))]) rfl ?_
 obtain ⟨hlim,hmx,hmax⟩:=QC
 refine sr (kO (B.box (ts:=(Qc false g)) (tv (T.agg (Qc false g)) rfl) nofun rfl) (fO (OF.assign (VEv.bool false)) (nt (sr (lO (OL.loadOn (us:=(Qc false g)) (tv (T.op 0 0) rfl) rfl QX QT (lb rfl) rfl) (mO (tI c) rfl (cO (OC.callF (us:= [(T.agg (Qc false g)),(tI c)]) (r:=(T.sl true 1 ((Z8 g c (Qb g).length).map (Qa true)))) (r':=(T.os 1 1 0 (((Z8 g c (Qb g).length).map (Qa true)).length))) (objs:= [(Obj.rows 1 ((Z8 g c (Qb g).length).map (Qa true)))]) rfl (vc (tv (T.agg (Qc false g)) rfl) (vc (tv (tI c) rfl) vn)) (LendL.cons (lg Qs) (lp rfl ln)) (Qe1 (n+0) g c (by assumption)) rfl) (lO (B.lenO (m:=(Z8 g c (Qb g).length).length) (tv (T.os 1 1 0 (((Z8 g c (Qb g).length).map (Qa true)).length)) rfl) Zg (List.length_map ..)) (fO (B.eql (c:=(decide ((Z8 g c (Qb g).length).length=2))) (tv (tN ((Z8 g c (Qb g).length).length)) rfl) (VEv.int .i64 2) (Zb (by omega))) (aO (tB (decide ((Z8 g c (Qb g).length).length=2))) rfl (nt ?_)))))))))))
 refine rt (vb (b':=(decide ((Z8 g c (Qb g).length).length=2))) rfl ?_)
 exact Zb Iff.rfl
end Go.Proofs.YtcccmceoplcciaaGreat.AE
namespace Go.Proofs.YtcccmceoplcciaaGreat.AE
open Go Go.RowKit
set_option linter.unusedVariables false
set_option linter.unusedSimpArgs false
set_option maxRecDepth 20000
set_option maxHeartbeats 2000000
noncomputable section
def nUn (g:D.Grid) (l:List Int):Nat:=(l.filter fun c=> !decide (chk g c)).length
theorem QiN (g:D.Grid) (l:List Int):nUn g l≤l.length:=List.length_filter_le _ _
theorem Qc1 {g:D.Grid} {l:List Int} {i:Nat} {x:Int} (h:l[i]? =some x):nUn g (l.take (i+1))=nUn g (l.take i)+(if chk g x then 0 else 1):=by
 unfold nUn
 rw [List.take_add_one,h,List.filter_append,List.length_append]
 by_cases hc:chk g x<;>simp [hc]
def unG (g:D.Grid) (slot:Int):Int:=if 0≤slot then (match (Qb g)[slot.toNat]? with | some s=>((nUn g (Qi g s s.Length.toNat):Nat):Int) | none=> -1) else -1
theorem Qka {g:D.Grid} {slot:Int} (h:¬(0≤slot∧slot<(((Qb g).length:Nat):Int))):unG g slot= -1:=by
 unfold unG
 by_cases h1:0≤slot
 ·rw [if_pos h1,List.getElem?_eq_none (by omega)]
 ·rw [if_neg h1]
theorem Qkt {g:D.Grid} {slot:Int} {s:D.Slot} (h1:0≤slot) (h:(Qb g)[slot.toNat]? =some s):unG g slot=((nUn g (Qi g s s.Length.toNat):Nat):Int):=by
 unfold unG
 rw [if_pos h1,h]
theorem YX {α:Type} {l:List α} {i:Nat} (h1:i≤l.length) (h2:¬i<l.length):l.take i=l:=List.take_of_length_le (by omega)
theorem Yp {α:Type} (l:List α) (i:Nat):(l.take i).length≤i:=by rw [List.length_take];omega
end
theorem Qcu (n:Nat) (g:D.Grid) (slot:Int) (hc:g.Cells.size≤maxLen):Pure (Qq Tryz.prog (n+7)) 158 [(T.agg (Qc false g)),(tI slot)] (tI (unG g slot)):=by
 refine Pure.intro (rs:= [ResultVar.tmp 4]) Tryz.func158 rfl rfl rfl (E0:= [(0,(T.agg (Qc false g))),(1,(tI slot))]) rfl ?_
 obtain ⟨hlim,hmx,hmax⟩:=QC
 have hsl:=Ze g
 refine sr (kO (B.box (ts:=(Qc false g)) (tv (T.agg (Qc false g)) rfl) nofun rfl) (fO (OF.assign (VEv.int .i64 0)) (nt (sr (lO (OL.loadOn (us:=(Qc false g)) (tv (T.op 0 0) rfl) rfl QX QT (lb rfl) rfl) (cO (OC.callF (us:= [(T.agg (Qc false g))]) (r:=(T.sl true 4 ((Qb g).map (Qf true)))) (r':=(T.os 4 1 0 (((Qb g).map (Qf true)).length))) (objs:= [(Obj.rows 4 ((Qb g).map (Qf true)))]) rfl (vc (tv (T.agg (Qc false g)) rfl) vn) (LendL.cons (lg Qs) ln) (ZA (n+3) g (by assumption)) rfl) (aO (T.os 4 1 0 (((Qb g).map (Qf true)).length)) rfl (nt (sq (sr (mO (tI slot) rfl ?_)))))))))))
 refine mO (T.os 4 1 0 (((Qb g).map (Qf true)).length)) rfl (lO (B.lenO (m:=(Qb g).length) (tv (T.os 4 1 0 (((Qb g).map (Qf true)).length)) rfl) Z9 (List.length_map ..)) (fO (B.sub (n:=((((Qb g).length:Nat):Int) - 1)) (tv (tN ((Qb g).length)) rfl) (VEv.int .i64 1) (by (rw [Qt (by omega)];done))) (cO (cS (vc (tv (tI slot) rfl) (vc (VEv.int .i64 0) (vc (tv (tI ((((Qb g).length:Nat):Int) - 1)) rfl) vn))) (ZJ rfl) (QH (n+5) slot 0 ((((Qb g).length:Nat):Int) - 1)) rfl rfl) (fO (QW (tv (tB (decide (0≤slot∧slot≤((((Qb g).length:Nat):Int) - 1)))) rfl)) (nt ?_)))))
 refine cn (0≤slot∧slot≤((((Qb g).length:Nat):Int) - 1)) rfl (fun fhc0=> ?_) fun fhc0=> ?_
 ·refine sr ?_
  refine fO (OF.assign (VEv.int .i64 (-1))) (nt (rt (tr (vi (n':=(-1)) rfl ?_))))
  exact (Qka (by omega)).symm
 have hs0:0≤slot:=by omega
 refine sk (tn (sq (VRun.draw (B:= [[],[],[],[2,1],[1,2,3],[3,2,1,4,0],[0,4,1,2,3,5]]) (by kernel_rfl) (by kernel_rfl) (lD (OL.loadOn (us:=(Qc false g)) (tv (T.op 0 0) rfl) rfl QX QT (lb rfl) rfl) rfl rfl (mD (T.os 4 1 0 (((Qb g).map (Qf true)).length)) rfl rfl (mD (tI slot) rfl rfl ?_))))))
 obtain ⟨x1,hx1⟩:∃x,(Qb g)[(Int.toNat slot)]? =some x:=⟨_,List.getElem?_eq_getElem (by omega)⟩
 refine fD (B.indexAddrO (i:=(Int.toNat slot)) (tv (T.os 4 1 0 (((Qb g).map (Qf true)).length)) rfl) (tv (tI slot) rfl) (by omega) (by (simp only [List.length_map];omega)) Z9 Zk Qa7) rfl rfl (lD (OL.loadPn (us:=(Qf false x1)) (row:=(Qf true x1)) (tv (T.orp 4 1 (Int.toNat slot) 0) rfl) rfl (Qv _ hx1) QcD Zk (lb rfl) rfl (bc rfl (bc rfl (bc rfl (bc rfl bn))))) rfl rfl (VRunD.quiet (bi:= [3,2,1,4,0]) rfl VWant.always rfl rfl rfl bn (OC.callF (us:= [(T.agg (Qc false g)),(T.agg (Qf false x1))]) (r:=(T.sl true 1 ((if x1∈Qb g then Qi g x1 x1.Length.toNat else []).map (Qa true)))) (r':=(T.os 1 2 0 (((if x1∈Qb g then Qi g x1 x1.Length.toNat else []).map (Qa true)).length))) (objs:= [(Obj.rows 1 ((if x1∈Qb g then Qi g x1 x1.Length.toNat else []).map (Qa true)))]) rfl (vc (tv (T.agg (Qc false g)) rfl) (vc (tv (T.agg (Qf false x1)) rfl) vn)) (LendL.cons (lg Qs) (LendL.cons (lg okeSlot) ln)) (JY (n+2) g x1 (by assumption)) rfl) (fD (OF.assign (tv (T.os 1 2 0 (((if x1∈Qb g then Qi g x1 x1.Length.toNat else []).map (Qa true)).length)) rfl)) rfl rfl (VRunD.nil (tn (sr (fO (OF.assign (VEv.int .i64 0)) (nt (sq (sr (fO (OF.assign (VEv.int .i64 0)) ?_)))))))))))
 refine nt (VRun.block ?_)
 refine VRun.loop (A:=Nat×Nat) (fun s_=> [(2,(T.op 0 0)),(4,(tN 0)),(6,(T.os 1 1 0 (((if x1∈Qb g then Qi g x1 x1.Length.toNat else []).map (Qa true)).length))),(7,(tN s_.2)),(8,(tN s_.1))]) (fun s_=>Q3 [(0,(Obj.cells (Qc false g))),(1,(Obj.rows 1 ((if x1∈Qb g then Qi g x1 x1.Length.toNat else []).map (Qa true))))]) 2 (fun s_=>s_.1≤(if x1∈Qb g then Qi g x1 x1.Length.toNat else []).length∧s_.2=nUn g ((if x1∈Qb g then Qi g x1 x1.Length.toNat else []).take s_.1)) (fun s_=>(if x1∈Qb g then Qi g x1 x1.Length.toNat else []).length - s_.1) ((0,0):Nat×Nat) ?_ (Wk.mk (fun k=>if k=1 then 2 else k) ?_ ?_ ?_) ?_
 ·exact ⟨Nat.zero_le _,rfl⟩
 ·exact (b2 (b2 (b2 (b2 (b2 bn)))))
 ·exact (b3 (b3 bn))
 ·exact nd rfl
 rintro ⟨i,m⟩ (hI':i≤(if x1∈Qb g then Qi g x1 x1.Length.toNat else []).length∧m=nUn g ((if x1∈Qb g then Qi g x1 x1.Length.toNat else []).take i))
 show VRun _ _ _ [(2,(T.op 0 0)),(4,(tN 0)),(6,(T.os 1 1 0 (((if x1∈Qb g then Qi g x1 x1.Length.toNat else []).map (Qa true)).length))),(7,(tN m)),(8,(tN i))] (Q3 [(0,(Obj.cells (Qc false g))),(1,(Obj.rows 1 ((if x1∈Qb g then Qi g x1 x1.Length.toNat else []).map (Qa true))))]) 2 _
 have hI1:=hI'.1
 have hl6:=QgQ g x1
 have hn6:=QiN g ((if x1∈Qb g then Qi g x1 x1.Length.toNat else []).take i)
 have ht6:=Yp (if x1∈Qb g then Qi g x1 x1.Length.toNat else []) i
 have hI2:=hI'.2
 refine sq (sr (mO (tN i) rfl (mO (T.os 1 1 0 (((if x1∈Qb g then Qi g x1 x1.Length.toNat else []).map (Qa true)).length)) rfl (lO (B.lenO (m:=(if x1∈Qb g then Qi g x1 x1.Length.toNat else []).length) (tv (T.os 1 1 0 (((if x1∈Qb g then Qi g x1 x1.Length.toNat else []).map (Qa true)).length)) rfl) Zg (List.length_map ..)) (fO (Zf (tv (tN i) rfl) (tv (tN ((if x1∈Qb g then Qi g x1 x1.Length.toNat else []).length)) rfl)) (nt ?_))))))
 refine cd (i<(if x1∈Qb g then Qi g x1 x1.Length.toNat else []).length) rfl (fun fhc1=> ?_) fun fhc1=> ?_
 ·refine sk ?_
  refine tn (sq (VRun.block (sq (VRun.draw (B:= [[],[],[],[2,1],[1,2,3],[3,2,1,4,0],[0,4,1,2,3,5]]) (by kernel_rfl) (by kernel_rfl) (lD (OL.loadOn (us:=(Qc false g)) (tv (T.op 0 0) rfl) rfl QX QT (lb rfl) rfl) rfl rfl (mD (T.os 1 1 0 (((if x1∈Qb g then Qi g x1 x1.Length.toNat else []).map (Qa true)).length)) rfl rfl (mD (tN i) rfl rfl ?_)))))))
  obtain ⟨x2,hx2⟩:∃x,(if x1∈Qb g then Qi g x1 x1.Length.toNat else [])[i]? =some x:=⟨_,List.getElem?_eq_getElem (by omega)⟩
  refine fD (B.indexAddrO (i:=i) (tv (T.os 1 1 0 (((if x1∈Qb g then Qi g x1 x1.Length.toNat else []).map (Qa true)).length)) rfl) (tv (tN i) rfl) rfl (by (simp only [List.length_map];omega)) Zg Q8 Yk) rfl rfl (lD (OL.loadP1 (t:=(tI x2)) (row:=(Qa true x2)) (tv (T.orp 1 1 i 0) rfl) rfl (Qv _ hx2) rfl rfl QU) rfl rfl (VRunD.quiet (bi:= [3,2,1,4,0]) rfl VWant.always rfl rfl rfl bn (cS (vc (tv (T.agg (Qc false g)) rfl) (vc (tv (tI x2) rfl) vn)) (LendL.cons (lg Qs) (lp rfl ln)) (Qdm (n+0) g x2 (by assumption)) rfl rfl) (fD (QW (tv (tB (decide (chk g x2))) rfl)) rfl rfl (VRunD.nil (tn ?_)))))
  refine cn (chk g x2) rfl (fun fhc2=> ?_) fun fhc2=> ?_
  ·refine VRun.region ?_
   refine mO (tN m) rfl (fO (QB (tv (tN m) rfl) (VEv.int .i64 1) (by omega)) (aO (tN (m+1)) rfl (VRunO.nil (vinB.n (tn (VRun.region (mO (tN i) rfl (fO (QB (tv (tN i) rfl) (VEv.int .i64 1) (by omega)) (aO (tN (i+1)) rfl (VRunO.nil (tn ?_)))))))))))
   refine ⟨((i+1,m+(if chk g x2 then 0 else 1)):Nat×Nat),?_,?_,Wk.mk (fun k=>k) ?_ ?_ ?_⟩
   ·exact ⟨by omega,by rw [Qc1 hx2,← hI2]⟩
   ·omega
   ·exact (b2 (b2 (b2 (bc ⟨(congrArg (T.int .i64) (show (((m+1):Nat):Int)=(((m+(if chk g x2 then 0 else 1)):Nat):Int) from (by (rw [if_neg fhc2];done)))),rfl⟩ (b2 bn)))))
   ·exact (b3 (b3 bn))
   ·exact nd rfl
  refine sk (vinB.n (tn (VRun.region (mO (tN i) rfl (fO (QB (tv (tN i) rfl) (VEv.int .i64 1) (by omega)) (aO (tN (i+1)) rfl (VRunO.nil (tn ?_))))))))
  refine ⟨((i+1,m+(if chk g x2 then 0 else 1)):Nat×Nat),?_,?_,Wk.mk (fun k=>k) ?_ ?_ ?_⟩
  ·exact ⟨by omega,by rw [Qc1 hx2,← hI2]⟩
  ·omega
  ·exact (b2 (b2 (b2 (bc ⟨(congrArg (T.int .i64) (show ((m:Nat):Int)=(((m+(if chk g x2 then 0 else 1)):Nat):Int) from (by (rw [if_pos fhc2];omega)))),rfl⟩ (b2 bn)))))
  ·exact (b3 (b3 bn))
  ·exact nd rfl
 refine VRun.exit (vthn.e (vthn.e (vinB.e (tn (sr (mO (tN m) rfl (aO (tN m) rfl (nt (rt (vi (n':=((m:Nat):Int)) rfl ?_))))))))))
 rw [Qkt hs0 hx1,hI2,YX hI1 fhc1,QgB hx1]
theorem Qcd (n:Nat) (g:D.Grid) (slot:Int) (hc:g.Cells.size≤maxLen):Pure (Qq Tryz.prog (n+7)) 138 [(T.agg (Qc false g)),(tI slot)] (tI (unG g slot)):=by
 refine Pure.intro (rs:= [ResultVar.tmp 4]) Tryz.func138 rfl rfl rfl (E0:= [(0,(T.agg (Qc false g))),(1,(tI slot))]) rfl ?_
 obtain ⟨hlim,hmx,hmax⟩:=QC
 have hsl:=Ze g
 have hll:=QaO g
 refine sr (kO (B.box (ts:=(Qc false g)) (tv (T.agg (Qc false g)) rfl) nofun rfl) (fO (OF.assign (VEv.int .i64 0)) (nt (sr (lO (OL.loadOn (us:=(Qc false g)) (tv (T.op 0 0) rfl) rfl QX QT (lb rfl) rfl) (cO (OC.callF (us:= [(T.agg (Qc false g))]) (r:=(T.sl true 1 ((QD g).map ((YM 1 Qa) true)))) (r':=(T.os 1 1 0 (((QD g).map ((YM 1 Qa) true)).length))) (objs:= [(Obj.rows 1 ((QD g).map ((YM 1 Qa) true)))]) rfl (vc (tv (T.agg (Qc false g)) rfl) vn) (LendL.cons (lg Qs) ln) (Jm (n+2) g (by assumption)) rfl) (aO (T.os 1 1 0 (((QD g).map ((YM 1 Qa) true)).length)) rfl (nt (sq (sr (mO (tI slot) rfl ?_)))))))))))
 refine mO (T.os 1 1 0 (((QD g).map ((YM 1 Qa) true)).length)) rfl (lO (B.lenO (m:=(QD g).length) (tv (T.os 1 1 0 (((QD g).map ((YM 1 Qa) true)).length)) rfl) Qfg (List.length_map ..)) (cO (cS (vc (tv (tI slot) rfl) (vc (tv (tN ((QD g).length)) rfl) vn)) (ZJ rfl) (YB (n+5) slot (((QD g).length:Nat):Int)) rfl rfl) (fO (QW (tv (tB (decide (0≤slot∧slot<(((QD g).length:Nat):Int)))) rfl)) (nt ?_))))
 refine cn (0≤slot∧slot<(((QD g).length:Nat):Int)) rfl (fun fhc0=> ?_) fun fhc0=> ?_
 ·refine sr ?_
  refine fO (OF.assign (VEv.int .i64 (-1))) (nt (rt (tr (vi (n':=(-1)) rfl ?_))))
  exact (Qka (by omega)).symm
 refine sk (tn (sr (fO (OF.assign (VEv.int .i64 0)) (nt (sq (VRun.wk (Wk.freeze (sz:=1) (k:=1) (rows':=((QD g).map ((YM 1 Qa) false))) [5,10,12] (bc rfl (bc rfl (bc rfl bn))) rfl rfl ((Qkr okInt).fzMap _ _)) ?_))))))
 have hs0:0≤slot:=by omega
 refine sr (mO (rd 1 (YM 1 Qa) (QD g)) rfl (mO (tI slot) rfl ?_))
 obtain ⟨x1,hx1⟩:∃x,(QD g)[(Int.toNat slot)]? =some x:=⟨_,List.getElem?_eq_getElem (by omega)⟩
 obtain ⟨y1,hy1,hq1⟩:=Qez hx1
 refine fO (OF.indexAddrR (row:=((YM 1 Qa) false x1)) (i:=(Int.toNat slot)) (tv (rd 1 (YM 1 Qa) (QD g)) rfl) (tv (tI slot) rfl) (by omega) (Qv _ hx1) Qfg QbX Qdp) (lO (OL.loadR1 (t:=(rd 1 Qa x1)) (tv (T.rp [(rd 1 Qa x1)]) rfl) rfl YY) (lO (B.lenR (m:=x1.length) (tv (rd 1 Qa x1) rfl) Zg (List.length_map ..)) (fO (OF.move (VEv.int .i64 0)) (nt (VRun.block ?_)))))
 refine VRun.loop (A:=Nat×Nat) (fun s_=> [(2,(T.op 0 0)),(4,(tN 0)),(6,(tN s_.2)),(19,(rd 1 Qa x1)),(20,(tN x1.length)),(21,(tN s_.1))]) (fun s_=>Q3 [(0,(Obj.cells (Qc false g)))]) 1 (fun s_=>s_.1≤x1.length∧s_.2=nUn g (x1.take s_.1)) (fun s_=>x1.length - s_.1) ((0,0):Nat×Nat) ?_ (Wk.mk (fun k=>k) ?_ ?_ ?_) ?_
 ·exact ⟨Nat.zero_le _,rfl⟩
 ·exact (b2 (b2 (b2 (b2 (b2 (b2 bn))))))
 ·exact (b3 bn)
 ·exact nd rfl
 rintro ⟨i,m⟩ (hI':i≤x1.length∧m=nUn g (x1.take i))
 show VRun _ _ _ [(2,(T.op 0 0)),(4,(tN 0)),(6,(tN m)),(19,(rd 1 Qa x1)),(20,(tN x1.length)),(21,(tN i))] (Q3 [(0,(Obj.cells (Qc false g)))]) 1 _
 have hI1:=hI'.1
 have hl6:=QbC hy1
 rw [← hq1] at hl6
 have hn6:=QiN g (x1.take i)
 have ht6:=Yp x1 i
 have hI2:=hI'.2
 refine sr (fO (Zf (tv (tN i) rfl) (tv (tN x1.length) rfl)) (nt (sq ?_)))
 refine cd (i<x1.length) rfl (fun fhc1=> ?_) fun fhc1=> ?_
 ·refine sk ?_
  refine tn (sq (VRun.block (sr ?_)))
  obtain ⟨x2,hx2⟩:∃x,x1[i]? =some x:=⟨_,List.getElem?_eq_getElem (by omega)⟩
  skip
  refine fO (OF.indexAddrR (row:=(Qa false x2)) (i:=i) (tv (rd 1 Qa x1) rfl) (tv (tN i) rfl) rfl (Qv _ hx2) Zg Q8 Yk) (lO (OL.loadR1 (t:=(tI x2)) (tv (T.rp [(tI x2)]) rfl) rfl QU) (aO (tI x2) rfl (nt (sr (lO (OL.loadOn (us:=(Qc false g)) (tv (T.op 0 0) rfl) rfl QX QT (lb rfl) rfl) (mO (tI x2) rfl (cO (cS (vc (tv (T.agg (Qc false g)) rfl) (vc (tv (tI x2) rfl) vn)) (LendL.cons (lg Qs) (lp rfl ln)) (Qc8 (n+0) g x2 (by assumption)) rfl rfl) (fO (QW (tv (tB (decide (chk g x2))) rfl)) (nt ?_)))))))))
  refine cn (chk g x2) rfl (fun fhc2=> ?_) fun fhc2=> ?_
  ·refine VRun.region ?_
   refine mO (tN m) rfl (fO (QB (tv (tN m) rfl) (VEv.int .i64 1) (by omega)) (aO (tN (m+1)) rfl (VRunO.nil (vinB.n (tn (VRun.region (fO (QB (tv (tN i) rfl) (VEv.int .i64 1) (by omega)) (mO (tN (i+1)) rfl (VRunO.nil (tn ?_))))))))))
   refine ⟨((i+1,m+(if chk g x2 then 0 else 1)):Nat×Nat),?_,?_,Wk.mk (fun k=>k) ?_ ?_ ?_⟩
   ·exact ⟨by omega,by rw [Qc1 hx2,← hI2]⟩
   ·omega
   ·exact (b2 (b2 (bc ⟨(congrArg (T.int .i64) (show (((m+1):Nat):Int)=(((m+(if chk g x2 then 0 else 1)):Nat):Int) from (by (rw [if_neg fhc2];done)))),rfl⟩ (b2 (b2 (b2 bn))))))
   ·exact (b3 bn)
   ·exact nd rfl
  refine sk (vinB.n (tn (VRun.region (fO (QB (tv (tN i) rfl) (VEv.int .i64 1) (by omega)) (mO (tN (i+1)) rfl (VRunO.nil (tn ?_)))))))
  refine ⟨((i+1,m+(if chk g x2 then 0 else 1)):Nat×Nat),?_,?_,Wk.mk (fun k=>k) ?_ ?_ ?_⟩
  ·exact ⟨by omega,by rw [Qc1 hx2,← hI2]⟩
  ·omega
  ·exact (b2 (b2 (bc ⟨(congrArg (T.int .i64) (show ((m:Nat):Int)=(((m+(if chk g x2 then 0 else 1)):Nat):Int) from (by (rw [if_pos fhc2];omega)))),rfl⟩ (b2 (b2 (b2 bn))))))
  ·exact (b3 bn)
  ·exact nd rfl
 refine VRun.exit (vthn.e (vthn.e (vinB.e (tn (sr (mO (tN m) rfl (aO (tN m) rfl (nt (rt (vi (n':=((m:Nat):Int)) rfl ?_))))))))))
 rw [Qkt hs0 hy1,hI2,YX hI1 fhc1,hq1]
end Go.Proofs.YtcccmceoplcciaaGreat.AE
namespace Go.Proofs.YtcccmceoplcciaaGreat.AE
open Go Go.RowKit
set_option linter.unusedVariables false
set_option linter.unusedSimpArgs false
set_option maxRecDepth 20000
set_option maxHeartbeats 2000000
noncomputable section
def Qeh (g:D.Grid) (i:Nat) (s:D.Slot):Prop:=s.Length<2*unG g ((i:Nat):Int)
def Qjp (g:D.Grid) (c:Int):Prop:=∃s∈Qb g,inS g c s
def QaF (g:D.Grid) (c:Nat):Prop:=Qu g.Cells c=46∧¬Qjp g ((c:Nat):Int)
def Qbk (g:D.Grid):Prop:=(∃i s,(Qb g)[i]? =some s∧Qeh g i s)∨∃c,c<g.Cells.size∧gridOk g∧QaF g c
instance (g:D.Grid):Decidable (Qbk g):=Classical.propDecidable _
theorem Qjk (g:D.Grid) (c:Int):∀(l:List D.Slot) (n:Nat),(atL g c l n).length=0↔¬∃s∈l,inS g c s
 | [],n=>by simp [atL]
 | x::r,n=>by
  have:=Qjk g c r (n+1)
  rw [atL,List.length_append]
  by_cases h:inS g c x
  ·rw [if_pos h];simp [h]
  ·rw [if_neg h,List.length_nil,Nat.zero_add,this];simp [h]
theorem atG_none {g:D.Grid} {c:Int}:(Z8 g c (Qb g).length).length=0↔¬Qjp g c:=by
 unfold Z8
 rw [List.take_length]
 exact Qjk g c _ _
theorem QkR (g:D.Grid) (i:Int): -1≤unG g i∧unG g i≤6:=by
 unfold unG
 split
 ·split
  ·rename_i s hs
   have h1:=QiN g (Qi g s s.Length.toNat)
   have h2:=QbC hs
   omega
  ·omega
 ·omega
def NoBad (g:D.Grid) (i:Nat):Prop:=i≤(Qb g).length∧∀j s,j<i→(Qb g)[j]? =some s→¬Qeh g j s
theorem NoBad.start (g:D.Grid):NoBad g 0:=⟨Nat.zero_le _,fun j s hj=>by omega⟩
theorem NoBad.next {g:D.Grid} {i:Nat} {s:D.Slot} (h:NoBad g i) (hx:(Qb g)[i]? =some s) (hn:¬Qeh g i s):NoBad g (i+1):=by
 have:=(List.getElem?_eq_some_iff.1 hx).1
 refine ⟨by omega,fun j y hj hy=> ?_⟩
 rcases Nat.lt_or_ge j i with h1 | h1
 ·exact h.2 j y h1 hy
 ·obtain rfl:j=i:=by omega
  rw [hx] at hy
  exact Option.some.inj hy▸hn
theorem Qlw {g:D.Grid} {i:Nat} (h:NoBad g i) (hi:¬i<(Qb g).length) (h2:∀c,c<g.Cells.size→¬(gridOk g∧QaF g c)):¬Qbk g:=by
 rintro (⟨j,s,h3,h4⟩ | ⟨c,h3,h4⟩)
 ·have:=(List.getElem?_eq_some_iff.1 h3).1
  exact h.2 j s (by omega) h3 h4
 ·exact h2 c h3 h4
def mapOf (m:List (Int×Int)) (p:Int→Prop):Prop:=∀c,(p c→Qbe m c=1)∧(¬p c→Qbe m c=0)
def QfE (g:D.Grid) (i:Nat) (c:Int):Prop:=∃x∈(QD g).take i,c∈x
theorem QjZ (g:D.Grid) (c:Int):¬QfE g 0 c:=by rintro ⟨x,hx,_⟩;simp at hx
theorem QjG {g:D.Grid} {i:Nat} {x:List Int} (h:(QD g)[i]? =some x) (c:Int):QfE g (i+1) c↔QfE g i c∨c∈x:=by
 unfold QfE
 rw [List.take_add_one,h]
 constructor
 ·rintro ⟨y,hy,hc⟩
  rcases List.mem_append.1 hy with hy | hy
  ·exact .inl ⟨y,hy,hc⟩
  ·obtain rfl:=List.mem_singleton.1 hy
   exact .inr hc
 ·rintro (⟨y,hy,hc⟩ | hc)
  ·exact ⟨y,List.mem_append_left _ hy,hc⟩
  ·exact ⟨x,List.mem_append_right _ (by simp),hc⟩
theorem QcU {g:D.Grid} {i:Nat} (h:¬i<(QD g).length) (c:Int):QfE g i c↔Qjp g c:=by
 unfold QfE Qjp
 rw [List.take_of_length_le (by omega)]
 unfold QD inS
 constructor
 ·rintro ⟨x,hx,hc⟩
  obtain ⟨s,hs,rfl⟩:=List.mem_map.1 hx
  exact ⟨s,hs,hc⟩
 ·rintro ⟨s,hs,hc⟩
  exact ⟨_,List.mem_map.2 ⟨s,hs,rfl⟩,hc⟩
theorem mapOf.congr {m:List (Int×Int)} {p q:Int→Prop} (h:mapOf m p) (e:∀c,p c↔q c):mapOf m q:=fun c=>by rw [← e c];exact h c
theorem mapOf.put {m:List (Int×Int)} {p:Int→Prop} {n:Int} (h:mapOf m p):mapOf (QbV m n 1) (fun c=>p c∨c=n):=fun c=>by
 rw [QhU]
 by_cases e:c=n
 ·rw [if_pos e];exact ⟨fun _=>rfl,fun h2=>absurd (.inr e) h2⟩
 ·rw [if_neg e]
  exact ⟨fun h2=>(h c).1 (h2.resolve_right e),fun h2=>(h c).2 fun h3=>h2 (.inl h3)⟩
theorem Qfw {l:List Int} {i:Nat} {x:Int} (h:l[i]? =some x) (c:Int):c∈l.take (i+1)↔c∈l.take i∨c=x:=by
 rw [List.take_add_one,h]
 simp
def Qbm (f:ByteArray) (c:Nat):Prop:=¬(97≤Qu f c∧Qu f c≤122)
def Qgn (g:D.Grid) (f:ByteArray):Prop:=∃c,c<g.Cells.size∧QaF g c∧Qbm f c
instance (g:D.Grid) (f:ByteArray):Decidable (Qgn g f):=Classical.propDecidable _
end
theorem Qee (n:Nat) (g:D.Grid) (hc:g.Cells.size≤maxLen):Pure (Qq Tryz.prog (n+8)) 135 [(T.agg (Qc false g))] (tB (decide (Qbk g))):=by
 refine Pure.intro (rs:= [ResultVar.tmp 2]) Tryz.func135 rfl rfl rfl (E0:= [(0,(T.agg (Qc false g)))]) rfl ?_
 obtain ⟨hlim,hmx,hmax⟩:=QC
 have hsl:=Ze g
 refine sr (kO (B.box (ts:=(Qc false g)) (tv (T.agg (Qc false g)) rfl) nofun rfl) (fO (OF.assign (VEv.bool false)) (nt (sr (lO (OL.loadOn (us:=(Qc false g)) (tv (T.op 0 0) rfl) rfl QX QT (lb rfl) rfl) (cO (OC.callF (us:= [(T.agg (Qc false g))]) (r:=(T.sl true 4 ((Qb g).map (Qf true)))) (r':=(T.os 4 1 0 (((Qb g).map (Qf true)).length))) (objs:= [(Obj.rows 4 ((Qb g).map (Qf true)))]) rfl (vc (tv (T.agg (Qc false g)) rfl) vn) (LendL.cons (lg Qs) ln) (ZA (n+4) g (by assumption)) rfl) (aO (T.os 4 1 0 (((Qb g).map (Qf true)).length)) rfl (nt (sq (sr (fO (OF.assign (VEv.int .i64 0)) ?_)))))))))))
 refine nt (VRun.block ?_)
 refine VRun.loop (A:=Nat) (fun s_=> [(1,(T.op 0 0)),(3,(T.os 4 1 0 (((Qb g).map (Qf true)).length))),(4,(tN s_))]) (fun s_=>Q3 [(0,(Obj.cells (Qc false g))),(1,(Obj.rows 4 ((Qb g).map (Qf true))))]) 2 (fun s_=>NoBad g s_) (fun s_=>(Qb g).length - s_) (0:Nat) ?_ (Wk.mk (fun k=>k) ?_ ?_ ?_) ?_
 ·exact NoBad.start _
 ·exact (b2 (b2 (b2 bn)))
 ·exact (b3 (b3 bn))
 ·exact nd rfl
 rintro i (hI':NoBad g i)
 show VRun _ _ _ [(1,(T.op 0 0)),(3,(T.os 4 1 0 (((Qb g).map (Qf true)).length))),(4,(tN i))] (Q3 [(0,(Obj.cells (Qc false g))),(1,(Obj.rows 4 ((Qb g).map (Qf true))))]) 2 _
 have hI1:=hI'.1
 have hNB:=hI'
 have hub:=QkR g ((i:Nat):Int)
 refine sq (sr (mO (tN i) rfl (mO (T.os 4 1 0 (((Qb g).map (Qf true)).length)) rfl (lO (B.lenO (m:=(Qb g).length) (tv (T.os 4 1 0 (((Qb g).map (Qf true)).length)) rfl) Z9 (List.length_map ..)) (fO (Zf (tv (tN i) rfl) (tv (tN ((Qb g).length)) rfl)) (nt ?_))))))
 refine cd (i<(Qb g).length) rfl (fun fhc0=> ?_) fun fhc0=> ?_
 ·refine sk ?_
  refine tn (sq (VRun.block (sq (VRun.draw (B:= [[],[],[1,0],[0,1,2],[],[],[5,4],[4,5,6],[6,5,4,7],[7,4,5,6,8,2,1,0,3]]) (by kernel_rfl) (by kernel_rfl) (lD (OL.loadOn (us:=(Qc false g)) (tv (T.op 0 0) rfl) rfl QX QT (lb rfl) rfl) rfl rfl (mD (tN i) rfl rfl (VRunD.quiet (bi:= [1,0]) rfl VWant.always rfl rfl rfl bn (cS (vc (tv (T.agg (Qc false g)) rfl) (vc (tv (tN i) rfl) vn)) (LendL.cons (lg Qs) (lp rfl ln)) (Qcu (n+0) g ((i:Nat):Int) (by assumption)) rfl rfl) (fD (B.mul (n:=(2*unG g ((i:Nat):Int))) (VEv.int .i64 2) (tv (tI (unG g ((i:Nat):Int))) rfl) (by (rw [Qt (by omega)];done))) rfl rfl (mD (T.os 4 1 0 (((Qb g).map (Qf true)).length)) rfl rfl (mD (tN i) rfl rfl ?_))))))))))
  obtain ⟨x1,hx1⟩:∃x,(Qb g)[i]? =some x:=⟨_,List.getElem?_eq_getElem (by omega)⟩
  refine fD (B.indexAddrO (i:=i) (tv (T.os 4 1 0 (((Qb g).map (Qf true)).length)) rfl) (tv (tN i) rfl) rfl (by (simp only [List.length_map];omega)) Z9 Zk Qa7) rfl rfl (fD (OF.fieldAddrP (tv (T.orp 4 1 i 0) rfl) QaV) rfl rfl (lD (OL.loadP1 (t:=(tI x1.Length)) (row:=(Qf true x1)) (tv (T.orp 4 1 i 3) rfl) rfl (Qv _ hx1) rfl rfl QU) rfl rfl (fD (xgt (tv (tI (2*unG g ((i:Nat):Int))) rfl) (tv (tI x1.Length) rfl)) rfl rfl (VRunD.nil (tn ?_)))))
  refine cd (x1.Length<(2*unG g ((i:Nat):Int))) rfl (fun fhc1=> ?_) fun fhc1=> ?_
  ·have q1:Qeh g i x1:=by unfold Qeh;omega
   refine sr (fO (OF.assign (VEv.bool true)) (nt (rt (vinB.r (tr (tr (vinB.r (tr (vb (b':=true) rfl ?_)))))))))
   symm;rw [decide_eq_true_eq];exact .inl ⟨i,x1,hx1,q1⟩
  have q1:¬Qeh g i x1:=by unfold Qeh;omega
  refine sk (vinB.n (tn (VRun.region (mO (tN i) rfl (fO (QB (tv (tN i) rfl) (VEv.int .i64 1) (by omega)) (aO (tN (i+1)) rfl (VRunO.nil (tn ?_))))))))
  refine ⟨(i+1:Nat),?_,?_,Wk.mk (fun k=>k) ?_ ?_ ?_⟩
  ·exact hI'.next hx1 q1
  ·omega
  ·exact (b2 (b2 (b2 bn)))
  ·exact (b3 (b3 bn))
  ·exact nd rfl
 refine VRun.exit (vthn.e (vthn.e (vinB.e (tn (sq (sr (fO (OF.assign (VEv.int .i64 0)) (nt (VRun.block ?_)))))))))
 refine VRun.loop (A:=Nat) (fun s_=> [(1,(T.op 0 0)),(5,(tN s_))]) (fun s_=>Q3 [(0,(Obj.cells (Qc false g)))]) 1 (fun s_=>s_≤g.Cells.size∧∀c,c<s_→¬(gridOk g∧QaF g c)) (fun s_=>g.Cells.size - s_) (0:Nat) ?_ (Wk.mk (fun k=>k) ?_ ?_ ?_) ?_
 ·exact ⟨Nat.zero_le _,fun c hc=>by omega⟩
 ·exact (b2 (b2 bn))
 ·exact (b3 bn)
 ·exact nd rfl
 rintro k (hI':k≤g.Cells.size∧∀c,c<k→¬(gridOk g∧QaF g c))
 show VRun _ _ _ [(1,(T.op 0 0)),(5,(tN k))] (Q3 [(0,(Obj.cells (Qc false g)))]) 1 _
 have hJ1:=hI'.1
 refine sq (sr (mO (tN k) rfl (lf (tS g.Cells) rfl QE rfl rfl Z7 (lO (B.lenS (tv (tS g.Cells) rfl) U9) (fO (Zf (tv (tN k) rfl) (tv (tN g.Cells.size) rfl)) (nt ?_))))))
 refine cd (k<g.Cells.size) rfl (fun fhc2=> ?_) fun fhc2=> ?_
 ·refine sk ?_
  refine tn (sq (VRun.block (sr (lO (OL.loadOn (us:=(Qc false g)) (tv (T.op 0 0) rfl) rfl QX QT (lb rfl) rfl) (mO (tN k) rfl (cO (cS (vc (tv (T.agg (Qc false g)) rfl) (vc (tv (tN k) rfl) vn)) (LendL.cons (lg Qs) (lp rfl ln)) (Qbr (n+4) g ((k:Nat):Int) (by assumption)) rfl rfl) (mO (tB (decide (gridOk g∧(0≤((k:Nat):Int)∧((k:Nat):Int)≤((g.Cells.size:Nat):Int) - 1)∧Qu g.Cells (Int.toNat ((k:Nat):Int))=46))) rfl ?_)))))))
  refine gw (gridOk g∧(0≤((k:Nat):Int)∧((k:Nat):Int)≤((g.Cells.size:Nat):Int) - 1)∧Qu g.Cells (Int.toNat ((k:Nat):Int))=46) (fun fhg34_1=> ?_) fun fhg34_1=> ?_
  ·refine gL (dy fhg34_1) rfl rfl (OL.loadOn (us:=(Qc false g)) (tv (T.op 0 0) rfl) rfl QX QT (lb rfl) rfl) ?_
   refine gF (dy fhg34_1) rfl rfl (OF.move (tv (tN k) rfl)) (VRunO.chain (VWant.on rfl rfl (dy fhg34_1)) (OC.callF (us:= [(T.agg (Qc false g)),(tN k)]) (r:=(T.sl true 1 ((Z8 g ((k:Nat):Int) (Qb g).length).map (Qa true)))) (r':=(T.os 1 1 0 (((Z8 g ((k:Nat):Int) (Qb g).length).map (Qa true)).length))) (objs:= [(Obj.rows 1 ((Z8 g ((k:Nat):Int) (Qb g).length).map (Qa true)))]) rfl (vc (tv (T.agg (Qc false g)) rfl) (vc (tv (tN k) rfl) vn)) (LendL.cons (lg Qs) (lp rfl ln)) (Qby (n+2) g ((k:Nat):Int) (by assumption)) rfl) (gL (dy fhg34_1) rfl rfl (B.lenO (m:=(Z8 g ((k:Nat):Int) (Qb g).length).length) (tv (T.os 1 1 0 (((Z8 g ((k:Nat):Int) (Qb g).length).map (Qa true)).length)) rfl) Zg (List.length_map ..)) (gF (dy fhg34_1) rfl rfl (B.eql (c:=(decide ((Z8 g ((k:Nat):Int) (Qb g).length).length=0))) (tv (tN ((Z8 g ((k:Nat):Int) (Qb g).length).length)) rfl) (VEv.int .i64 0) (Zb (by omega))) (fO (OF.pickT (VEv.tmpB rfl (dy fhg34_1)) (tv (tB (decide ((Z8 g ((k:Nat):Int) (Qb g).length).length=0))) rfl)) (nt ?_)))))
   refine cd ((Z8 g ((k:Nat):Int) (Qb g).length).length=0) rfl (fun fhc3=> ?_) fun fhc3=> ?_
   ·refine sr ?_
    refine fO (OF.assign (VEv.bool true)) (nt (rt (vinB.r (tr (tr (vinB.r (tr (vb (b':=true) rfl ?_))))))))
    symm;rw [decide_eq_true_eq];exact .inr ⟨k,fhc2,fhg34_1.1,fhg34_1.2.2,atG_none.1 fhc3⟩
   refine sk (vinB.n (tn (VRun.region (mO (tN k) rfl (fO (QB (tv (tN k) rfl) (VEv.int .i64 1) (by omega)) (aO (tN (k+1)) rfl (VRunO.nil (tn ?_))))))))
   refine ⟨(k+1:Nat),?_,?_,Wk.mk (fun k=>k) ?_ ?_ ?_⟩
   ·exact QS (ok:=fun c=>¬(gridOk g∧QaF g c)) hI' fhc2 (fun h=>fhc3 (atG_none.2 h.2.2))
   ·omega
   ·exact (b2 (b2 bn))
   ·exact (b3 bn)
   ·exact nd rfl
  refine Qy 5 3 true 34 (dz fhg34_1) rfl rfl rfl (fO (OF.pickF (VEv.tmpB rfl (dz fhg34_1)) (VEv.bool false)) (nt (cf rfl (sk (vinB.n (tn (VRun.region (mO (tN k) rfl (fO (QB (tv (tN k) rfl) (VEv.int .i64 1) (by omega)) (aO (tN (k+1)) rfl (VRunO.nil ?_)))))))))))
  refine tn ?_
  refine ⟨(k+1:Nat),?_,?_,Wk.mk (fun k=>k) ?_ ?_ ?_⟩
  ·exact QS (ok:=fun c=>¬(gridOk g∧QaF g c)) hI' fhc2 (fun h=>fhg34_1 ⟨h.1,⟨by omega,by omega⟩,h.2.1⟩)
  ·omega
  ·exact (b2 (b2 bn))
  ·exact (b3 bn)
  ·exact nd rfl
 refine VRun.exit (vthn.e (vthn.e (vinB.e (tn (sr (fO (OF.assign (VEv.bool false)) (nt (rt (vb (b':=false) rfl ?_)))))))))
 symm;rw [decide_eq_false_iff_not];exact Qlw hNB fhc0 (Jc (ok:=fun c=>¬(gridOk g∧QaF g c)) hI' fhc2)
theorem QgF (n:Nat) (g:D.Grid) (f:ByteArray) (hc:g.Cells.size≤maxLen) (hf:g.Cells.size≤f.size):Pure (Qq Tryz.prog (n+5)) 139 [(T.agg (Qc false g)),(tS f)] (tB (decide (Qgn g f))):=by
 refine Pure.intro (rs:= [ResultVar.tmp 4]) Tryz.func139 rfl rfl rfl (E0:= [(0,(T.agg (Qc false g))),(1,(tS f))]) rfl ?_
 obtain ⟨hlim,hmx,hmax⟩:=QC
 have hsl:=Ze g
 have hll:=QaO g
 refine sr (kO (B.box (ts:=(Qc false g)) (tv (T.agg (Qc false g)) rfl) nofun rfl) (fO (OF.assign (VEv.bool false)) (nt (sr (kO B.makeMap (aO (T.om 1) rfl (nt (sq (sr (lO (OL.loadOn (us:=(Qc false g)) (tv (T.op 0 0) rfl) rfl QX QT (lb rfl) rfl) (cO (OC.callF (us:= [(T.agg (Qc false g))]) (r:=(T.sl true 1 ((QD g).map ((YM 1 Qa) true)))) (r':=(T.os 1 2 0 (((QD g).map ((YM 1 Qa) true)).length))) (objs:= [(Obj.rows 1 ((QD g).map ((YM 1 Qa) true)))]) rfl (vc (tv (T.agg (Qc false g)) rfl) vn) (LendL.cons (lg Qs) ln) (Jm (n+0) g (by assumption)) rfl) ?_)))))))))))
 refine lO (B.lenO (m:=(QD g).length) (tv (T.os 1 2 0 (((QD g).map ((YM 1 Qa) true)).length)) rfl) Qfg (List.length_map ..)) (fO (OF.move (VEv.int .i64 0)) (nt (VRun.block (VRun.wk (Wk.freeze (sz:=1) (k:=2) (rows':=((QD g).map ((YM 1 Qa) false))) [13] (bc rfl bn) rfl rfl ((Qkr okInt).fzMap _ _)) ?_))))
 have he1:([]:List (Int×Int))= []:=by rfl
 refine VRun.loop (A:=Nat×(List (Int×Int))) (fun s_=> [(1,(tS f)),(2,(T.op 0 0)),(4,(tB false)),(5,(T.om 1)),(13,(rd 1 (YM 1 Qa) (QD g))),(14,(tN ((QD g).length))),(15,(tN s_.1))]) (fun s_=>Q3 [(0,(Obj.cells (Qc false g))),(1,(Obj.map (eM s_.2)))]) 2 (fun s_=>s_.1≤(QD g).length∧mapOf s_.2 (QfE g s_.1)) (fun s_=>(QD g).length - s_.1) ((0,[]):Nat×(List (Int×Int))) ?_ (Wk.mk (fun k=>k) ?_ ?_ ?_) ?_
 ·exact ⟨Nat.zero_le _,fun c=>⟨fun h=>absurd h (QjZ g c),fun _=>rfl⟩⟩
 ·exact (b2 (b2 (b2 (b2 (b2 (b2 (b2 bn)))))))
 ·exact (b3 (bc ⟨(congrArg (fun l_=>some (Obj.map (eM l_))) he1),(lb rfl),rfl⟩ bn))
 ·exact nd rfl
 rintro ⟨i,m⟩ (hI':i≤(QD g).length∧mapOf m (QfE g i))
 show VRun _ _ _ [(1,(tS f)),(2,(T.op 0 0)),(4,(tB false)),(5,(T.om 1)),(13,(rd 1 (YM 1 Qa) (QD g))),(14,(tN ((QD g).length))),(15,(tN i))] (Q3 [(0,(Obj.cells (Qc false g))),(1,(Obj.map (eM m)))]) 2 _
 have hI1:=hI'.1
 have hM:=hI'.2
 refine sr (fO (Zf (tv (tN i) rfl) (tv (tN ((QD g).length)) rfl)) (nt (sq ?_)))
 refine cd (i<(QD g).length) rfl (fun fhc0=> ?_) fun fhc0=> ?_
 ·refine sk ?_
  refine tn (sq (VRun.block (sr ?_)))
  obtain ⟨x1,hx1⟩:∃x,(QD g)[i]? =some x:=⟨_,List.getElem?_eq_getElem (by omega)⟩
  obtain ⟨y1,hy1,hq1⟩:=Qez hx1
  refine fO (OF.indexAddrR (row:=((YM 1 Qa) false x1)) (i:=i) (tv (rd 1 (YM 1 Qa) (QD g)) rfl) (tv (tN i) rfl) rfl (Qv _ hx1) Qfg QbX Qdp) (lO (OL.loadR1 (t:=(rd 1 Qa x1)) (tv (T.rp [(rd 1 Qa x1)]) rfl) rfl YY) (aO (rd 1 Qa x1) rfl (nt (sr (mO (rd 1 Qa x1) rfl (lO (B.lenR (m:=x1.length) (tv (rd 1 Qa x1) rfl) Zg (List.length_map ..)) (fO (OF.move (VEv.int .i64 0)) (nt (VRun.block ?_)))))))))
  refine VRun.loop (A:=Nat×(List (Int×Int))) (fun s_=> [(1,(tS f)),(2,(T.op 0 0)),(4,(tB false)),(5,(T.om 1)),(13,(rd 1 (YM 1 Qa) (QD g))),(14,(tN ((QD g).length))),(15,(tN i)),(19,(rd 1 Qa x1)),(20,(tN x1.length)),(21,(tN s_.1))]) (fun s_=>Q3 [(0,(Obj.cells (Qc false g))),(1,(Obj.map (eM s_.2)))]) 2 (fun s_=>s_.1≤x1.length∧mapOf s_.2 (fun c=>QfE g i c∨c∈x1.take s_.1)) (fun s_=>x1.length - s_.1) ((0,m):Nat×(List (Int×Int))) ?_ (Wk.mk (fun k=>k) ?_ ?_ ?_) ?_
  ·exact ⟨Nat.zero_le _,hM.congr fun c=>by simp⟩
  ·exact (b2 (b2 (b2 (b2 (b2 (b2 (b2 (b2 (b2 (b2 bn))))))))))
  ·exact (b3 (b3 bn))
  ·exact nd rfl
  rintro ⟨k,w⟩ (hI':k≤x1.length∧mapOf w (fun c=>QfE g i c∨c∈x1.take k))
  show VRun _ _ _ [(1,(tS f)),(2,(T.op 0 0)),(4,(tB false)),(5,(T.om 1)),(13,(rd 1 (YM 1 Qa) (QD g))),(14,(tN ((QD g).length))),(15,(tN i)),(19,(rd 1 Qa x1)),(20,(tN x1.length)),(21,(tN k))] (Q3 [(0,(Obj.cells (Qc false g))),(1,(Obj.map (eM w)))]) 2 _
  have hJ1:=hI'.1
  have hl6:=QbC hy1
  rw [← hq1] at hl6
  refine sr (fO (Zf (tv (tN k) rfl) (tv (tN x1.length) rfl)) (nt (sq ?_)))
  refine cd (k<x1.length) rfl (fun fhc1=> ?_) fun fhc1=> ?_
  ·refine sk ?_
   refine tn (sq (VRun.block (sr ?_)))
   obtain ⟨x2,hx2⟩:∃x,x1[k]? =some x:=⟨_,List.getElem?_eq_getElem (by omega)⟩
   skip
   refine fO (OF.indexAddrR (row:=(Qa false x2)) (i:=k) (tv (rd 1 Qa x1) rfl) (tv (tN k) rfl) rfl (Qv _ hx2) Zg Q8 Yk) (lO (OL.loadR1 (t:=(tI x2)) (tv (T.rp [(tI x2)]) rfl) rfl QU) (aO (tI x2) rfl (nt (VRun.region (mO (T.om 1) rfl (mO (tI x2) rfl (cO (B.mapSet (l:=w) (l':=(QbV w x2 1)) (tv (T.om 1) rfl) (tv (tI x2) rfl) (VEv.int .i64 1) rfl QnB U3 rfl) (VRunO.nil (vinB.n (tn (VRun.region ?_)))))))))))
   refine fO (QB (tv (tN k) rfl) (VEv.int .i64 1) (by omega)) (mO (tN (k+1)) rfl (VRunO.nil (tn ?_)))
   refine ⟨((k+1,QbV w x2 1):Nat×(List (Int×Int))),?_,?_,Wk.mk (fun k=>k) ?_ ?_ ?_⟩
   ·exact ⟨by omega,hI'.2.put.congr fun c=>by rw [Qfw hx2,or_assoc]⟩
   ·omega
   ·exact (b2 (b2 (b2 (b2 (b2 (b2 (b2 (b2 (b2 (b2 bn))))))))))
   ·exact (b3 (b3 bn))
   ·exact nd rfl
  refine VRun.exit (vthn.e (vthn.e (vinB.e (vinB.n (tn (VRun.region (fO (QB (tv (tN i) rfl) (VEv.int .i64 1) (by omega)) (mO (tN (i+1)) rfl (VRunO.nil (tn ?_))))))))))
  refine ⟨((i+1,w):Nat×(List (Int×Int))),?_,?_,Wk.mk (fun k=>k) ?_ ?_ ?_⟩
  ·exact ⟨by omega,hI'.2.congr fun c=>by rw [QjG hx1,List.take_of_length_le (by omega)]⟩
  ·omega
  ·exact (b2 (b2 (b2 (b2 (b2 (b2 (b2 bn)))))))
  ·exact (b3 (b3 bn))
  ·exact nd rfl
 refine VRun.exit (vthn.e (vthn.e (vinB.e (tn (sq (sr (lf (tS g.Cells) rfl QE rfl rfl Z7 (lO (B.lenS (tv (tS g.Cells) rfl) U9) (fO (OF.move (VEv.int .i64 0)) (nt (VRun.block ?_)))))))))))
 refine VRun.loop (A:=Nat) (fun s_=> [(1,(tS f)),(2,(T.op 0 0)),(5,(T.om 1)),(31,(tN g.Cells.size)),(32,(tN s_))]) (fun s_=>Q3 [(0,(Obj.cells (Qc false g))),(1,(Obj.map (eM m)))]) 2 (fun s_=>s_≤g.Cells.size∧∀j,j<s_→¬(QaF g j∧Qbm f j)) (fun s_=>g.Cells.size - s_) (0:Nat) ?_ (Wk.mk (fun k=>k) ?_ ?_ ?_) ?_
 ·exact ⟨Nat.zero_le _,fun c hc=>by omega⟩
 ·exact (b2 (b2 (b2 (b2 (b2 bn)))))
 ·exact (b3 (b3 bn))
 ·exact nd rfl
 rintro c (hI':c≤g.Cells.size∧∀j,j<c→¬(QaF g j∧Qbm f j))
 show VRun _ _ _ [(1,(tS f)),(2,(T.op 0 0)),(5,(T.om 1)),(31,(tN g.Cells.size)),(32,(tN c))] (Q3 [(0,(Obj.cells (Qc false g))),(1,(Obj.map (eM m)))]) 2 _
 have hJ1:=hI'.1
 refine sr (fO (Zf (tv (tN c) rfl) (tv (tN g.Cells.size) rfl)) (nt (sq ?_)))
 refine cd (c<g.Cells.size) rfl (fun fhc2=> ?_) fun fhc2=> ?_
 ·refine sk ?_
  refine tn (sq (VRun.block (sr (mO (tN c) rfl (aO (tN c) rfl (nt (sr (lf (tS g.Cells) rfl QE rfl rfl Z7 (mO (tN c) rfl ?_)))))))))
  have hb2:c<g.Cells.size:=(by omega)
  refine fO (JN (tv (tS g.Cells) rfl) (tv (tN c) rfl) hb2 U9) (fO (Y7 (tv (T.int .u8 (Qu g.Cells c)) rfl) (VEv.int .u8 46)) (mO (tB (decide (Qu g.Cells c=46))) rfl ?_))
  refine gw (Qu g.Cells c=46) (fun fhg40_3=> ?_) fun fhg40_3=> ?_
  ·refine gF (dy fhg40_3) rfl rfl (OF.move (tv (T.om 1) rfl)) ?_
   refine gF (dy fhg40_3) rfl rfl (OF.move (tv (tN c) rfl)) (gL (dy fhg40_3) rfl rfl (B.mapGet (l:=m) (n:=((c:Nat):Int)) (tv (T.om 1) rfl) (tv (tN c) rfl) rfl QnB U3 J3) (gF (dy fhg40_3) rfl rfl (Y7 (tv (tI (Qbe m ((c:Nat):Int))) rfl) (VEv.int .i64 0)) (fO (OF.pickT (VEv.tmpB rfl (dy fhg40_3)) (tv (tB (decide (Qbe m ((c:Nat):Int)=0))) rfl)) (mO (tB (decide (Qbe m ((c:Nat):Int)=0))) rfl ?_))))
   refine gw (Qbe m ((c:Nat):Int)=0) (fun fhg46_4=> ?_) fun fhg46_4=> ?_
   ·refine gF (dy fhg46_4) rfl rfl (OF.move (tv (tS f) rfl)) ?_
    refine gF (dy fhg46_4) rfl rfl (OF.move (tv (tN c) rfl)) ?_
    have hb5:c<f.size:=(by omega)
    refine gF (dy fhg46_4) rfl rfl (JN (tv (tS f) rfl) (tv (tN c) rfl) hb5 U9) (VRunO.chain (VWant.on rfl rfl (dy fhg46_4)) (cS (vc (tv (T.int .u8 (Qu f c)) rfl) vn) (ZJ rfl) (Jv (n+3) (Qu f c)) rfl rfl) (gF (dy fhg46_4) rfl rfl (QW (tv (tB (decide (97≤(Qu f c)∧(Qu f c)≤122))) rfl)) (fO (OF.pickT (VEv.tmpB rfl (dy fhg46_4)) (tv (tB (!(decide (97≤(Qu f c)∧(Qu f c)≤122)))) rfl)) (nt ?_))))
    refine cn (97≤(Qu f c)∧(Qu f c)≤122) rfl (fun fhc3=> ?_) fun fhc3=> ?_
    ·refine sr ?_
     refine fO (OF.assign (VEv.bool true)) (nt (rt (vinB.r (tr (tr (vinB.r (tr (vb (b':=true) rfl ?_))))))))
     symm;rw [decide_eq_true_eq];refine ⟨c,fhc2,⟨?_,fun h=> ?_⟩,?_⟩
     ·omega
     ·have hq:=(hM ((c:Nat):Int)).1 ((QcU fhc0 _).2 h);omega
     ·unfold Qbm;omega
    refine sk (vinB.n (tn (VRun.region (fO (QB (tv (tN c) rfl) (VEv.int .i64 1) (by omega)) (mO (tN (c+1)) rfl (VRunO.nil (tn ?_)))))))
    refine ⟨(c+1:Nat),?_,?_,Wk.mk (fun k=>k) ?_ ?_ ?_⟩
    ·refine QS (ok:=fun j=>¬(QaF g j∧Qbm f j)) hI' fhc2 ?_
     rintro ⟨⟨a1,a2⟩,a3⟩
     have hq:=(hM ((c:Nat):Int)).2 (fun h=>a2 ((QcU fhc0 _).1 h))
     unfold Qbm at a3;omega
    ·omega
    ·exact (b2 (b2 (b2 (b2 (b2 bn)))))
    ·exact (b3 (b3 bn))
    ·exact nd rfl
   refine Qy 5 11 true 46 (dz fhg46_4) rfl rfl rfl (fO (OF.pickF (VEv.tmpB rfl (dz fhg46_4)) (VEv.bool false)) (nt (cf rfl (sk (vinB.n (tn (VRun.region (fO (QB (tv (tN c) rfl) (VEv.int .i64 1) (by omega)) (mO (tN (c+1)) rfl (VRunO.nil (tn ?_)))))))))))
   refine ⟨(c+1:Nat),?_,?_,Wk.mk (fun k=>k) ?_ ?_ ?_⟩
   ·refine QS (ok:=fun j=>¬(QaF g j∧Qbm f j)) hI' fhc2 ?_
    rintro ⟨⟨a1,a2⟩,a3⟩
    have hq:=(hM ((c:Nat):Int)).2 (fun h=>a2 ((QcU fhc0 _).1 h))
    unfold Qbm at a3;omega
   ·omega
   ·exact (b2 (b2 (b2 (b2 (b2 bn)))))
   ·exact (b3 (b3 bn))
   ·exact nd rfl
  refine Qy 4 5 true 40 (dz fhg40_3) rfl rfl rfl (fO (OF.pickF (VEv.tmpB rfl (dz fhg40_3)) (VEv.bool false)) (mO (tB false) rfl (Qy 5 11 true 46 (b:=false) rfl rfl rfl rfl (fO (OF.pickF (tv (tB false) rfl) (VEv.bool false)) (nt (cf rfl (sk (vinB.n (tn (VRun.region (fO (QB (tv (tN c) rfl) (VEv.int .i64 1) (by omega)) ?_)))))))))))
  refine mO (tN (c+1)) rfl (VRunO.nil (tn ?_))
  refine ⟨(c+1:Nat),?_,?_,Wk.mk (fun k=>k) ?_ ?_ ?_⟩
  ·refine QS (ok:=fun j=>¬(QaF g j∧Qbm f j)) hI' fhc2 ?_
   rintro ⟨⟨a1,a2⟩,a3⟩
   have hq:=(hM ((c:Nat):Int)).2 (fun h=>a2 ((QcU fhc0 _).1 h))
   unfold Qbm at a3;omega
  ·omega
  ·exact (b2 (b2 (b2 (b2 (b2 bn)))))
  ·exact (b3 (b3 bn))
  ·exact nd rfl
 refine VRun.exit (vthn.e (vthn.e (vinB.e (tn (sr (fO (OF.assign (VEv.bool false)) (nt (rt (vb (b':=false) rfl ?_)))))))))
 symm;rw [decide_eq_false_iff_not];rintro ⟨c,h1,h2,h3⟩;exact hI'.2 c (by omega) ⟨h2,h3⟩
end Go.Proofs.YtcccmceoplcciaaGreat.AE
namespace Go.Proofs.YtcccmceoplcciaaGreat.AE
open Go Go.RowKit
set_option linter.unusedVariables false
set_option linter.unusedSimpArgs false
set_option maxRecDepth 20000
set_option maxHeartbeats 2000000
noncomputable section
def on (s:List Bool) (j:Nat):Bool:=s[j]?.getD false
theorem Qln {s:List Bool} {j:Nat} (h:on s j=true):j<s.length:=by
 rcases Nat.lt_or_ge j s.length with h1 | h1
 ·exact h1
 ·rw [on,List.getElem?_eq_none h1] at h;cases h
theorem Qdd {s:List Bool} {i j:Nat} (hi:i<s.length):on (s.set i true) j=(if j=i then true else on s j):=by
 unfold on
 rw [List.getElem?_set]
 by_cases h:i=j
 ·subst h;simp [hi]
 ·rw [if_neg h,if_neg (fun e=>h e.symm)]
theorem Qkj {s t:List Bool} (hl:s.length=t.length) (h:∀j,on s j=true↔on t j=true):s=t:=by
 refine List.ext_getElem? fun j=> ?_
 rcases Nat.lt_or_ge j s.length with h1 | h1
 ·have h2:j<t.length:=by omega
  have h3:=h j
  unfold on at h3
  rw [List.getElem?_eq_getElem h1,List.getElem?_eq_getElem h2] at h3 ⊢
  simp only [Option.getD_some] at h3
  rw [Bool.eq_iff_iff.2 h3]
 ·rw [List.getElem?_eq_none h1,List.getElem?_eq_none (by omega)]
theorem on_no {s:List Bool} {j:Nat}:on s j=false↔¬on s j=true:=by cases on s j<;>simp
def wG (g:D.Grid):Nat:=g.Cols.toNat
def adj (g:D.Grid) (i j:Nat):Prop:=(j=i+1∧i % wG g+1<wG g)∨(i=j+1∧j % wG g+1<wG g)∨j=i+wG g∨i=j+wG g
inductive Rch (g:D.Grid) (s:List Bool):Nat→Prop
 | base {j:Nat} (h:on s j=true):Rch g s j
 | step {i j:Nat} (h:Rch g s i) (ha:adj g i j) (hj:j<s.length) (hw:Qu g.Cells j=46):Rch g s j
instance (g:D.Grid) (s:List Bool) (j:Nat):Decidable (Rch g s j):=Classical.propDecidable _
def Zm (g:D.Grid) (s:List Bool):List Bool:=(List.range s.length).map fun j=>decide (Rch g s j)
theorem Rch.lt {g:D.Grid} {s:List Bool} {j:Nat} (h:Rch g s j):j<s.length:=by
 cases h with
 | base h=>exact Qln h
 | step _ _ hj _=>exact hj
theorem Qcl (g:D.Grid) (s:List Bool):(Zm g s).length=s.length:=by simp [Zm]
theorem on_reachL {g:D.Grid} {s:List Bool} {j:Nat}:on (Zm g s) j=true↔Rch g s j:=by
 unfold on Zm
 rw [List.getElem?_map]
 rcases Nat.lt_or_ge j s.length with h1 | h1
 ·rw [List.getElem?_eq_getElem (by simpa using h1),List.getElem_range]
  simp
 ·rw [List.getElem?_eq_none (by simpa using h1)]
  simp only [Option.map_none,Option.getD_none,Bool.false_eq_true,false_iff]
  intro h
  have:=h.lt
  omega
def Qkq (g:D.Grid) (s:List Bool) (i:Nat):Prop:=∃j,adj g j i∧on s j=true
theorem Qlv {i w:Nat} (h:0<i % w) (hw:i % w<w):(i - 1) % w+1=i % w∧1≤i:=by
 have h1:i % w≤i:=Nat.mod_le _ _
 have h2:=Nat.div_add_mod i w
 refine ⟨?_,by omega⟩
 have e:i - 1=(i % w - 1)+w*(i / w):=by omega
 rw [e,Nat.add_mul_mod_self_left,Nat.mod_eq_of_lt (by omega)]
 omega
theorem Qku {i w:Nat} (h:i % w+1<w):(i+1) % w=i % w+1:=by
 have h2:=Nat.div_add_mod i w
 have e:i+1=(i % w+1)+w*(i / w):=by omega
 rw [e,Nat.add_mul_mod_self_left,Nat.mod_eq_of_lt h]
theorem Qh6 {g:D.Grid} {s:List Bool} {i:Nat} (hw:2≤g.Cols) (hl:i<s.length) :
  ((((0<i % g.Cols.toNat∧on s (i - 1)=true)∨(((i % g.Cols.toNat+1:Nat):Int)<g.Cols∧on s (i+1)=true))∨(g.Cols≤((i:Nat):Int)∧on s (i - g.Cols.toNat)=true))∨(i+g.Cols.toNat<s.length∧on s (i+g.Cols.toNat)=true))↔Qkq g s i:=by
 have hm:i % g.Cols.toNat<g.Cols.toNat:=Nat.mod_lt _ (by omega)
 constructor
 ·rintro (((⟨h1,h2⟩ | ⟨h1,h2⟩) | ⟨h1,h2⟩) | ⟨h1,h2⟩)
  ·obtain ⟨h3,h4⟩:=Qlv h1 hm
   exact ⟨i - 1, .inl ⟨by omega,by unfold wG;omega⟩,h2⟩
  ·exact ⟨i+1, .inr (.inl ⟨rfl,by unfold wG;omega⟩),h2⟩
  ·exact ⟨i - g.Cols.toNat, .inr (.inr (.inl (by unfold wG;omega))),h2⟩
  ·exact ⟨i+g.Cols.toNat, .inr (.inr (.inr (by unfold wG;omega))),h2⟩
 ·rintro ⟨j,(⟨h1,h2⟩ | ⟨h1,h2⟩ | h1 | h1),h3⟩
  ·refine .inl (.inl (.inl ⟨?_,by rw [show i - 1=j by omega];exact h3⟩))
   unfold wG at h2
   rw [h1,Qku h2];omega
  ·refine .inl (.inl (.inr ⟨by unfold wG at h2;omega,by rw [← h1];exact h3⟩))
  ·unfold wG at h1
   refine .inl (.inr ⟨by omega,by rw [show i - g.Cols.toNat=j by omega];exact h3⟩)
  ·unfold wG at h1
   have:=Qln h3
   exact .inr ⟨by omega,by rw [← h1];exact h3⟩
def RS (g:D.Grid) (s0 s:List Bool):Prop:=s.length=s0.length∧(∀j,on s0 j=true→on s j=true)∧∀j,on s j=true→Rch g s0 j
theorem RS.start (g:D.Grid) (s:List Bool):RS g s s:=⟨rfl,fun _ h=>h,fun _ h=> .base h⟩
theorem RS.put {g:D.Grid} {s0 s:List Bool} {i:Nat} (h:RS g s0 s) (hi:i<s.length) (hw:Qu g.Cells i=46) (hn:Qkq g s i):RS g s0 (s.set i true):=by
 obtain ⟨h1,h2,h3⟩:=h
 refine ⟨by simpa using h1,fun j hj=> ?_,fun j hj=> ?_⟩
 ·rw [Qdd hi];split
  ·rfl
  ·exact h2 j hj
 ·rw [Qdd hi] at hj
  split at hj
  ·rename_i e
   subst e
   obtain ⟨k,hk,hk2⟩:=hn
   exact .step (h3 k hk2) hk (by omega) hw
  ·exact h3 j hj
def Qhs (g:D.Grid) (s:List Bool) (i:Nat):Prop:=Qu g.Cells i=46∧on s i=false∧Qkq g s i
instance (g:D.Grid) (s:List Bool) (i:Nat):Decidable (Qhs g s i):=Classical.propDecidable _
def YQ (g:D.Grid) (s:List Bool) (i:Nat):List Bool:=if Qhs g s i then s.set i true else s
def Qb4 (g:D.Grid) (ag:Bool) (s:List Bool) (i:Nat):Bool:=if Qhs g s i then true else ag
theorem QkE {g:D.Grid} {s:List Bool} {ag:Bool} {i:Nat} (h:Qhs g s i):s.set i true=YQ g s i∧true=Qb4 g ag s i:=⟨(if_pos h).symm,(if_pos h).symm⟩
theorem Qju {g:D.Grid} {s:List Bool} {ag:Bool} {i:Nat} (h:¬Qhs g s i):s=YQ g s i∧ag=Qb4 g ag s i:=⟨(if_neg h).symm,(if_neg h).symm⟩
def Inv1 (g:D.Grid) (s0 s:List Bool) (i:Nat) (s1:List Bool) (ag:Bool):Prop:=i≤s0.length∧RS g s0 s1∧(ag=false→s1=s∧∀j,j<i→¬Qhs g s j)∧(ag=true→s1.count false<s.count false)∧s1.count false≤s.count false
theorem Inv1.start {g:D.Grid} {s0 s:List Bool} (h:RS g s0 s):Inv1 g s0 s 0 s false:=⟨Nat.zero_le _,h,fun _=>⟨rfl,fun j hj=>by omega⟩,(fun h=>by cases h),Nat.le_refl _⟩
theorem QdA {s:List Bool} {i:Nat} (hi:i<s.length) (h:on s i=false):(s.set i true).count false+1=s.count false:=by
 have h2:s[i]=false:=by
  unfold on at h
  rw [List.getElem?_eq_getElem hi] at h
  exact h
 have h3:0<s.count false:=List.count_pos_iff.2 (h2▸List.getElem_mem hi)
 rw [List.count_set hi]
 simp [h2]
 omega
theorem Inv1.next {g:D.Grid} {s0 s s1:List Bool} {i:Nat} {ag:Bool} (h:Inv1 g s0 s i s1 ag) (hi:i<s1.length):Inv1 g s0 s (i+1) (YQ g s1 i) (Qb4 g ag s1 i):=by
 obtain ⟨h1,h2,h3,h4,h5⟩:=h
 have hl:=h2.1
 unfold YQ Qb4
 by_cases hw:Qhs g s1 i
 ·rw [if_pos hw,if_pos hw]
  have hc:=QdA hi hw.2.1
  exact ⟨by omega,h2.put hi hw.1 hw.2.2,(fun e=>by cases e),(fun _=>by omega),by omega⟩
 ·rw [if_neg hw,if_neg hw]
  refine ⟨by omega,h2,fun e=> ?_,h4,h5⟩
  obtain ⟨h6,h7⟩:=h3 e
  subst h6
  refine ⟨rfl,fun j hj=> ?_⟩
  rcases Nat.lt_or_ge j i with g1 | g1
  ·exact h7 j g1
  ·obtain rfl:j=i:=by omega
   exact hw
def Inv0 (g:D.Grid) (s0 s:List Bool) (ag:Bool):Prop:=RS g s0 s∧(ag=false→∀j,j<s0.length→¬Qhs g s j)
theorem Inv1.done {g:D.Grid} {s0 s s1:List Bool} {i:Nat} {ag:Bool} (h:Inv1 g s0 s i s1 ag) (hi:¬i<s1.length):Inv0 g s0 s1 ag:=by
 obtain ⟨h1,h2,h3,h4,h5⟩:=h
 have hl:=h2.1
 refine ⟨h2,fun e j hj=> ?_⟩
 obtain ⟨h6,h7⟩:=h3 e
 rw [h6]
 exact h7 j (by omega)
theorem Inv1.dec {g:D.Grid} {s0 s s1:List Bool} {i:Nat} {ag ag0:Bool} (h:Inv1 g s0 s i s1 ag) (h0:ag0=true):s1.count false+(if ag=true then 1 else 0)<s.count false+(if ag0=true then 1 else 0):=by
 obtain ⟨h1,h2,h3,h4,h5⟩:=h
 rw [if_pos h0]
 split
 ·rename_i e
  have:=h4 e
  omega
 ·omega
theorem Inv0.done {g:D.Grid} {s0 s:List Bool} {ag:Bool} (h:Inv0 g s0 s ag) (ha:¬ag=true):s=Zm g s0:=by
 obtain ⟨⟨h1,h2,h3⟩,h4⟩:=h
 refine Qkj (by rw [Qcl,h1]) fun j=> ?_
 rw [on_reachL]
 refine ⟨h3 j,fun hj=> ?_⟩
 have h5:=h4 (by cases ag<;>simp_all)
 induction hj with
 | base h=>exact h2 _ h
 | step h ha hj hw ih =>
  rename_i i k
  cases hk:on s k with
  | true=>rfl
  | false=>exact absurd ⟨hw,hk,i,ha,ih⟩ (h5 k hj)
end
theorem Qd9 (n:Nat) (g:D.Grid) (seen:List Bool) (cell:Nat) (hg:gridOk g) (hc:cell<seen.length) (hs:seen.length=g.Cells.size):Loan (Qq Tryz.prog (n+1)) 182 1 (List.map (Qm true) seen) [(T.agg (Qc false g)),(T.os 1 0 0 ((seen.map (Qm true)).length)),(tN cell)] (T.os 1 0 0 (List.map (Qm true) (Zm g (seen.set cell true))).length) (List.map (Qm true) (Zm g (seen.set cell true))):=by
 refine Loan.intro (rs:= [ResultVar.tmp 6]) (j:=1) (pin:=(T.os 1 0 0 ((seen.map (Qm true)).length))) Tryz.func182 rfl rfl rfl (by kernel_rfl) rfl (.os _ _) (.os _ _) (Zw (fun _=>rfl) _) (Zw (fun _=>rfl) _) (E0:= [(0,(T.agg (Qc false g))),(1,(T.os 1 0 0 ((seen.map (Qm true)).length))),(2,(tN cell))]) rfl ?_
 obtain ⟨hlim,hmx,hmax⟩:=QC
 have hsz:=hg.size
 have hA:=hg.1
 have hB:=hg.2.1
 refine sr (kO (B.box (ts:=(Qc false g)) (tv (T.agg (Qc false g)) rfl) nofun rfl) (fO (OF.assign VEv.nils) (nt (sr (mO (T.os 1 0 0 ((seen.map (Qm true)).length)) rfl (mO (tN cell) rfl ?_))))))
 obtain ⟨x1,hx1⟩:∃x,seen[cell]? =some x:=⟨_,List.getElem?_eq_getElem (by omega)⟩
 skip
 refine fO (B.indexAddrO (i:=cell) (tv (T.os 1 0 0 ((seen.map (Qm true)).length)) rfl) (tv (tN cell) rfl) rfl (by (simp only [List.length_map];omega)) Jd sz4 if4) (cO (B.storeP (us:= [(tB true)]) (rows':=((seen.set cell true).map (Qm true))) (row:=(Qm true x1)) (tv (T.orp 1 0 cell 0) rfl) (VEv.bool true) nofun rfl (Qv _ hx1) rfl (lb rfl) if4 sz4 (bc rfl bn) (by intro r hr t ht;obtain ⟨x,_,rfl⟩:=List.mem_map.1 hr;rw [Qg1] at ht;exact ZQ (okBool.pl _ t ht)) (ZL rfl)) (nt (sq (sr (fO (OF.assign (VEv.bool true)) (nt (VRun.block ?_)))))))
 refine VRun.loop (A:=Bool×(List Bool)) (fun s_=> [(1,(T.os 1 1 0 ((s_.2.map (Qm true)).length))),(3,(T.op 0 0)),(6,T.nils),(7,(tB s_.1))]) (fun s_=>Q3 [(0,(Obj.cells (Qc false g))),(1,(Obj.rows 1 (s_.2.map (Qm true))))]) 2 (fun s_=>Inv0 g (seen.set cell true) s_.2 s_.1) (fun s_=>s_.2.count false+(if s_.1=true then 1 else 0)) ((true,seen.set cell true):Bool×(List Bool)) ?_ (Wk.mk (fun k=>if k=0 then 1 else if k=1 then 0 else k) ?_ ?_ ?_) ?_
 ·exact ⟨RS.start _ _,fun h=>by cases h⟩
 ·exact (bc ⟨(congrArg (fun n_=>T.os 1 0 0 n_) (show (seen.map (Qm true)).length=((seen.set cell true).map (Qm true)).length from (by (simp;done)))),rfl⟩ (b2 (b2 (b2 bn))))
 ·exact (b3 (b3 bn))
 ·exact nd rfl
 rintro ⟨ag,s⟩ (hI':Inv0 g (seen.set cell true) s ag)
 show VRun _ _ _ [(1,(T.os 1 1 0 ((s.map (Qm true)).length))),(3,(T.op 0 0)),(6,T.nils),(7,(tB ag))] (Q3 [(0,(Obj.cells (Qc false g))),(1,(Obj.rows 1 (s.map (Qm true))))]) 2 _
 have hI1:=hI'
 have hl0:s.length=g.Cells.size:=by have:=hI'.1.1;rw [List.length_set] at this;omega
 refine sq (sr (mO (tB ag) rfl (nt ?_)))
 refine VRun.cond (tv (tB ag) rfl) (fun hc0=> ?_) (fun hc0=> ?_)
 ·have fhc0:ag=true:=hc0
  refine sk (tn (VRun.block (sr (fO (OF.assign (VEv.bool false)) (nt (sr (fO (OF.assign (VEv.int .i64 0)) (nt (VRun.block ?_)))))))))
  refine VRun.loop (A:=Nat×(List Bool)×Bool) (fun s_=> [(1,(T.os 1 1 0 ((s_.2.1.map (Qm true)).length))),(3,(T.op 0 0)),(6,T.nils),(7,(tB s_.2.2)),(8,(tN s_.1))]) (fun s_=>Q3 [(0,(Obj.cells (Qc false g))),(1,(Obj.rows 1 (s_.2.1.map (Qm true))))]) 2 (fun s_=>Inv1 g (seen.set cell true) s s_.1 s_.2.1 s_.2.2) (fun s_=>s_.2.1.length - s_.1) ((0,s,false):Nat×(List Bool)×Bool) ?_ (Wk.mk (fun k=>k) ?_ ?_ ?_) ?_
  ·exact Inv1.start hI1.1
  ·exact (b2 (b2 (b2 (b2 (b2 bn)))))
  ·exact (b3 (b3 bn))
  ·exact nd rfl
  rintro ⟨i,s1,ag1⟩ (hI':Inv1 g (seen.set cell true) s i s1 ag1)
  show VRun _ _ _ [(1,(T.os 1 1 0 ((s1.map (Qm true)).length))),(3,(T.op 0 0)),(6,T.nils),(7,(tB ag1)),(8,(tN i))] (Q3 [(0,(Obj.cells (Qc false g))),(1,(Obj.rows 1 (s1.map (Qm true))))]) 2 _
  have hJ1:=hI'.1
  have hl1:s1.length=g.Cells.size:=by have:=hI'.2.1.1;rw [List.length_set] at this;omega
  refine sq (sr (mO (tN i) rfl (mO (T.os 1 1 0 ((s1.map (Qm true)).length)) rfl (lO (B.lenO (m:=s1.length) (tv (T.os 1 1 0 ((s1.map (Qm true)).length)) rfl) Jd (List.length_map ..)) (fO (Zf (tv (tN i) rfl) (tv (tN s1.length) rfl)) (nt ?_))))))
  refine cd (i<s1.length) rfl (fun fhc1=> ?_) fun fhc1=> ?_
  ·refine sk ?_
   refine tn (sq (VRun.block (sq (sr (mO (T.os 1 1 0 ((s1.map (Qm true)).length)) rfl (mO (tN i) rfl ?_))))))
   obtain ⟨x2,hx2⟩:∃x,s1[i]? =some x:=⟨_,List.getElem?_eq_getElem (by omega)⟩
   (have e2:on s1 i=x2:=by rw [on,hx2];rfl)
   refine fO (B.indexAddrO (i:=i) (tv (T.os 1 1 0 ((s1.map (Qm true)).length)) rfl) (tv (tN i) rfl) rfl (by (simp only [List.length_map];omega)) Jd sz4 if4) (lO (OL.loadP1 (t:=(tB x2)) (row:=(Qm true x2)) (tv (T.orp 1 1 i 0) rfl) rfl (Qv _ hx2) rfl rfl st4) (mO (tB x2) rfl ?_))
   refine VRunO.joinB 6 [26,27,28,29,30] 31 (tB (decide ((x2=true)∨(¬(Qu g.Cells i=46))))) ?_ ?_
   ·refine Qbo x2 (fun hg25_1=> ?_) (fun hg25_1=> ?_)
    ·have fhg25_1:x2=true:=hg25_1
     refine Qy 5 4 false 25 hg25_1 rfl rfl rfl (fO (OF.pickT (VEv.tmpB rfl hg25_1) (VEv.bool true)) (VRunO.nil ?_))
     exact jq (congrArg T.bool (jOT (dT _) hg25_1)) (js rfl (js rfl (js rfl (js rfl (js rfl (jn))))))
    ·have fhg25_1:x2=false:=hg25_1
     refine Yl (tS g.Cells) hg25_1 rfl rfl rfl rfl QE rfl rfl Z7 (gF hg25_1 rfl rfl (OF.move (tv (tN i) rfl)) ?_)
     have hb2:i<g.Cells.size:=(by omega)
     refine gF hg25_1 rfl rfl (JN (tv (tS g.Cells) rfl) (tv (tN i) rfl) hb2 U9) (gF hg25_1 rfl rfl (xne (tv (T.int .u8 (Qu g.Cells i)) rfl) (VEv.int .u8 46)) (fO (OF.pickF (VEv.tmpB rfl hg25_1) (tv (tB (!(decide (Qu g.Cells i=46)))) rfl)) (VRunO.nil ?_)))
     exact jq (congrArg T.bool (jOF (dT _) hg25_1 dN)) (js rfl (js rfl (js rfl (js rfl (js rfl (jn))))))
   refine nt ?_
   refine cd ((x2=true)∨(¬(Qu g.Cells i=46))) rfl (fun fhc2=> ?_) fun fhc2=> ?_
   ·have q1:=Qju (g:=g) (s:=s1) (ag:=ag1) (i:=i) (by rintro ⟨h1,h2,h3⟩;rw [e2] at h2;rcases fhc2 with h4 | h4;rw [h2] at h4;cases h4;exact h4 h1)
    refine VRun.exit (vthn.e (vinB.e (tn (VRun.region (mO (tN i) rfl (fO (QB (tv (tN i) rfl) (VEv.int .i64 1) (by omega)) (aO (tN (i+1)) rfl (VRunO.nil (tn ?_)))))))))
    have he3:s1=(YQ g s1 i):=by exact q1.1
    refine ⟨((i+1,YQ g s1 i,Qb4 g ag1 s1 i):Nat×(List Bool)×Bool),?_,?_,Wk.mk (fun k=>k) ?_ ?_ ?_⟩
    ·exact hI'.next fhc1
    ·show (YQ g s1 i).length - (i+1)<s1.length - i
     have e1:(YQ g s1 i).length=s1.length:=by unfold YQ;split<;>simp
     rw [e1];omega
    ·exact (bc ⟨(congrArg (fun l_=>T.os 1 1 0 (List.map (Qm true) l_).length) he3),rfl⟩ (b2 (b2 (bc ⟨(congrArg T.bool (show ag1=(Qb4 g ag1 s1 i) from (by exact q1.2))),rfl⟩ (b2 bn)))))
    ·exact (b3 (bc ⟨(congrArg (fun l_=>some (Obj.rows 1 (List.map (Qm true) l_))) he3),(lb rfl),rfl⟩ bn))
    ·exact nd rfl
   refine sk (tn ?_)
   have hci:=QbB hg (show i<g.Cells.size by omega)
   obtain ⟨m,hm⟩:∃m,m=i % g.Cols.toNat:=⟨_,rfl⟩
   have hq1:0<m→1≤i:=by rw [hm];exact hci.2.1
   have hm6:m<g.Cols.toNat:=by rw [hm];exact hci.1.1
   have hq4:((m+1:Nat):Int)<g.Cols→i+1<g.Cells.size:=by rw [hm];exact hci.2.2.2.1 1
   clear hci
   refine sr (mO (tN i) rfl (lf (tI g.Cols) rfl Zn rfl rfl QU (fO (B.rem (n:=((m:Nat):Int)) (tv (tN i) rfl) (tv (tI g.Cols) rfl) (by omega) (by (rw [hm];refine Ql6 ?_;omega))) (aO (tN m) rfl (nt (sr (mO (tN m) rfl (fO (B.gtr (c:=(decide (0<m))) (tv (tN m) rfl) (VEv.int .i64 0) (by exact Zb (by omega))) (mO (tB (decide (0<m))) rfl ?_)))))))))
   refine VRunO.joinB 6 [39,40,41,42,43] 44 (tB (decide ((0<m)∧((s1[i - 1]?.getD false)=true)))) ?_ ?_
   ·refine gw (0<m) (fun fhg38_4=> ?_) fun fhg38_4=> ?_
    ·refine gF (dy fhg38_4) rfl rfl (OF.move (tv (T.os 1 1 0 ((s1.map (Qm true)).length)) rfl)) ?_
     refine gF (dy fhg38_4) rfl rfl (OF.move (tv (tN i) rfl)) (gF (dy fhg38_4) rfl rfl (B.sub (n:=((i - 1:Nat):Int)) (tv (tN i) rfl) (VEv.int .i64 1) (by (rw [Qt (by omega)];omega))) ?_)
     have hy5:s1[i - 1]? =some (s1[i - 1]?.getD false):=Qae false (by omega)
     refine gF (dy fhg38_4) rfl rfl (B.indexAddrO (i:=i - 1) (tv (T.os 1 1 0 ((s1.map (Qm true)).length)) rfl) (tv (tN (i - 1)) rfl) rfl (by (simp only [List.length_map];omega)) Jd sz4 if4) (gL (dy fhg38_4) rfl rfl (OL.loadP1 (t:=(tB (s1[i - 1]?.getD false))) (row:=(Qm true (s1[i - 1]?.getD false))) (tv (T.orp 1 1 (i - 1) 0) rfl) rfl (Qv _ hy5) rfl rfl st4) (fO (OF.pickT (VEv.tmpB rfl (dy fhg38_4)) (tv (tB (s1[i - 1]?.getD false)) rfl)) (VRunO.nil ?_)))
     exact jq (congrArg T.bool (kAT fhg38_4 (dT _))) (js rfl (js rfl (js rfl (js rfl (js rfl (jn))))))
    ·refine Qy 5 2 true 38 (dz fhg38_4) rfl rfl rfl ?_
     refine fO (OF.pickF (VEv.tmpB rfl (dz fhg38_4)) (VEv.bool false)) (VRunO.nil ?_)
     exact jq (congrArg T.bool (kAF fhg38_4)) (js rfl (js rfl (js rfl (js rfl (js rfl (jn))))))
   refine mO (tB (decide ((0<m)∧((s1[i - 1]?.getD false)=true)))) rfl ?_
   refine VRunO.joinB 13 [46,47,48,49,50,51,52,53,54,55,56,57] 58 (tB (decide (((0<m)∧((s1[i - 1]?.getD false)=true))∨(((((m+1):Nat):Int)<g.Cols)∧((s1[(i+1)]?.getD false)=true))))) ?_ ?_
   ·refine gw ((0<m)∧((s1[i - 1]?.getD false)=true)) (fun fhg45_6=> ?_) fun fhg45_6=> ?_
    ·refine Qy 6 9 false 45 (dy fhg45_6) rfl rfl rfl ?_
     refine Qac 5 15 true 51 rfl rfl rfl (oO rfl rfl (dy fhg45_6) (fO (OF.pickT (VEv.tmpB rfl (dy fhg45_6)) (VEv.bool true)) (VRunO.nil ?_)))
     exact jq (congrArg T.bool (kOT fhg45_6)) (js rfl (js rfl (js rfl (js rfl (js rfl (js rfl (js rfl (js rfl (js rfl (js rfl (js rfl (js rfl (jn)))))))))))))
    ·refine gF (dz fhg45_6) rfl rfl (OF.move (tv (tN m) rfl)) ?_
     refine gF (dz fhg45_6) rfl rfl (QB (tv (tN m) rfl) (VEv.int .i64 1) (by omega)) (Yl (tI g.Cols) (dz fhg45_6) rfl rfl rfl rfl Zn rfl rfl QU (gF (dz fhg45_6) rfl rfl (xls (tv (tN (m+1)) rfl) (tv (tI g.Cols) rfl)) (gF (dz fhg45_6) rfl rfl (OF.move (tv (tB (decide ((((m+1):Nat):Int)<g.Cols))) rfl)) ?_)))
     refine VRunO.joinB 6 [52,53,54,55,56] 57 (tB (decide (((((m+1):Nat):Int)<g.Cols)∧((s1[(i+1)]?.getD false)=true)))) ?_ ?_
     ·refine gw ((((m+1):Nat):Int)<g.Cols) (fun fhg51_7=> ?_) fun fhg51_7=> ?_
      ·refine gF (dy fhg51_7) rfl rfl (OF.move (tv (T.os 1 1 0 ((s1.map (Qm true)).length)) rfl)) ?_
       refine gF (dy fhg51_7) rfl rfl (OF.move (tv (tN i) rfl)) (gF (dy fhg51_7) rfl rfl (QB (tv (tN i) rfl) (VEv.int .i64 1) (by omega)) ?_)
       have hy8:s1[(i+1)]? =some (s1[(i+1)]?.getD false):=Qae false (by omega)
       refine gF (dy fhg51_7) rfl rfl (B.indexAddrO (i:=(i+1)) (tv (T.os 1 1 0 ((s1.map (Qm true)).length)) rfl) (tv (tN (i+1)) rfl) rfl (by (simp only [List.length_map];omega)) Jd sz4 if4) (gL (dy fhg51_7) rfl rfl (OL.loadP1 (t:=(tB (s1[(i+1)]?.getD false))) (row:=(Qm true (s1[(i+1)]?.getD false))) (tv (T.orp 1 1 (i+1) 0) rfl) rfl (Qv _ hy8) rfl rfl st4) (gF (dz fhg45_6) rfl rfl (OF.pickT (VEv.tmpB rfl (dy fhg51_7)) (tv (tB (s1[(i+1)]?.getD false)) rfl)) (VRunO.nil ?_)))
       exact jq (congrArg T.bool (kAT fhg51_7 (dT _))) (js rfl (js rfl (js rfl (js rfl (js rfl (jn))))))
      ·refine Qy 5 15 true 51 (dz fhg51_7) rfl rfl rfl ?_
       refine gF (dz fhg45_6) rfl rfl (OF.pickF (VEv.tmpB rfl (dz fhg51_7)) (VEv.bool false)) (VRunO.nil ?_)
       exact jq (congrArg T.bool (kAF fhg51_7)) (js rfl (js rfl (js rfl (js rfl (js rfl (jn))))))
     refine fO (OF.pickF (VEv.tmpB rfl (dz fhg45_6)) (tv (tB (decide (((((m+1):Nat):Int)<g.Cols)∧((s1[(i+1)]?.getD false)=true)))) rfl)) (VRunO.nil ?_)
     exact jq (congrArg T.bool (kOF fhg45_6 rfl)) (js rfl (js rfl (js rfl (js rfl (js rfl (js rfl (js rfl (js rfl (js rfl (js rfl (js rfl (js rfl (jn)))))))))))))
   refine mO (tB (decide (((0<m)∧((s1[i - 1]?.getD false)=true))∨(((((m+1):Nat):Int)<g.Cols)∧((s1[(i+1)]?.getD false)=true))))) rfl ?_
   refine VRunO.joinB 14 [60,61,62,63,64,65,66,67,68,69,70,71,72] 73 (tB (decide ((((0<m)∧((s1[i - 1]?.getD false)=true))∨(((((m+1):Nat):Int)<g.Cols)∧((s1[(i+1)]?.getD false)=true)))∨((g.Cols≤((i:Nat):Int))∧((s1[i - g.Cols.toNat]?.getD false)=true))))) ?_ ?_
   ·refine gw (((0<m)∧((s1[i - 1]?.getD false)=true))∨(((((m+1):Nat):Int)<g.Cols)∧((s1[(i+1)]?.getD false)=true))) (fun fhg59_9=> ?_) fun fhg59_9=> ?_
    ·refine Qy 5 23 false 59 (dy fhg59_9) rfl rfl rfl ?_
     refine Qac 7 28 true 64 rfl rfl rfl (oO rfl rfl (dy fhg59_9) (fO (OF.pickT (VEv.tmpB rfl (dy fhg59_9)) (VEv.bool true)) (VRunO.nil ?_)))
     exact jq (congrArg T.bool (kOT fhg59_9)) (js rfl (js rfl (js rfl (js rfl (js rfl (js rfl (js rfl (js rfl (js rfl (js rfl (js rfl (js rfl (js rfl (jn))))))))))))))
    ·refine gF (dz fhg59_9) rfl rfl (OF.move (tv (tN i) rfl)) ?_
     refine Yl (tI g.Cols) (dz fhg59_9) rfl rfl rfl rfl Zn rfl rfl QU (gF (dz fhg59_9) rfl rfl (xge (tv (tN i) rfl) (tv (tI g.Cols) rfl)) (gF (dz fhg59_9) rfl rfl (OF.move (tv (tB (decide (g.Cols≤((i:Nat):Int)))) rfl)) ?_))
     refine VRunO.joinB 8 [65,66,67,68,69,70,71] 72 (tB (decide ((g.Cols≤((i:Nat):Int))∧((s1[i - g.Cols.toNat]?.getD false)=true)))) ?_ ?_
     ·refine gw (g.Cols≤((i:Nat):Int)) (fun fhg64_10=> ?_) fun fhg64_10=> ?_
      ·refine gF (dy fhg64_10) rfl rfl (OF.move (tv (T.os 1 1 0 ((s1.map (Qm true)).length)) rfl)) ?_
       refine gF (dy fhg64_10) rfl rfl (OF.move (tv (tN i) rfl)) (Yl (tI g.Cols) (dy fhg64_10) rfl rfl rfl rfl Zn rfl rfl QU (gF (dy fhg64_10) rfl rfl (B.sub (n:=((i - g.Cols.toNat:Nat):Int)) (tv (tN i) rfl) (tv (tI g.Cols) rfl) (by (rw [Qt (by omega)];omega))) ?_))
       have hy11:s1[i - g.Cols.toNat]? =some (s1[i - g.Cols.toNat]?.getD false):=Qae false (by omega)
       refine gF (dy fhg64_10) rfl rfl (B.indexAddrO (i:=i - g.Cols.toNat) (tv (T.os 1 1 0 ((s1.map (Qm true)).length)) rfl) (tv (tN (i - g.Cols.toNat)) rfl) rfl (by (simp only [List.length_map];omega)) Jd sz4 if4) (gL (dy fhg64_10) rfl rfl (OL.loadP1 (t:=(tB (s1[i - g.Cols.toNat]?.getD false))) (row:=(Qm true (s1[i - g.Cols.toNat]?.getD false))) (tv (T.orp 1 1 (i - g.Cols.toNat) 0) rfl) rfl (Qv _ hy11) rfl rfl st4) (gF (dz fhg59_9) rfl rfl (OF.pickT (VEv.tmpB rfl (dy fhg64_10)) (tv (tB (s1[i - g.Cols.toNat]?.getD false)) rfl)) (VRunO.nil ?_)))
       exact jq (congrArg T.bool (kAT fhg64_10 (dT _))) (js rfl (js rfl (js rfl (js rfl (js rfl (js rfl (js rfl (jn))))))))
      ·refine Qy 7 28 true 64 (dz fhg64_10) rfl rfl rfl ?_
       refine gF (dz fhg59_9) rfl rfl (OF.pickF (VEv.tmpB rfl (dz fhg64_10)) (VEv.bool false)) (VRunO.nil ?_)
       exact jq (congrArg T.bool (kAF fhg64_10)) (js rfl (js rfl (js rfl (js rfl (js rfl (js rfl (js rfl (jn))))))))
     refine fO (OF.pickF (VEv.tmpB rfl (dz fhg59_9)) (tv (tB (decide ((g.Cols≤((i:Nat):Int))∧((s1[i - g.Cols.toNat]?.getD false)=true)))) rfl)) (VRunO.nil ?_)
     exact jq (congrArg T.bool (kOF fhg59_9 rfl)) (js rfl (js rfl (js rfl (js rfl (js rfl (js rfl (js rfl (js rfl (js rfl (js rfl (js rfl (js rfl (js rfl (jn))))))))))))))
   refine mO (tB (decide ((((0<m)∧((s1[i - 1]?.getD false)=true))∨(((((m+1):Nat):Int)<g.Cols)∧((s1[(i+1)]?.getD false)=true)))∨((g.Cols≤((i:Nat):Int))∧((s1[i - g.Cols.toNat]?.getD false)=true))))) rfl ?_
   refine VRunO.joinB 17 [75,76,77,78,79,80,81,82,83,84,85,86,87,88,89,90] 91 (tB (decide (((((0<m)∧((s1[i - 1]?.getD false)=true))∨(((((m+1):Nat):Int)<g.Cols)∧((s1[(i+1)]?.getD false)=true)))∨((g.Cols≤((i:Nat):Int))∧((s1[i - g.Cols.toNat]?.getD false)=true)))∨((i+g.Cols.toNat<s1.length)∧((s1[i+g.Cols.toNat]?.getD false)=true))))) ?_ ?_
   ·refine gw ((((0<m)∧((s1[i - 1]?.getD false)=true))∨(((((m+1):Nat):Int)<g.Cols)∧((s1[(i+1)]?.getD false)=true)))∨((g.Cols≤((i:Nat):Int))∧((s1[i - g.Cols.toNat]?.getD false)=true))) (fun fhg74_12=> ?_) fun fhg74_12=> ?_
    ·refine Qy 8 38 false 74 (dy fhg74_12) rfl rfl rfl ?_
     refine Qac 7 46 true 82 rfl rfl rfl (oO rfl rfl (dy fhg74_12) (fO (OF.pickT (VEv.tmpB rfl (dy fhg74_12)) (VEv.bool true)) (VRunO.nil ?_)))
     exact jq (congrArg T.bool (kOT fhg74_12)) (js rfl (js rfl (js rfl (js rfl (js rfl (js rfl (js rfl (js rfl (js rfl (js rfl (js rfl (js rfl (js rfl (js rfl (js rfl (js rfl (jn)))))))))))))))))
    ·refine gF (dz fhg74_12) rfl rfl (OF.move (tv (tN i) rfl)) ?_
     refine Yl (tI g.Cols) (dz fhg74_12) rfl rfl rfl rfl Zn rfl rfl QU (gF (dz fhg74_12) rfl rfl (B.add (n:=((i+g.Cols.toNat:Nat):Int)) (tv (tN i) rfl) (tv (tI g.Cols) rfl) (by (rw [Qt (by omega)];omega))) (gF (dz fhg74_12) rfl rfl (OF.move (tv (T.os 1 1 0 ((s1.map (Qm true)).length)) rfl)) (gL (dz fhg74_12) rfl rfl (B.lenO (m:=s1.length) (tv (T.os 1 1 0 ((s1.map (Qm true)).length)) rfl) Jd (List.length_map ..)) (gF (dz fhg74_12) rfl rfl (Zf (tv (tN (i+g.Cols.toNat)) rfl) (tv (tN s1.length) rfl)) (gF (dz fhg74_12) rfl rfl (OF.move (tv (tB (decide (i+g.Cols.toNat<s1.length))) rfl)) ?_)))))
     refine VRunO.joinB 8 [83,84,85,86,87,88,89] 90 (tB (decide ((i+g.Cols.toNat<s1.length)∧((s1[i+g.Cols.toNat]?.getD false)=true)))) ?_ ?_
     ·refine gw (i+g.Cols.toNat<s1.length) (fun fhg82_13=> ?_) fun fhg82_13=> ?_
      ·refine gF (dy fhg82_13) rfl rfl (OF.move (tv (T.os 1 1 0 ((s1.map (Qm true)).length)) rfl)) ?_
       refine gF (dy fhg82_13) rfl rfl (OF.move (tv (tN i) rfl)) (Yl (tI g.Cols) (dy fhg82_13) rfl rfl rfl rfl Zn rfl rfl QU (gF (dy fhg82_13) rfl rfl (B.add (n:=((i+g.Cols.toNat:Nat):Int)) (tv (tN i) rfl) (tv (tI g.Cols) rfl) (by (rw [Qt (by omega)];omega))) ?_))
       have hy14:s1[i+g.Cols.toNat]? =some (s1[i+g.Cols.toNat]?.getD false):=Qae false (by omega)
       refine gF (dy fhg82_13) rfl rfl (B.indexAddrO (i:=i+g.Cols.toNat) (tv (T.os 1 1 0 ((s1.map (Qm true)).length)) rfl) (tv (tN (i+g.Cols.toNat)) rfl) rfl (by (simp only [List.length_map];omega)) Jd sz4 if4) (gL (dy fhg82_13) rfl rfl (OL.loadP1 (t:=(tB (s1[i+g.Cols.toNat]?.getD false))) (row:=(Qm true (s1[i+g.Cols.toNat]?.getD false))) (tv (T.orp 1 1 (i+g.Cols.toNat) 0) rfl) rfl (Qv _ hy14) rfl rfl st4) (gF (dz fhg74_12) rfl rfl (OF.pickT (VEv.tmpB rfl (dy fhg82_13)) (tv (tB (s1[i+g.Cols.toNat]?.getD false)) rfl)) (VRunO.nil ?_)))
       exact jq (congrArg T.bool (kAT fhg82_13 (dT _))) (js rfl (js rfl (js rfl (js rfl (js rfl (js rfl (js rfl (jn))))))))
      ·refine Qy 7 46 true 82 (dz fhg82_13) rfl rfl rfl ?_
       refine gF (dz fhg74_12) rfl rfl (OF.pickF (VEv.tmpB rfl (dz fhg82_13)) (VEv.bool false)) (VRunO.nil ?_)
       exact jq (congrArg T.bool (kAF fhg82_13)) (js rfl (js rfl (js rfl (js rfl (js rfl (js rfl (js rfl (jn))))))))
     refine fO (OF.pickF (VEv.tmpB rfl (dz fhg74_12)) (tv (tB (decide ((i+g.Cols.toNat<s1.length)∧((s1[i+g.Cols.toNat]?.getD false)=true)))) rfl)) (VRunO.nil ?_)
     exact jq (congrArg T.bool (kOF fhg74_12 rfl)) (js rfl (js rfl (js rfl (js rfl (js rfl (js rfl (js rfl (js rfl (js rfl (js rfl (js rfl (js rfl (js rfl (js rfl (js rfl (js rfl (jn)))))))))))))))))
   refine aO (tB (decide (((((0<m)∧((s1[i - 1]?.getD false)=true))∨(((((m+1):Nat):Int)<g.Cols)∧((s1[(i+1)]?.getD false)=true)))∨((g.Cols≤((i:Nat):Int))∧((s1[i - g.Cols.toNat]?.getD false)=true)))∨((i+g.Cols.toNat<s1.length)∧((s1[i+g.Cols.toNat]?.getD false)=true))))) rfl (nt (sr (mO (tB (decide (((((0<m)∧((s1[i - 1]?.getD false)=true))∨(((((m+1):Nat):Int)<g.Cols)∧((s1[(i+1)]?.getD false)=true)))∨((g.Cols≤((i:Nat):Int))∧((s1[i - g.Cols.toNat]?.getD false)=true)))∨((i+g.Cols.toNat<s1.length)∧((s1[i+g.Cols.toNat]?.getD false)=true))))) rfl (nt ?_))))
   refine cd (((((0<m)∧((s1[i - 1]?.getD false)=true))∨(((((m+1):Nat):Int)<g.Cols)∧((s1[(i+1)]?.getD false)=true)))∨((g.Cols≤((i:Nat):Int))∧((s1[i - g.Cols.toNat]?.getD false)=true)))∨((i+g.Cols.toNat<s1.length)∧((s1[i+g.Cols.toNat]?.getD false)=true))) rfl (fun fhc3=> ?_) fun fhc3=> ?_
   ·rw [hm] at fhc3
    have q1:=QkE (g:=g) (s:=s1) (ag:=ag1) (i:=i) ⟨by omega,on_no.2 (fun h=>fhc2 (.inl (e2.symm.trans h))),(Qh6 hB.1 fhc1).1 fhc3⟩
    refine sr (mO (T.os 1 1 0 ((s1.map (Qm true)).length)) rfl (mO (tN i) rfl (fO (B.indexAddrO (i:=i) (tv (T.os 1 1 0 ((s1.map (Qm true)).length)) rfl) (tv (tN i) rfl) rfl (by (simp only [List.length_map];omega)) Jd sz4 if4) (cO (B.storeP (us:= [(tB true)]) (rows':=((s1.set i true).map (Qm true))) (row:=(Qm true x2)) (tv (T.orp 1 1 i 0) rfl) (VEv.bool true) nofun rfl (Qv _ hx2) rfl (lb rfl) if4 sz4 (bc rfl bn) (by intro r hr t ht;obtain ⟨x,_,rfl⟩:=List.mem_map.1 hr;rw [Qg1] at ht;exact ZQ (okBool.pl _ t ht)) (ZL rfl)) (nt (VRun.region (fO (OF.assign (VEv.bool true)) (VRunO.nil (vinB.n (tn (VRun.region ?_)))))))))))
    refine mO (tN i) rfl (fO (QB (tv (tN i) rfl) (VEv.int .i64 1) (by omega)) (aO (tN (i+1)) rfl (VRunO.nil (tn ?_))))
    have he15:(s1.set i true)=(YQ g s1 i):=by exact q1.1
    refine ⟨((i+1,YQ g s1 i,Qb4 g ag1 s1 i):Nat×(List Bool)×Bool),?_,?_,Wk.mk (fun k=>k) ?_ ?_ ?_⟩
    ·exact hI'.next fhc1
    ·show (YQ g s1 i).length - (i+1)<s1.length - i
     have e1:(YQ g s1 i).length=s1.length:=by unfold YQ;split<;>simp
     rw [e1];omega
    ·exact (bc ⟨(congrArg (fun n_=>T.os 1 1 0 n_) (show (s1.map (Qm true)).length=((YQ g s1 i).map (Qm true)).length from (by (rw [← q1.1];simp;done)))),rfl⟩ (b2 (b2 (bc ⟨(congrArg T.bool (show true=(Qb4 g ag1 s1 i) from (by exact q1.2))),rfl⟩ (b2 bn)))))
    ·exact (b3 (bc ⟨(congrArg (fun l_=>some (Obj.rows 1 (List.map (Qm true) l_))) he15),(lb rfl),rfl⟩ bn))
    ·exact nd rfl
   rw [hm] at fhc3
   have q1:=Qju (g:=g) (s:=s1) (ag:=ag1) (i:=i) (by rintro ⟨h1,h2,h3⟩;exact fhc3 ((Qh6 hB.1 fhc1).2 h3))
   refine sk (vinB.n (tn (VRun.region (mO (tN i) rfl (fO (QB (tv (tN i) rfl) (VEv.int .i64 1) (by omega)) (aO (tN (i+1)) rfl (VRunO.nil (tn ?_))))))))
   have he16:s1=(YQ g s1 i):=by exact q1.1
   refine ⟨((i+1,YQ g s1 i,Qb4 g ag1 s1 i):Nat×(List Bool)×Bool),?_,?_,Wk.mk (fun k=>k) ?_ ?_ ?_⟩
   ·exact hI'.next fhc1
   ·show (YQ g s1 i).length - (i+1)<s1.length - i
    have e1:(YQ g s1 i).length=s1.length:=by unfold YQ;split<;>simp
    rw [e1];omega
   ·exact (bc ⟨(congrArg (fun l_=>T.os 1 1 0 (List.map (Qm true) l_).length) he16),rfl⟩ (b2 (b2 (bc ⟨(congrArg T.bool (show ag1=(Qb4 g ag1 s1 i) from (by exact q1.2))),rfl⟩ (b2 bn)))))
   ·exact (b3 (bc ⟨(congrArg (fun l_=>some (Obj.rows 1 (List.map (Qm true) l_))) he16),(lb rfl),rfl⟩ bn))
   ·exact nd rfl
  refine VRun.exit (vthn.e (vthn.e (vinB.e (vinB.n (tn ?_)))))
  refine ⟨((ag1,s1):Bool×(List Bool)),?_,?_,Wk.mk (fun k=>k) ?_ ?_ ?_⟩
  ·exact hI'.done fhc1
  ·exact hI'.dec fhc0
  ·exact (b2 (b2 (b2 (b2 bn))))
  ·exact (b3 (b3 bn))
  ·exact nd rfl
 have fhc0:ag=false:=hc0
 refine VRun.exit (vthn.e (vthn.e (vinB.e (tn (sr (mO (T.os 1 1 0 ((s.map (Qm true)).length)) rfl (aO (T.os 1 1 0 ((s.map (Qm true)).length)) rfl (nt (rt ?_)))))))))
 have hnew:s=Zm g (seen.set cell true):=by
  exact hI'.done (by simp [fhc0])
 exact vloan.r 1 (VRes.tmp (t:=(T.os 1 1 0 ((s.map (Qm true)).length))) rfl VRes.nil) (congrArg (fun l_=>T.os 1 1 0 (List.map (Qm true) l_).length) hnew) (congrArg (fun n_=>T.os 1 1 0 n_) (show (s.map (Qm true)).length=(seen.map (Qm true)).length from (by (simp only [List.length_map,Qcl,List.length_set];omega)))) rfl (congrArg (List.map (Qm true)) hnew)
end Go.Proofs.YtcccmceoplcciaaGreat.AE
namespace Go.Proofs.YtcccmceoplcciaaGreat.AE
open Go Go.RowKit
set_option linter.unusedVariables false
set_option linter.unusedSimpArgs false
set_option maxRecDepth 20000
set_option maxHeartbeats 2000000
noncomputable section
def QfI (a b:List Bool):List Bool:=List.zipWith (fun x y=>x || y) a b
def ZU (a b:List Bool) (k:Nat):List Bool:=(QfI a b).take k++a.drop k
theorem J8 {a b:List Bool} (h:b.length=a.length):(QfI a b).length=a.length:=by simp [QfI,h]
theorem Qdo {a b:List Bool} {k:Nat} (h:b.length=a.length) (hk:k≤a.length):(ZU a b k).length=a.length:=by
 unfold ZU
 rw [List.length_append,List.length_take,J8 h,List.length_drop];omega
theorem Qk9 {a b:List Bool} {k:Nat} {x:Bool} (h:b.length=a.length) (hk:k<a.length) (hx:(ZU a b k)[k]? =some x):x=on a k:=by
 unfold ZU at hx
 rw [List.getElem?_append_right (by rw [List.length_take,J8 h];omega),List.length_take,J8 h,Nat.min_eq_left (by omega),Nat.sub_self,List.getElem?_drop,Nat.add_zero] at hx
 rw [on,hx];rfl
theorem QiM {a b:List Bool} (h:b.length=a.length) (j:Nat):on (QfI a b) j=(on a j || on b j):=by
 unfold on QfI
 rw [List.getElem?_zipWith]
 rcases Nat.lt_or_ge j a.length with h1 | h1
 ·rw [List.getElem?_eq_getElem h1,List.getElem?_eq_getElem (by omega)];rfl
 ·rw [List.getElem?_eq_none h1,List.getElem?_eq_none (by omega)];rfl
theorem Qiy {a b:List Bool} {k:Nat} {v:Bool} (h:b.length=a.length) (hk:k<a.length) (hv:v=(on a k || on b k)):(ZU a b k).set k v=ZU a b (k+1):=by
 have hl:=J8 h
 have hu:(QfI a b)[k]? =some v:=by
  have h1:=QiM h k
  unfold on at h1 hv
  rw [List.getElem?_eq_getElem (by omega)] at h1 ⊢
  rw [hv,← h1];rfl
 unfold ZU
 rw [List.set_append_right _ _ (by rw [List.length_take];omega),List.length_take,hl,Nat.min_eq_left (by omega),Nat.sub_self,List.drop_eq_getElem_cons hk,List.set_cons_zero,List.take_add_one,hu]
 simp
theorem QiP {a b:List Bool} {k:Nat} (h:b.length=a.length) (hk:¬k<a.length):ZU a b k=QfI a b:=by
 unfold ZU
 rw [List.take_of_length_le (by rw [J8 h];omega),List.drop_of_length_le (by omega),List.append_nil]
def fresh (g:D.Grid) (i:Nat):List Bool:=Zm g ((List.replicate g.Cells.size false).set i true)
def QcZ (g:D.Grid) (s:List Bool) (i:Nat):Prop:=Qu g.Cells i=46∧on s i=false
instance (g:D.Grid) (s:List Bool) (i:Nat):Decidable (QcZ g s i):=Classical.propDecidable _
def Qn (g:D.Grid):Nat→Nat×List Bool
 | 0=>(0,List.replicate g.Cells.size false)
 | i+1=>if QcZ g (Qn g i).2 i then ((Qn g i).1+1,QfI (Qn g i).2 (fresh g i)) else Qn g i
theorem QaR (g:D.Grid) (i:Nat):(fresh g i).length=g.Cells.size:=by simp [fresh,Qcl]
theorem Ji (g:D.Grid):∀i,(Qn g i).2.length=g.Cells.size
 | 0=>by simp [Qn]
 | i+1=>by
  have h:=Ji g i
  unfold Qn
  split
  ·simp only;rw [J8 (by rw [QaR,h])];exact h
  ·exact h
theorem Qdk (g:D.Grid):∀i,(Qn g i).1≤i
 | 0=>Nat.le_refl _
 | i+1=>by
  have h:=Qdk g i
  unfold Qn
  split
  ·simp only;omega
  ·omega
theorem Qdf {g:D.Grid} {i:Nat} (h:QcZ g (Qn g i).2 i):(Qn g (i+1)).1=(Qn g i).1+1∧(Qn g (i+1)).2=QfI (Qn g i).2 (fresh g i):=by
 rw [Qn,if_pos h];exact ⟨rfl,rfl⟩
theorem Qbw {g:D.Grid} {i:Nat} (h:¬QcZ g (Qn g i).2 i):Qn g (i+1)=Qn g i:=by
 rw [Qn,if_neg h]
def Z5 (g:D.Grid):Nat:=if gridOk g then (Qn g g.Cells.size).1 else 0
theorem Qgf {g:D.Grid} {i:Nat} (h1:i≤g.Cells.size) (h2:gridOk g∨i=0) (h3:¬(i<g.Cells.size∧gridOk g)):(Qn g i).1=Z5 g:=by
 unfold Z5
 by_cases hg:gridOk g
 ·rw [if_pos hg,show i=g.Cells.size by have:¬i<g.Cells.size:=fun h=>h3 ⟨h,hg⟩;omega]
 ·rw [if_neg hg,h2.resolve_left hg];rfl
theorem orB (x y:Bool):decide (x=true∨y=true)=(x || y):=by cases x<;>cases y<;>rfl
end
theorem QeE (n:Nat) (g:D.Grid) (hc:g.Cells.size≤mx):Pure (Qq Tryz.prog (n+3)) 157 [(T.agg (Qc false g))] (tN (Z5 g)):=by
 refine Pure.intro (rs:= [ResultVar.tmp 2]) Tryz.func157 rfl rfl rfl (E0:= [(0,(T.agg (Qc false g)))]) rfl ?_
 obtain ⟨hlim,hmx,hmax⟩:=QC
 refine sr (kO (B.box (ts:=(Qc false g)) (tv (T.agg (Qc false g)) rfl) nofun rfl) (fO (OF.assign (VEv.int .i64 0)) (nt (sr (fO (OF.assign (VEv.int .i64 0)) (nt (sr (kO (OM.slice0 Jd zo4 (by kernel_rfl) rfl (by rw [sz4];decide) sz4) (aO (T.os 1 1 0 0) rfl (nt (sq ?_)))))))))))
 refine sr (fO (OF.assign (VEv.int .i64 0)) (nt (VRun.block ?_)))
 have he1: []=((List.replicate 0 false).map (Qm true)):=by rfl
 refine VRun.loop (A:=Nat) (fun s_=> [(1,(T.op 0 0)),(2,(tN 0)),(3,(tN 0)),(4,(T.os 1 1 0 (((List.replicate s_ false).map (Qm true)).length))),(5,(tN s_))]) (fun s_=>Q3 [(0,(Obj.cells (Qc false g))),(1,(Obj.rows 1 ((List.replicate s_ false).map (Qm true))))]) 2 (fun s_=>s_≤g.Cells.size) (fun s_=>g.Cells.size - s_) (0:Nat) ?_ (Wk.mk (fun k=>k) ?_ ?_ ?_) ?_
 ·(simp;done)
 ·exact (b2 (b2 (b2 (bc ⟨(congrArg (fun n_=>T.os 1 1 0 n_) (show 0=((List.replicate 0 false).map (Qm true)).length from (by rfl))),rfl⟩ (b2 bn)))))
 ·exact (b3 (bc ⟨(congrArg (fun l_=>some (Obj.rows 1 l_)) he1),(lb rfl),rfl⟩ bn))
 ·exact nd rfl
 rintro k (hI':k≤g.Cells.size)
 show VRun _ _ _ [(1,(T.op 0 0)),(2,(tN 0)),(3,(tN 0)),(4,(T.os 1 1 0 (((List.replicate k false).map (Qm true)).length))),(5,(tN k))] (Q3 [(0,(Obj.cells (Qc false g))),(1,(Obj.rows 1 ((List.replicate k false).map (Qm true))))]) 2 _
 have hK1:=hI'
 refine sq (sr (mO (tN k) rfl (lf (tS g.Cells) rfl QE rfl rfl Z7 (lO (B.lenS (tv (tS g.Cells) rfl) U9) (fO (Zf (tv (tN k) rfl) (tv (tN g.Cells.size) rfl)) (nt ?_))))))
 refine cd (k<g.Cells.size) rfl (fun fhc0=> ?_) fun fhc0=> ?_
 ·refine sk ?_
  refine tn (sq (VRun.block (VRun.region (mO (T.os 1 1 0 (((List.replicate k false).map (Qm true)).length)) rfl (kO (OM.buildSlice (l:= [(tB false)]) (VEvp.cons (VEv.bool false) VEvp.nil) rfl (by decide) (bc (nofun) bn) (bc ((bc (rfl) bn)) bn) (bc (rfl) bn) Jd zo4 (by kernel_rfl) rfl (by rw [sz4];decide) sz4 (Nat.le_of_ble_eq_true rfl)) (cO (B.append (rows:=((List.replicate k false).map (Qm true))) (rows2:= [[(tB false)]]) (rows3:=((List.replicate k false++ [false]).map (Qm true))) (VDst.own (tv (T.os 1 1 0 (((List.replicate k false).map (Qm true)).length)) rfl) rfl rfl) (VSrc.own (tv (T.os 1 2 0 1) rfl) rfl rfl Jd (bc (bc rfl bn) bn)) (by decide) Jd sz4 (by decide) zo4 rfl (of_decide_eq_true (by kernel_rfl)) (by (simp only [List.length_map,List.length_append,List.length_cons,List.length_nil,List.length_replicate,List.length_set,List.length_drop,List.length_take,YW] at *;omega)) ((List.map_append (f:=Qm true) (l₁:=List.replicate k false) (l₂:= [false])).symm)) (aO (T.os 1 3 0 (((List.replicate k false++ [false]).map (Qm true)).length)) rfl (VRunO.nil (vinB.n (tn (VRun.region ?_)))))))))))
  refine mO (tN k) rfl (fO (QB (tv (tN k) rfl) (VEv.int .i64 1) (by omega)) (aO (tN (k+1)) rfl (VRunO.nil (tn ?_))))
  have he2:(List.replicate k false++ [false])=List.replicate (k+1) false:=by rw [List.replicate_succ']
  refine ⟨(k+1:Nat),?_,?_,Wk.mk (fun k=>if k=1 then 3 else k) ?_ ?_ ?_⟩
  ·trivial
  ·omega
  ·exact (b2 (b2 (b2 (bc ⟨(congrArg (fun l_=>T.os 1 3 0 (List.map (Qm true) l_).length) he2),rfl⟩ (b2 bn)))))
  ·exact (b3 (bc ⟨(congrArg (fun l_=>some (Obj.rows 1 (List.map (Qm true) l_))) he2),(lb rfl),rfl⟩ bn))
  ·exact nd rfl
 refine VRun.exit (vthn.e (vthn.e (vinB.e (tn (sq (sr (fO (OF.assign (VEv.int .i64 0)) (nt (VRun.block ?_)))))))))
 have he3:List.replicate k false=(Qn g 0).2:=by (show List.replicate k false=List.replicate g.Cells.size false;rw [show k=g.Cells.size by omega])
 refine VRun.loop (A:=Nat) (fun s_=> [(1,(T.op 0 0)),(2,(tN 0)),(3,(tN ((Qn g s_).1))),(4,(T.os 1 1 0 ((((Qn g s_).2).map (Qm true)).length))),(6,(tN s_))]) (fun s_=>Q3 [(0,(Obj.cells (Qc false g))),(1,(Obj.rows 1 (((Qn g s_).2).map (Qm true))))]) 2 (fun s_=>s_≤g.Cells.size∧(gridOk g∨s_=0)) (fun s_=>g.Cells.size - s_) (0:Nat) ?_ (Wk.mk (fun k=>k) ?_ ?_ ?_) ?_
 ·exact ⟨Nat.zero_le _, .inr rfl⟩
 ·exact (b2 (b2 (bc ⟨(congrArg (T.int .i64) (show 0=(((Qn g 0).1:Nat):Int) from (by rfl))),rfl⟩ (bc ⟨(congrArg (fun l_=>T.os 1 1 0 (List.map (Qm true) l_).length) he3),rfl⟩ (b2 bn)))))
 ·exact (b3 (bc ⟨(congrArg (fun l_=>some (Obj.rows 1 (List.map (Qm true) l_))) he3),(lb rfl),rfl⟩ bn))
 ·exact nd rfl
 rintro i (hI':i≤g.Cells.size∧(gridOk g∨i=0))
 show VRun _ _ _ [(1,(T.op 0 0)),(2,(tN 0)),(3,(tN ((Qn g i).1))),(4,(T.os 1 1 0 ((((Qn g i).2).map (Qm true)).length))),(6,(tN i))] (Q3 [(0,(Obj.cells (Qc false g))),(1,(Obj.rows 1 (((Qn g i).2).map (Qm true))))]) 2 _
 have hI1:=hI'.1
 have hpl:=Ji g i
 have hpn:=Qdk g i
 refine sq (sr (mO (tN i) rfl (lf (tS g.Cells) rfl QE rfl rfl Z7 (lO (B.lenS (tv (tS g.Cells) rfl) U9) (fO (Zf (tv (tN i) rfl) (tv (tN g.Cells.size) rfl)) (mO (tB (decide (i<g.Cells.size))) rfl ?_))))))
 refine VRunO.joinB 3 [27,28] 29 (tB (decide ((i<g.Cells.size)∧(gridOk g)))) ?_ ?_
 ·refine gw (i<g.Cells.size) (fun fhg26_4=> ?_) fun fhg26_4=> ?_
  ·refine gL (dy fhg26_4) rfl rfl (OL.loadOn (us:=(Qc false g)) (tv (T.op 0 0) rfl) rfl QX QT (lb rfl) rfl) ?_
   refine VRunO.chain (VWant.on rfl rfl (dy fhg26_4)) (cS (vc (tv (T.agg (Qc false g)) rfl) vn) (LendL.cons (lg Qs) ln) (ZZ (n+0) g (by omega)) rfl rfl) (fO (OF.pickT (VEv.tmpB rfl (dy fhg26_4)) (tv (tB (decide (gridOk g))) rfl)) (VRunO.nil ?_))
   exact jq (congrArg T.bool (kAT fhg26_4 rfl)) (js rfl (js rfl (jn)))
  ·refine Qy 2 5 true 26 (dz fhg26_4) rfl rfl rfl ?_
   refine fO (OF.pickF (VEv.tmpB rfl (dz fhg26_4)) (VEv.bool false)) (VRunO.nil ?_)
   exact jq (congrArg T.bool (kAF fhg26_4)) (js rfl (js rfl (jn)))
 refine nt ?_
 refine cd ((i<g.Cells.size)∧(gridOk g)) rfl (fun fhc1=> ?_) fun fhc1=> ?_
 ·refine sk ?_
  refine tn (sq (VRun.block (sr (lf (tS g.Cells) rfl QE rfl rfl Z7 (mO (tN i) rfl ?_)))))
  have hb5:i<g.Cells.size:=(by omega)
  refine fO (JN (tv (tS g.Cells) rfl) (tv (tN i) rfl) hb5 U9) (fO (Y7 (tv (T.int .u8 (Qu g.Cells i)) rfl) (VEv.int .u8 46)) (mO (tB (decide (Qu g.Cells i=46))) rfl ?_))
  refine VRunO.joinB 6 [38,39,40,41,42] 43 (tB (decide ((Qu g.Cells i=46)∧((!(((Qn g i).2)[i]?.getD false))=true)))) ?_ ?_
  ·refine gw (Qu g.Cells i=46) (fun fhg37_6=> ?_) fun fhg37_6=> ?_
   ·refine gF (dy fhg37_6) rfl rfl (OF.move (tv (T.os 1 1 0 ((((Qn g i).2).map (Qm true)).length)) rfl)) ?_
    refine gF (dy fhg37_6) rfl rfl (OF.move (tv (tN i) rfl)) ?_
    have hy7:((Qn g i).2)[i]? =some (((Qn g i).2)[i]?.getD false):=Qae false (by omega)
    refine gF (dy fhg37_6) rfl rfl (B.indexAddrO (i:=i) (tv (T.os 1 1 0 ((((Qn g i).2).map (Qm true)).length)) rfl) (tv (tN i) rfl) rfl (by (simp only [List.length_map];omega)) Jd sz4 if4) (gL (dy fhg37_6) rfl rfl (OL.loadP1 (t:=(tB (((Qn g i).2)[i]?.getD false))) (row:=(Qm true (((Qn g i).2)[i]?.getD false))) (tv (T.orp 1 1 i 0) rfl) rfl (Qv _ hy7) rfl rfl st4) (gF (dy fhg37_6) rfl rfl (QW (tv (tB (((Qn g i).2)[i]?.getD false)) rfl)) (fO (OF.pickT (VEv.tmpB rfl (dy fhg37_6)) (tv (tB (!(((Qn g i).2)[i]?.getD false))) rfl)) (VRunO.nil ?_))))
    exact jq (congrArg T.bool (kAT fhg37_6 (dT _))) (js rfl (js rfl (js rfl (js rfl (js rfl (jn))))))
   ·refine Qy 5 5 true 37 (dz fhg37_6) rfl rfl rfl ?_
    refine fO (OF.pickF (VEv.tmpB rfl (dz fhg37_6)) (VEv.bool false)) (VRunO.nil ?_)
    exact jq (congrArg T.bool (kAF fhg37_6)) (js rfl (js rfl (js rfl (js rfl (js rfl (jn))))))
  refine nt ?_
  refine cd ((Qu g.Cells i=46)∧((!(((Qn g i).2)[i]?.getD false))=true)) rfl (fun fhc2=> ?_) fun fhc2=> ?_
  ·have q0:QcZ g (Qn g i).2 i:=⟨fhc2.1,by simpa [on] using fhc2.2⟩
   have q1:=Qdf q0
   have hgs:=fhc1.2.size
   refine sr (mO (tN ((Qn g i).1)) rfl (fO (QB (tv (tN ((Qn g i).1)) rfl) (VEv.int .i64 1) (by omega)) (aO (tN ((Qn g i).1+1)) rfl (nt (sr (kO (OM.slice0 Jd zo4 (by kernel_rfl) rfl (by rw [sz4];decide) sz4) (aO (T.os 1 2 0 0) rfl (nt (sq (sr (fO (OF.assign (VEv.int .i64 0)) ?_)))))))))))
   refine nt (VRun.block ?_)
   have he8: []=((List.replicate 0 false).map (Qm true)):=by rfl
   refine VRun.loop (A:=Nat) (fun s_=> [(1,(T.op 0 0)),(2,(tN 0)),(3,(tN ((Qn g i).1+1))),(4,(T.os 1 1 0 ((((Qn g i).2).map (Qm true)).length))),(6,(tN i)),(7,(T.os 1 2 0 (((List.replicate s_ false).map (Qm true)).length))),(8,(tN s_))]) (fun s_=>Q3 [(0,(Obj.cells (Qc false g))),(1,(Obj.rows 1 (((Qn g i).2).map (Qm true)))),(2,(Obj.rows 1 ((List.replicate s_ false).map (Qm true))))]) 3 (fun s_=>s_≤(Qn g i).2.length) (fun s_=>(Qn g i).2.length - s_) (0:Nat) ?_ (Wk.mk (fun k=>k) ?_ ?_ ?_) ?_
   ·(simp;done)
   ·exact (b2 (b2 (b2 (b2 (b2 (bc ⟨(congrArg (fun n_=>T.os 1 2 0 n_) (show 0=((List.replicate 0 false).map (Qm true)).length from (by rfl))),rfl⟩ (b2 bn)))))))
   ·exact (b3 (b3 (bc ⟨(congrArg (fun l_=>some (Obj.rows 1 l_)) he8),(lb rfl),rfl⟩ bn)))
   ·exact nd rfl
   rintro k1 (hI':k1≤(Qn g i).2.length)
   show VRun _ _ _ [(1,(T.op 0 0)),(2,(tN 0)),(3,(tN ((Qn g i).1+1))),(4,(T.os 1 1 0 ((((Qn g i).2).map (Qm true)).length))),(6,(tN i)),(7,(T.os 1 2 0 (((List.replicate k1 false).map (Qm true)).length))),(8,(tN k1))] (Q3 [(0,(Obj.cells (Qc false g))),(1,(Obj.rows 1 (((Qn g i).2).map (Qm true)))),(2,(Obj.rows 1 ((List.replicate k1 false).map (Qm true))))]) 3 _
   have hK1:=hI'
   refine sq (sr (mO (tN k1) rfl (mO (T.os 1 1 0 ((((Qn g i).2).map (Qm true)).length)) rfl (lO (B.lenO (m:=((Qn g i).2).length) (tv (T.os 1 1 0 ((((Qn g i).2).map (Qm true)).length)) rfl) Jd (List.length_map ..)) (fO (Zf (tv (tN k1) rfl) (tv (tN (((Qn g i).2).length)) rfl)) (nt ?_))))))
   refine cd (k1<((Qn g i).2).length) rfl (fun fhc3=> ?_) fun fhc3=> ?_
   ·refine sk ?_
    refine tn (sq (VRun.block (VRun.region (mO (T.os 1 2 0 (((List.replicate k1 false).map (Qm true)).length)) rfl (kO (OM.buildSlice (l:= [(tB false)]) (VEvp.cons (VEv.bool false) VEvp.nil) rfl (by decide) (bc (nofun) bn) (bc ((bc (rfl) bn)) bn) (bc (rfl) bn) Jd zo4 (by kernel_rfl) rfl (by rw [sz4];decide) sz4 (Nat.le_of_ble_eq_true rfl)) (cO (B.append (rows:=((List.replicate k1 false).map (Qm true))) (rows2:= [[(tB false)]]) (rows3:=((List.replicate k1 false++ [false]).map (Qm true))) (VDst.own (tv (T.os 1 2 0 (((List.replicate k1 false).map (Qm true)).length)) rfl) rfl rfl) (VSrc.own (tv (T.os 1 3 0 1) rfl) rfl rfl Jd (bc (bc rfl bn) bn)) (by decide) Jd sz4 (by decide) zo4 rfl (of_decide_eq_true (by kernel_rfl)) (by (simp only [List.length_map,List.length_append,List.length_cons,List.length_nil,List.length_replicate,List.length_set,List.length_drop,List.length_take,YW] at *;omega)) ((List.map_append (f:=Qm true) (l₁:=List.replicate k1 false) (l₂:= [false])).symm)) (aO (T.os 1 4 0 (((List.replicate k1 false++ [false]).map (Qm true)).length)) rfl (VRunO.nil (vinB.n (tn (VRun.region ?_)))))))))))
    refine mO (tN k1) rfl (fO (QB (tv (tN k1) rfl) (VEv.int .i64 1) (by omega)) (aO (tN (k1+1)) rfl (VRunO.nil (tn ?_))))
    have he9:(List.replicate k1 false++ [false])=List.replicate (k1+1) false:=by rw [List.replicate_succ']
    refine ⟨(k1+1:Nat),?_,?_,Wk.mk (fun k=>if k=2 then 4 else k) ?_ ?_ ?_⟩
    ·trivial
    ·omega
    ·exact (b2 (b2 (b2 (b2 (b2 (bc ⟨(congrArg (fun l_=>T.os 1 4 0 (List.map (Qm true) l_).length) he9),rfl⟩ (b2 bn)))))))
    ·exact (b3 (b3 (bc ⟨(congrArg (fun l_=>some (Obj.rows 1 (List.map (Qm true) l_))) he9),(lb rfl),rfl⟩ bn)))
    ·exact nd rfl
   have hk6:k1=g.Cells.size:=by omega
   have hq4:(fresh g i).length=(Qn g i).2.length:=by rw [QaR,hpl]
   have hfr:Zm g ((List.replicate k1 false).set i true)=fresh g i:=by rw [fresh,hk6]
   have hrl:(Zm g ((List.replicate k1 false).set i true)).length=g.Cells.size:=by rw [hfr,QaR]
   refine VRun.exit (vthn.e (vthn.e (vinB.e (tn (sr (lO (OL.loadOn (us:=(Qc false g)) (tv (T.op 0 0) rfl) rfl QX QT (lb rfl) rfl) (mO (T.os 1 2 0 (((List.replicate k1 false).map (Qm true)).length)) rfl (mO (tN i) rfl (cO (OC.callLoan (ts:= [(T.agg (Qc false g)),(T.os 1 0 0 (((List.replicate k1 false).map (Qm true)).length)),(tN i)]) (k:=2) (r:=(T.os 1 0 0 (((Zm g ((List.replicate k1 false).set i true)).map (Qm true)).length))) (rows:=((List.replicate k1 false).map (Qm true))) (rows':=((Zm g ((List.replicate k1 false).set i true)).map (Qm true))) rfl (vc (tv (T.agg (Qc false g)) rfl) (vc (tv (T.os 1 2 0 (((List.replicate k1 false).map (Qm true)).length)) rfl) (vc (tv (tN i) rfl) vn))) rfl rfl rfl (LRes.os _ _) rfl (Zw (fun _=>rfl) _) (Zw (fun _=>rfl) _) (Qd9 (n+1) g (List.replicate k1 false) i (by exact fhc1.2) (by (simp only [List.length_replicate];omega)) (by (simp only [List.length_replicate];omega)))) (aO (T.os 1 2 0 (((Zm g ((List.replicate k1 false).set i true)).map (Qm true)).length)) rfl (nt ?_)))))))))))
   refine sr (fO (OF.assign (VEv.int .i64 0)) (nt (VRun.block ?_)))
   have he10:(Qn g i).2=ZU (Qn g i).2 (fresh g i) 0:=by rfl
   refine VRun.loop (A:=Nat) (fun s_=> [(1,(T.op 0 0)),(2,(tN 0)),(3,(tN ((Qn g i).1+1))),(4,(T.os 1 2 0 (((ZU (Qn g i).2 (fresh g i) s_).map (Qm true)).length))),(6,(tN i)),(7,(T.os 1 1 0 (((Zm g ((List.replicate k1 false).set i true)).map (Qm true)).length))),(9,(tN s_))]) (fun s_=>Q3 [(0,(Obj.cells (Qc false g))),(1,(Obj.rows 1 ((Zm g ((List.replicate k1 false).set i true)).map (Qm true)))),(2,(Obj.rows 1 ((ZU (Qn g i).2 (fresh g i) s_).map (Qm true))))]) 3 (fun s_=>s_≤(Qn g i).2.length) (fun s_=>(Qn g i).2.length - s_) (0:Nat) ?_ (Wk.mk (fun k=>if k=1 then 2 else if k=2 then 1 else k) ?_ ?_ ?_) ?_
   ·(simp;done)
   ·exact (b2 (b2 (b2 (bc ⟨(congrArg (fun l_=>T.os 1 1 0 (List.map (Qm true) l_).length) he10),rfl⟩ (b2 (b2 (b2 bn)))))))
   ·exact (b3 (b3 (bc ⟨(congrArg (fun l_=>some (Obj.rows 1 (List.map (Qm true) l_))) he10),(lb rfl),rfl⟩ bn)))
   ·exact nd rfl
   rintro j (hI':j≤(Qn g i).2.length)
   show VRun _ _ _ [(1,(T.op 0 0)),(2,(tN 0)),(3,(tN ((Qn g i).1+1))),(4,(T.os 1 2 0 (((ZU (Qn g i).2 (fresh g i) j).map (Qm true)).length))),(6,(tN i)),(7,(T.os 1 1 0 (((Zm g ((List.replicate k1 false).set i true)).map (Qm true)).length))),(9,(tN j))] (Q3 [(0,(Obj.cells (Qc false g))),(1,(Obj.rows 1 ((Zm g ((List.replicate k1 false).set i true)).map (Qm true)))),(2,(Obj.rows 1 ((ZU (Qn g i).2 (fresh g i) j).map (Qm true))))]) 3 _
   have hJ1:=hI'
   have hzl:=Qdo hq4 hJ1
   refine sq (sr (mO (tN j) rfl (mO (T.os 1 2 0 (((ZU (Qn g i).2 (fresh g i) j).map (Qm true)).length)) rfl (lO (B.lenO (m:=(ZU (Qn g i).2 (fresh g i) j).length) (tv (T.os 1 2 0 (((ZU (Qn g i).2 (fresh g i) j).map (Qm true)).length)) rfl) Jd (List.length_map ..)) (fO (Zf (tv (tN j) rfl) (tv (tN ((ZU (Qn g i).2 (fresh g i) j).length)) rfl)) (nt ?_))))))
   refine cd (j<(ZU (Qn g i).2 (fresh g i) j).length) rfl (fun fhc4=> ?_) fun fhc4=> ?_
   ·refine sk ?_
    refine tn (sq (VRun.block (VRun.region (mO (T.os 1 2 0 (((ZU (Qn g i).2 (fresh g i) j).map (Qm true)).length)) rfl (mO (tN j) rfl (mO (T.os 1 2 0 (((ZU (Qn g i).2 (fresh g i) j).map (Qm true)).length)) rfl (mO (tN j) rfl ?_)))))))
    obtain ⟨x1,hx1⟩:∃x,(ZU (Qn g i).2 (fresh g i) j)[j]? =some x:=⟨_,List.getElem?_eq_getElem (by omega)⟩
    have e3:x1=on (Qn g i).2 j:=Qk9 hq4 (by omega) hx1
    refine fO (B.indexAddrO (i:=j) (tv (T.os 1 2 0 (((ZU (Qn g i).2 (fresh g i) j).map (Qm true)).length)) rfl) (tv (tN j) rfl) rfl (by (simp only [List.length_map];omega)) Jd sz4 if4) (lO (OL.loadP1 (t:=(tB x1)) (row:=(Qm true x1)) (tv (T.orp 1 2 j 0) rfl) rfl (Qv _ hx1) rfl rfl st4) (mO (tB x1) rfl ?_))
    refine VRunO.joinB 5 [73,74,75,76] 77 (tB (decide ((x1=true)∨(((Zm g ((List.replicate k1 false).set i true))[j]?.getD false)=true)))) ?_ ?_
    ·refine Qbo x1 (fun hg72_11=> ?_) (fun hg72_11=> ?_)
     ·have fhg72_11:x1=true:=hg72_11
      refine Qy 4 6 false 72 hg72_11 rfl rfl rfl (fO (OF.pickT (VEv.tmpB rfl hg72_11) (VEv.bool true)) (VRunO.nil ?_))
      exact jq (congrArg T.bool (jOT (dT _) hg72_11)) (js rfl (js rfl (js rfl (js rfl (jn)))))
     ·have fhg72_11:x1=false:=hg72_11
      refine gF hg72_11 rfl rfl (OF.move (tv (T.os 1 1 0 (((Zm g ((List.replicate k1 false).set i true)).map (Qm true)).length)) rfl)) (gF hg72_11 rfl rfl (OF.move (tv (tN j) rfl)) ?_)
      have hy12:(Zm g ((List.replicate k1 false).set i true))[j]? =some ((Zm g ((List.replicate k1 false).set i true))[j]?.getD false):=Qae false (by omega)
      refine gF hg72_11 rfl rfl (B.indexAddrO (i:=j) (tv (T.os 1 1 0 (((Zm g ((List.replicate k1 false).set i true)).map (Qm true)).length)) rfl) (tv (tN j) rfl) rfl (by (simp only [List.length_map];omega)) Jd sz4 if4) (gL hg72_11 rfl rfl (OL.loadP1 (t:=(tB ((Zm g ((List.replicate k1 false).set i true))[j]?.getD false))) (row:=(Qm true ((Zm g ((List.replicate k1 false).set i true))[j]?.getD false))) (tv (T.orp 1 1 j 0) rfl) rfl (Qv _ hy12) rfl rfl st4) (fO (OF.pickF (VEv.tmpB rfl hg72_11) (tv (tB ((Zm g ((List.replicate k1 false).set i true))[j]?.getD false)) rfl)) (VRunO.nil ?_)))
      exact jq (congrArg T.bool (jOF (dT _) hg72_11 (dT _))) (js rfl (js rfl (js rfl (js rfl (jn)))))
    refine fO (B.indexAddrO (i:=j) (tv (T.os 1 2 0 (((ZU (Qn g i).2 (fresh g i) j).map (Qm true)).length)) rfl) (tv (tN j) rfl) rfl (by (simp only [List.length_map];omega)) Jd sz4 if4) (cO (B.storeP (us:= [(tB (decide ((x1=true)∨(((Zm g ((List.replicate k1 false).set i true))[j]?.getD false)=true))))]) (rows':=(((ZU (Qn g i).2 (fresh g i) j).set j (decide ((x1=true)∨(((Zm g ((List.replicate k1 false).set i true))[j]?.getD false)=true)))).map (Qm true))) (row:=(Qm true x1)) (tv (T.orp 1 2 j 0) rfl) (tv (tB (decide ((x1=true)∨(((Zm g ((List.replicate k1 false).set i true))[j]?.getD false)=true)))) rfl) nofun rfl (Qv _ hx1) rfl (lb rfl) if4 sz4 (bc rfl bn) (by intro r hr t ht;obtain ⟨x,_,rfl⟩:=List.mem_map.1 hr;rw [Qg1] at ht;exact ZQ (okBool.pl _ t ht)) (ZL rfl)) (VRunO.nil (vinB.n (tn (VRun.region (mO (tN j) rfl (fO (QB (tv (tN j) rfl) (VEv.int .i64 1) (by omega)) (aO (tN (j+1)) rfl (VRunO.nil (tn ?_))))))))))
    have he13:((ZU (Qn g i).2 (fresh g i) j).set j (decide ((x1=true)∨(((Zm g ((List.replicate k1 false).set i true))[j]?.getD false)=true))))=ZU (Qn g i).2 (fresh g i) (j+1):=by (refine Qiy hq4 (by omega) ?_;rw [e3,hfr];exact orB _ _)
    refine ⟨(j+1:Nat),?_,?_,Wk.mk (fun k=>k) ?_ ?_ ?_⟩
    ·omega
    ·omega
    ·exact (b2 (b2 (b2 (bc ⟨(congrArg (fun n_=>T.os 1 2 0 n_) (show ((ZU (Qn g i).2 (fresh g i) j).map (Qm true)).length=((ZU (Qn g i).2 (fresh g i) (j+1)).map (Qm true)).length from (by (simp only [List.length_map,List.length_set];rw [Qdo hq4 hJ1,Qdo hq4 (by omega)])))),rfl⟩ (b2 (b2 (b2 bn)))))))
    ·exact (b3 (b3 (bc ⟨(congrArg (fun l_=>some (Obj.rows 1 (List.map (Qm true) l_))) he13),(lb rfl),rfl⟩ bn)))
    ·exact nd rfl
   have hq5:¬j<(Qn g i).2.length:=by omega
   refine VRun.exit (vthn.e (vthn.e (vinB.e (vinB.n (tn (VRun.region (mO (tN i) rfl (fO (QB (tv (tN i) rfl) (VEv.int .i64 1) (by omega)) (aO (tN (i+1)) rfl (VRunO.nil (tn ?_)))))))))))
   have he14:ZU (Qn g i).2 (fresh g i) j=(Qn g (i+1)).2:=by (rw [q1.2];exact QiP hq4 hq5)
   refine ⟨(i+1:Nat),?_,?_,Wk.mk (fun k=>if k=1 then 2 else k) ?_ ?_ ?_⟩
   ·exact ⟨by omega, .inl fhc1.2⟩
   ·omega
   ·exact (b2 (b2 (bc ⟨(congrArg (T.int .i64) (show ((((Qn g i).1+1):Nat):Int)=(((Qn g (i+1)).1:Nat):Int) from (by omega))),rfl⟩ (bc ⟨(congrArg (fun l_=>T.os 1 2 0 (List.map (Qm true) l_).length) he14),rfl⟩ (b2 bn)))))
   ·exact (b3 (bc ⟨(congrArg (fun l_=>some (Obj.rows 1 (List.map (Qm true) l_))) he14),(lb rfl),rfl⟩ bn))
   ·exact nd rfl
  have q0:¬QcZ g (Qn g i).2 i:=fun h=>fhc2 ⟨h.1,by have:=h.2;unfold on at this;rw [this];rfl⟩
  refine sk (vinB.n (tn (VRun.region (mO (tN i) rfl (fO (QB (tv (tN i) rfl) (VEv.int .i64 1) (by omega)) (aO (tN (i+1)) rfl (VRunO.nil (tn ?_))))))))
  have he15:(Qn g i).2=(Qn g (i+1)).2:=by (rw [Qbw q0];done)
  refine ⟨(i+1:Nat),?_,?_,Wk.mk (fun k=>k) ?_ ?_ ?_⟩
  ·exact ⟨by omega, .inl fhc1.2⟩
  ·omega
  ·exact (b2 (b2 (bc ⟨(congrArg (T.int .i64) (show (((Qn g i).1:Nat):Int)=(((Qn g (i+1)).1:Nat):Int) from (by (rw [Qbw q0];done)))),rfl⟩ (bc ⟨(congrArg (fun l_=>T.os 1 1 0 (List.map (Qm true) l_).length) he15),rfl⟩ (b2 bn)))))
  ·exact (b3 (bc ⟨(congrArg (fun l_=>some (Obj.rows 1 (List.map (Qm true) l_))) he15),(lb rfl),rfl⟩ bn))
  ·exact nd rfl
 refine VRun.exit (vthn.e (vthn.e (vinB.e (tn (sr (mO (tN ((Qn g i).1)) rfl (aO (tN ((Qn g i).1)) rfl (nt (rt (vi (n':=(((Qn g i).1:Nat):Int)) rfl ?_))))))))))
 exact congrArg (fun x:Nat=>(x:Int)) (Qgf hI1 hI'.2 fhc1)
end Go.Proofs.YtcccmceoplcciaaGreat.AE
namespace Go.Proofs.YtcccmceoplcciaaGreat.AE
open Go Go.RowKit
set_option linter.unusedVariables false
set_option linter.unusedSimpArgs false
set_option maxRecDepth 20000
set_option maxHeartbeats 2000000
noncomputable section
def inG (g:D.Grid) (r c:Int):Prop:=(0≤r∧r<g.Rows)∧(0≤c∧c<g.Cols)
def ZT (g:D.Grid) (r c:Int):Nat:=Int.toNat (r*g.Cols+c)
def QlP (g:D.Grid) (m:List Bool) (r c:Int):Prop:=inG g r c∧Qu g.Cells (ZT g r c)=46∧on m (ZT g r c)=false
instance (g:D.Grid) (m:List Bool) (r c:Int):Decidable (QlP g m r c):=Classical.propDecidable _
def Y8 : Nat→D.Grid→List Bool→Int→Int→List Bool
 | 0,_,m,_,_=>m
 | d+1,g,m,r,c=>if QlP g m r c then Y8 d g (Y8 d g (Y8 d g (Y8 d g (m.set (ZT g r c) true) (r - 1) c) (r+1) c) r (c - 1)) r (c+1) else m
theorem QcV {g:D.Grid} {r c:Int} (hg:gridOk g) (h1:0≤r∧r<g.Rows) (h2:0≤c∧c<g.Cols):(0≤r*g.Cols∧r*g.Cols≤36)∧0≤r*g.Cols+c∧r*g.Cols+c<((g.Cells.size:Nat):Int):=by
 have hs:=hg.2.2.1
 have hz:=hg.size
 have e1:0≤r*g.Cols:=Int.mul_nonneg h1.1 (by omega)
 have e2:(r+1)*g.Cols≤g.Rows*g.Cols:=Int.mul_le_mul_of_nonneg_right (by omega) (by omega)
 rw [Int.add_mul,Int.one_mul] at e2
 omega
theorem YT {g:D.Grid} (hg:gridOk g) (a b:Nat):ZT g ((a:Nat):Int) ((b:Nat):Int)=a*wG g+b:=by
 obtain ⟨w,hw⟩:=Int.eq_ofNat_of_zero_le (show 0≤g.Cols by have:=hg.2.1;omega)
 unfold ZT wG
 rw [hw]
 show Int.toNat (((a:Nat):Int)*((w:Nat):Int)+((b:Nat):Int))=a*w+b
 rw [← Int.natCast_mul,← Int.natCast_add,Int.toNat_natCast]
theorem Qkl {g:D.Grid} (hg:gridOk g):g.Cells.size=g.Rows.toNat*wG g:=by
 obtain ⟨⟨a1,a2⟩,⟨b1,b2⟩,hs,_⟩:=hg
 obtain ⟨w,hw⟩:=Int.eq_ofNat_of_zero_le (show 0≤g.Cols by omega)
 obtain ⟨r,hr⟩:=Int.eq_ofNat_of_zero_le (show 0≤g.Rows by omega)
 unfold wG
 rw [hw,hr] at hs ⊢
 exact_mod_cast hs
theorem Qgv {g:D.Grid} {r c:Int} (hg:gridOk g) (h:inG g r c):∃a b:Nat,r=a∧c=b∧a<g.Rows.toNat∧b<wG g:=by
 obtain ⟨⟨h1,h2⟩,h3,h4⟩:=h
 exact ⟨r.toNat,c.toNat,by omega,by omega,by omega,by unfold wG;omega⟩
theorem Qm7 {g:D.Grid} {r c r' c':Int} (hg:gridOk g) (h:inG g r c) (h':inG g r' c') (hn:(r'=r∧(c'=c+1∨c'=c - 1))∨(c'=c∧(r'=r+1∨r'=r - 1))):adj g (ZT g r c) (ZT g r' c'):=by
 obtain ⟨a,b,rfl,rfl,ha,hb⟩:=Qgv hg h
 obtain ⟨a',b',rfl,rfl,ha',hb'⟩:=Qgv hg h'
 rw [YT hg,YT hg]
 have hm:(a*wG g+b) % wG g=b:=by rw [Nat.mul_comm,Nat.mul_add_mod,Nat.mod_eq_of_lt hb]
 have hm':(a'*wG g+b') % wG g=b':=by rw [Nat.mul_comm,Nat.mul_add_mod,Nat.mod_eq_of_lt hb']
 rcases hn with ⟨h1,h2 | h2⟩ | ⟨h1,h2 | h2⟩
 ·obtain rfl:a'=a:=by omega
  exact .inl ⟨by omega,by rw [hm];omega⟩
 ·obtain rfl:a'=a:=by omega
  exact .inr (.inl ⟨by omega,by rw [hm'];omega⟩)
 ·obtain rfl:b'=b:=by omega
  obtain rfl:a'=a+1:=by omega
  exact .inr (.inr (.inl (by rw [Nat.add_mul,Nat.one_mul];omega)))
 ·obtain rfl:b'=b:=by omega
  obtain rfl:a=a'+1:=by omega
  exact .inr (.inr (.inr (by rw [Nat.add_mul,Nat.one_mul];omega)))
theorem Qjz {g:D.Grid} {r c:Int} {y:Nat} (hg:gridOk g) (h:inG g r c) (hy:y<g.Cells.size) (ha:adj g (ZT g r c) y) :
  (inG g (r - 1) c∧y=ZT g (r - 1) c)∨(inG g (r+1) c∧y=ZT g (r+1) c)∨(inG g r (c - 1)∧y=ZT g r (c - 1))∨(inG g r (c+1)∧y=ZT g r (c+1)):=by
 have hsz:=Qkl hg
 obtain ⟨⟨h1,h2⟩,h3,h4⟩:=h
 obtain ⟨a,b,rfl,rfl,ha',hb⟩:=Qgv hg ⟨⟨h1,h2⟩,h3,h4⟩
 rw [YT hg] at ha
 have hm:(a*wG g+b) % wG g=b:=by rw [Nat.mul_comm,Nat.mul_add_mod,Nat.mod_eq_of_lt hb]
 have hw:((wG g:Nat):Int)=g.Cols:=by have:=hg.2.1;unfold wG;omega
 rcases ha with ⟨e1,e2⟩ | ⟨e1,e2⟩ | e1 | e1
 ·rw [hm] at e2
  refine .inr (.inr (.inr ⟨⟨⟨h1,h2⟩,by omega,by omega⟩,?_⟩))
  rw [show ((b:Nat):Int)+1=((b+1:Nat):Int) by omega,YT hg];omega
 ·have hb1:1≤b:=by
   rcases Nat.eq_zero_or_pos b with h0 | h0
   ·subst h0
    exfalso
    have ha0:0<a:=by
     rcases Nat.eq_zero_or_pos a with g0 | g0
     ·subst g0;omega
     ·exact g0
    obtain ⟨a1,rfl⟩:∃a1,a=a1+1:=⟨a - 1,by omega⟩
    have e3:y=a1*wG g+(wG g - 1):=by rw [Nat.add_mul,Nat.one_mul] at e1;omega
    rw [e3,Nat.mul_comm,Nat.mul_add_mod,Nat.mod_eq_of_lt (by omega)] at e2
    omega
   ·exact h0
  refine .inr (.inr (.inl ⟨⟨⟨h1,h2⟩,by omega,by omega⟩,?_⟩))
  rw [show ((b:Nat):Int) - 1=((b - 1:Nat):Int) by omega,YT hg];omega
 ·have ha1:a+1<g.Rows.toNat:=by
   rcases Nat.lt_or_ge (a+1) g.Rows.toNat with g0 | g0
   ·exact g0
   ·have e4:g.Rows.toNat=a+1:=by omega
    rw [e4,Nat.add_mul,Nat.one_mul] at hsz
    omega
  refine .inr (.inl ⟨⟨⟨by omega,by omega⟩,h3,h4⟩,?_⟩)
  rw [show ((a:Nat):Int)+1=((a+1:Nat):Int) by omega,YT hg,Nat.add_mul,Nat.one_mul];omega
 ·have ha0:0<a:=by
   rcases Nat.eq_zero_or_pos a with g0 | g0
   ·subst g0;omega
   ·exact g0
  obtain ⟨a1,rfl⟩:∃a1,a=a1+1:=⟨a - 1,by omega⟩
  refine .inl ⟨⟨⟨by omega,by omega⟩,h3,h4⟩,?_⟩
  rw [show ((a1+1:Nat):Int) - 1=((a1:Nat):Int) by omega,YT hg]
  rw [Nat.add_mul,Nat.one_mul] at e1;omega
theorem Qbn {g:D.Grid} {r c:Int} (hg:gridOk g) (h:inG g r c):ZT g r c<g.Cells.size:=by
 have:=QcV hg h.1 h.2
 unfold ZT
 omega
theorem ZS (g:D.Grid):∀d m r c,(Y8 d g m r c).length=m.length
 | 0,m,r,c=>rfl
 | d+1,m,r,c=>by
  rw [Y8]
  split
  ·rw [ZS g d,ZS g d,ZS g d,ZS g d,List.length_set]
  ·rfl
theorem Z6 {g:D.Grid} {j:Nat}:∀d m r c,on m j=true→on (Y8 d g m r c) j=true
 | 0,m,r,c,h=>h
 | d+1,m,r,c,h=>by
  rw [Y8]
  split
  ·refine Z6 d _ _ _ (Z6 d _ _ _ (Z6 d _ _ _ (Z6 d _ _ _ ?_)))
   have hlt:=Qln h
   unfold on at h ⊢
   rw [List.getElem?_set]
   split
   ·rename_i e
    subst e
    rw [if_pos hlt];rfl
   ·exact h
  ·exact h
theorem QgA {s:List Bool} {i:Nat}:(s.set i true).count false≤s.count false:=by
 rcases Nat.lt_or_ge i s.length with h | h
 ·rw [List.count_set h];simp
 ·rw [List.set_eq_of_length_le h];exact Nat.le_refl _
theorem Jl (g:D.Grid):∀d m r c,(Y8 d g m r c).count false≤m.count false
 | 0,m,r,c=>Nat.le_refl _
 | d+1,m,r,c=>by
  rw [Y8]
  split
  ·exact Nat.le_trans (Jl g d _ _ _) (Nat.le_trans (Jl g d _ _ _) (Nat.le_trans (Jl g d _ _ _) (Nat.le_trans (Jl g d _ _ _) QgA)))
  ·exact Nat.le_refl _
theorem QaJ {g:D.Grid} (hg:gridOk g) {P:Nat→Prop} (hP:∀i j,P i→adj g i j→j<g.Cells.size→Qu g.Cells j=46→P j):∀d m r c,m.length=g.Cells.size→(inG g r c→Qu g.Cells (ZT g r c)=46→P (ZT g r c))→∀j,on (Y8 d g m r c) j=true→on m j=true∨P j
 | 0,m,r,c,_,_,j,hj=> .inl hj
 | d+1,m,r,c,hl,h,j,hj=>by
  rw [Y8] at hj
  split at hj
  ·rename_i hgo
   obtain ⟨g1,g2,g3⟩:=hgo
   have hv:=h g1 g2
   have nb:∀r' c',((r'=r∧(c'=c+1∨c'=c - 1))∨(c'=c∧(r'=r+1∨r'=r - 1)))→inG g r' c'→Qu g.Cells (ZT g r' c')=46→P (ZT g r' c'):=fun r' c' hn hi hw=>hP _ _ hv (Qm7 hg g1 hi hn) (Qbn hg hi) hw
   have l1:(m.set (ZT g r c) true).length=g.Cells.size:=by rw [List.length_set,hl]
   rcases QaJ hg hP d _ _ _ (by rw [ZS,ZS,ZS,l1]) (nb r (c+1) (.inl ⟨rfl, .inl rfl⟩)) j hj with hj | hj
   ·rcases QaJ hg hP d _ _ _ (by rw [ZS,ZS,l1]) (nb r (c - 1) (.inl ⟨rfl, .inr rfl⟩)) j hj with hj | hj
    ·rcases QaJ hg hP d _ _ _ (by rw [ZS,l1]) (nb (r+1) c (.inr ⟨rfl, .inl rfl⟩)) j hj with hj | hj
     ·rcases QaJ hg hP d _ _ _ l1 (nb (r - 1) c (.inr ⟨rfl, .inr rfl⟩)) j hj with hj | hj
      ·rw [Qdd (by rw [hl];exact Qbn hg g1)] at hj
       split at hj
       ·rename_i e
        rw [e];exact .inr hv
       ·exact .inl hj
      ·exact .inr hj
     ·exact .inr hj
    ·exact .inr hj
   ·exact .inr hj
  ·exact .inl hj
theorem Qe9 {g:D.Grid} (hg:gridOk g) {d:Nat} {m:List Bool} {r c:Int} (hl:m.length=g.Cells.size) (hc:m.count false<d) (hi:inG g r c) (hw:Qu g.Cells (ZT g r c)=46):on (Y8 d g m r c) (ZT g r c)=true:=by
 cases d with
 | zero=>omega
 | succ d =>
  rw [Y8]
  split
  ·refine Z6 d _ _ _ (Z6 d _ _ _ (Z6 d _ _ _ (Z6 d _ _ _ ?_)))
   rw [Qdd (by rw [hl];exact Qbn hg hi),if_pos rfl]
  ·rename_i hn
   cases ho:on m (ZT g r c) with
   | true=>rfl
   | false=>exact absurd ⟨hi,hw,ho⟩ hn
theorem QeS {g:D.Grid} (hg:gridOk g):∀d m r c,m.length=g.Cells.size→m.count false<d→∀x y,on (Y8 d g m r c) x=true→¬on m x=true→adj g x y→y<g.Cells.size→Qu g.Cells y=46→on (Y8 d g m r c) y=true
 | 0,m,r,c,_,hc,x,y,_,_,_,_,_=>by omega
 | d+1,m,r,c,hl,hc,x,y,hx,hnx,ha,hy,hw=>by
  rw [Y8] at hx ⊢
  by_cases hgo:QlP g m r c
  ·rw [if_pos hgo] at hx ⊢
   obtain ⟨g1,g2,g3⟩:=hgo
   have hcl:=Qbn hg g1
   have l1:(m.set (ZT g r c) true).length=g.Cells.size:=by rw [List.length_set,hl]
   have c1:(m.set (ZT g r c) true).count false<d:=by
    have:=QdA (by rw [hl];exact hcl) g3
    omega
   generalize hm1:m.set (ZT g r c) true=m1 at *
   have c2:=Jl g d m1 (r - 1) c
   have l2:=ZS g d m1 (r - 1) c
   generalize hm2:Y8 d g m1 (r - 1) c=m2 at *
   have c3:=Jl g d m2 (r+1) c
   have l3:=ZS g d m2 (r+1) c
   generalize hm3:Y8 d g m2 (r+1) c=m3 at *
   have c4:=Jl g d m3 r (c - 1)
   have l4:=ZS g d m3 r (c - 1)
   generalize hm4:Y8 d g m3 r (c - 1)=m4 at *
   have up4:∀j,on m4 j=true→on (Y8 d g m4 r (c+1)) j=true:=fun j h=>Z6 d _ _ _ h
   have up3:∀j,on m3 j=true→on m4 j=true:=fun j h=>hm4▸Z6 d _ _ _ h
   have up2:∀j,on m2 j=true→on m3 j=true:=fun j h=>hm3▸Z6 d _ _ _ h
   by_cases h4:on m4 x=true
   ·by_cases h3:on m3 x=true
    ·by_cases h2:on m2 x=true
     ·by_cases h1:on m1 x=true
      ·have hxv:x=ZT g r c:=by
        rw [← hm1,Qdd (by rw [hl];exact hcl)] at h1
        split at h1
        ·assumption
        ·exact absurd h1 hnx
       subst hxv
       rcases Qjz hg g1 hy ha with ⟨k1,rfl⟩ | ⟨k1,rfl⟩ | ⟨k1,rfl⟩ | ⟨k1,rfl⟩
       ·exact up4 _ (up3 _ (up2 _ (hm2▸Qe9 hg l1 c1 k1 hw)))
       ·exact up4 _ (up3 _ (hm3▸Qe9 hg (by omega) (by omega) k1 hw))
       ·exact up4 _ (hm4▸Qe9 hg (by omega) (by omega) k1 hw)
       ·exact Qe9 hg (by omega) (by omega) k1 hw
      ·exact up4 _ (up3 _ (up2 _ (hm2▸QeS hg d m1 (r - 1) c l1 c1 x y (hm2▸h2) h1 ha hy hw)))
     ·exact up4 _ (up3 _ (hm3▸QeS hg d m2 (r+1) c (by omega) (by omega) x y (hm3▸h3) h2 ha hy hw))
    ·exact up4 _ (hm4▸QeS hg d m3 r (c - 1) (by omega) (by omega) x y (hm4▸h4) h3 ha hy hw)
   ·exact QeS hg d m4 r (c+1) (by omega) (by omega) x y hx h4 ha hy hw
  ·rw [if_neg hgo] at hx
   exact absurd hx hnx
def Qi1 (g:D.Grid) (s:List Bool):Prop:=∀x y,on s x=true→adj g x y→y<g.Cells.size→Qu g.Cells y=46→on s y=true
theorem Qkx (n j:Nat):on (List.replicate n false) j=false:=by
 unfold on
 rw [List.getElem?_replicate]
 split<;>rfl
theorem Qhk {g:D.Grid} {i j:Nat} (hi:i<g.Cells.size):on ((List.replicate g.Cells.size false).set i true) j=true↔j=i:=by
 rw [Qdd (by simpa using hi),Qkx]
 split<;>simp [*]
theorem Qb9 {g:D.Grid}:∀i,i≤g.Cells.size→Qi1 g (Qn g i).2
 | 0,_=>fun x y hx=>by rw [Qn,Qkx] at hx;cases hx
 | i+1,hi=>by
  have ih:=Qb9 (g:=g) i (by omega)
  by_cases hn:QcZ g (Qn g i).2 i
  ·rw [(Qdf hn).2]
   intro x y hx ha hy hw
   have hl:(fresh g i).length=(Qn g i).2.length:=by rw [QaR,Ji]
   rw [QiM hl,Bool.or_eq_true] at hx ⊢
   rcases hx with hx | hx
   ·exact .inl (ih x y hx ha hy hw)
   ·exact .inr (on_reachL.2 (.step (on_reachL.1 hx) ha (by simpa using hy) hw))
  ·rw [Qbw hn];exact ih
theorem Qmg {g:D.Grid} (hg:gridOk g) {d i:Nat} {m:List Bool} (hl:m.length=g.Cells.size) (hi:i<g.Cells.size) (hc:m.count false<d) (hcl:Qi1 g m) (hw:Qu g.Cells i=46) :
  Y8 d g m ((i / wG g:Nat):Int) ((i % wG g:Nat):Int)=QfI m (fresh g i):=by
 have hlf:(fresh g i).length=m.length:=by rw [QaR,hl]
 have hci:ZT g ((i / wG g:Nat):Int) ((i % wG g:Nat):Int)=i:=by
  rw [YT hg,Nat.mul_comm];exact Nat.div_add_mod i _
 obtain ⟨⟨q1,q2⟩,_⟩:=QbB hg hi
 have hin:inG g ((i / wG g:Nat):Int) ((i % wG g:Nat):Int):=by
  have hA:=hg.1
  have hB:=hg.2.1
  unfold wG
  generalize i / g.Cols.toNat=q at *
  generalize i % g.Cols.toNat=m' at *
  exact ⟨⟨by omega,by omega⟩,by omega,by omega⟩
 refine Qkj (by rw [ZS,J8 hlf]) fun j=> ?_
 rw [QiM hlf,Bool.or_eq_true]
 constructor
 ·intro hj
  rcases QaJ hg (P:=fun j=>Rch g ((List.replicate g.Cells.size false).set i true) j) (fun a b h ha hb hw=> .step h ha (by simpa using hb) hw) d m _ _ hl (fun _ _=>by rw [hci];exact .base ((Qhk hi).2 rfl)) j hj with h | h
  ·exact .inl h
  ·exact .inr (on_reachL.2 h)
 ·rintro (hj | hj)
  ·exact Z6 d _ _ _ hj
  ·have hr:=on_reachL.1 hj
   clear hj
   induction hr with
   | base h =>
    obtain rfl:=(Qhk hi).1 h
    have:=Qe9 hg hl hc hin (by rw [hci];exact hw)
    rwa [hci] at this
   | step h ha hb hw2 ih =>
    rename_i a b
    have hb':b<g.Cells.size:=by simpa using hb
    by_cases hma:on m a=true
    ·exact Z6 d _ _ _ (hcl a b hma ha hb' hw2)
    ·exact QeS hg d m _ _ hl hc a b ih hma ha hb' hw2
end
theorem Qdg (n:Nat) (nn:Nat) (g:D.Grid):∀(d:Nat) (met:List Bool) (r:Int) (c:Int) (hg:gridOk g) (hn:nn=g.Cells.size) (hl:met.length=nn) (hr: -1≤r∧r≤6) (hc: -1≤c∧c≤6) (hu:met.count false<d),Loan (Qq Tryz.prog (n+d+1)) 185 1 (List.map (Qm true) met) [(tI r),(tI c),(T.rp (Qc false g)),(T.vp [(T.os 1 0 0 nn)]),(vtT 185 (T.rp (Qc false g)) (T.vp [(T.os 1 0 0 nn)]) d)] (T.tup []) (List.map (Qm true) (Y8 d g met r c)):=by
 intro d
 induction d with
 | zero=>intro met r c hg hn hl hr hc hu;exact absurd hu (Nat.not_lt_zero _)
 | succ d ih =>
 intro met r c hg hn hl hr hc hu
 refine Loan.intro (n:=n+d+1) (rs:= []) (j:=3) (pin:=(T.vp [(T.os 1 0 0 nn)])) Tryz.func185 rfl rfl rfl (by kernel_rfl) rfl (.vp _ _) .none (Zw (fun _=>rfl) _) (Zw (fun _=>rfl) _) (E0:= [(0,(tI r)),(1,(tI c)),(2,(T.rp (Qc false g))),(3,(T.vp [(T.os 1 0 0 nn)])),(4,(vtT 185 (T.rp (Qc false g)) (T.vp [(T.os 1 0 0 nn)]) (d+1)))]) rfl ?_
 obtain ⟨hlim,hmx,hmax⟩:=QC
 have hsz:=hg.size
 have hA:=hg.1
 have hB:=hg.2.1
 refine sq (sr (mO (tI r) rfl (lr (tI g.Rows) rfl (lb rfl) Qaz rfl QU (cO (cS (vc (tv (tI r) rfl) (vc (tv (tI g.Rows) rfl) vn)) (ZJ rfl) (YB (n+d+0) r g.Rows) rfl rfl) (fO (QW (tv (tB (decide (0≤r∧r<g.Rows))) rfl)) (mO (tB (!(decide (0≤r∧r<g.Rows)))) rfl ?_))))))
 refine VRunO.joinB 6 [13,14,15,16,17] 18 (tB (decide ((¬(0≤r∧r<g.Rows))∨(¬(0≤c∧c<g.Cols))))) ?_ ?_
 ·refine gn (0≤r∧r<g.Rows) (fun fhg12_1=> ?_) fun fhg12_1=> ?_
  ·refine Qy 5 5 false 12 (ny fhg12_1) rfl rfl rfl ?_
   refine fO (OF.pickT (VEv.tmpB rfl (ny fhg12_1)) (VEv.bool true)) (VRunO.nil ?_)
   exact jq (congrArg T.bool (kOT fhg12_1)) (js rfl (js rfl (js rfl (js rfl (js rfl (jn))))))
  ·refine gF (nz fhg12_1) rfl rfl (OF.move (tv (tI c) rfl)) ?_
   refine glr (tI g.Cols) (nz fhg12_1) rfl rfl rfl rfl (lb rfl) Zn rfl QU (VRunO.chain (VWant.on rfl rfl (nz fhg12_1)) (cS (vc (tv (tI c) rfl) (vc (tv (tI g.Cols) rfl) vn)) (ZJ rfl) (YB (n+d+0) c g.Cols) rfl rfl) (gF (nz fhg12_1) rfl rfl (QW (tv (tB (decide (0≤c∧c<g.Cols))) rfl)) (fO (OF.pickF (VEv.tmpB rfl (nz fhg12_1)) (tv (tB (!(decide (0≤c∧c<g.Cols)))) rfl)) (VRunO.nil ?_))))
   exact jq (congrArg T.bool (kOF (not_not_intro fhg12_1) dN)) (js rfl (js rfl (js rfl (js rfl (js rfl (jn))))))
 refine mO (tB (decide ((¬(0≤r∧r<g.Rows))∨(¬(0≤c∧c<g.Cols))))) rfl ?_
 refine VRunO.joinB 10 [20,21,22,23,24,25,26,27,28] 29 (tB (decide (((¬(0≤r∧r<g.Rows))∨(¬(0≤c∧c<g.Cols)))∨((met[(Int.toNat ((r*g.Cols)+c))]?.getD false)=true)))) ?_ ?_
 ·refine gw ((¬(0≤r∧r<g.Rows))∨(¬(0≤c∧c<g.Cols))) (fun fhg19_2=> ?_) fun fhg19_2=> ?_
  ·refine Qy 9 12 false 19 (dy fhg19_2) rfl rfl rfl ?_
   refine fO (OF.pickT (VEv.tmpB rfl (dy fhg19_2)) (VEv.bool true)) (VRunO.nil ?_)
   exact jq (congrArg T.bool (kOT fhg19_2)) (js rfl (js rfl (js rfl (js rfl (js rfl (js rfl (js rfl (js rfl (js rfl (jn))))))))))
  ·have hz:=QcV hg (r:=r) (c:=c) (by omega) (by omega)
   refine gL (dz fhg19_2) rfl rfl (OL.loadV1 (t:=(T.os 1 0 0 nn)) (tv (T.vp [(T.os 1 0 0 nn)]) rfl) rfl Qkg) (gF (dz fhg19_2) rfl rfl (OF.move (tv (tI r) rfl)) (glr (tI g.Cols) (dz fhg19_2) rfl rfl rfl rfl (lb rfl) Zn rfl QU (gF (dz fhg19_2) rfl rfl (B.mul (n:=(r*g.Cols)) (tv (tI r) rfl) (tv (tI g.Cols) rfl) (by (rw [Qt (by omega)];done))) (gF (dz fhg19_2) rfl rfl (OF.move (tv (tI c) rfl)) (gF (dz fhg19_2) rfl rfl (B.add (n:=((r*g.Cols)+c)) (tv (tI (r*g.Cols)) rfl) (tv (tI c) rfl) (by (rw [Qt (by omega)];done))) ?_)))))
   have hy3:met[(Int.toNat ((r*g.Cols)+c))]? =some (met[(Int.toNat ((r*g.Cols)+c))]?.getD false):=Qae false (by omega)
   refine gF (dz fhg19_2) rfl rfl (B.indexAddrO (i:=(Int.toNat ((r*g.Cols)+c))) (tv (T.os 1 0 0 nn) rfl) (tv (tI ((r*g.Cols)+c)) rfl) (by omega) (by omega) Jd sz4 if4) (gL (dz fhg19_2) rfl rfl (OL.loadP1 (t:=(tB (met[(Int.toNat ((r*g.Cols)+c))]?.getD false))) (row:=(Qm true (met[(Int.toNat ((r*g.Cols)+c))]?.getD false))) (tv (T.orp 1 0 (Int.toNat ((r*g.Cols)+c)) 0) rfl) rfl (Qv _ hy3) rfl rfl st4) (fO (OF.pickF (VEv.tmpB rfl (dz fhg19_2)) (tv (tB (met[(Int.toNat ((r*g.Cols)+c))]?.getD false)) rfl)) (VRunO.nil ?_)))
   exact jq (congrArg T.bool (kOF fhg19_2 (dT _))) (js rfl (js rfl (js rfl (js rfl (js rfl (js rfl (js rfl (js rfl (js rfl (jn))))))))))
 refine mO (tB (decide (((¬(0≤r∧r<g.Rows))∨(¬(0≤c∧c<g.Cols)))∨((met[(Int.toNat ((r*g.Cols)+c))]?.getD false)=true)))) rfl ?_
 refine VRunO.joinB 11 [31,32,33,34,35,36,37,38,39,40] 41 (tB (decide ((((¬(0≤r∧r<g.Rows))∨(¬(0≤c∧c<g.Cols)))∨((met[(Int.toNat ((r*g.Cols)+c))]?.getD false)=true))∨(¬(Qu g.Cells (Int.toNat ((r*g.Cols)+c))=46))))) ?_ ?_
 ·refine gw (((¬(0≤r∧r<g.Rows))∨(¬(0≤c∧c<g.Cols)))∨((met[(Int.toNat ((r*g.Cols)+c))]?.getD false)=true)) (fun fhg30_4=> ?_) fun fhg30_4=> ?_
  ·refine Qy 10 23 false 30 (dy fhg30_4) rfl rfl rfl ?_
   refine fO (OF.pickT (VEv.tmpB rfl (dy fhg30_4)) (VEv.bool true)) (VRunO.nil ?_)
   exact jq (congrArg T.bool (kOT fhg30_4)) (js rfl (js rfl (js rfl (js rfl (js rfl (js rfl (js rfl (js rfl (js rfl (js rfl (jn)))))))))))
  ·have hz:=QcV hg (r:=r) (c:=c) (by omega) (by omega)
   refine glr (tS g.Cells) (dz fhg30_4) rfl rfl rfl rfl (lb rfl) QE rfl Z7 (gF (dz fhg30_4) rfl rfl (OF.move (tv (tI r) rfl)) (glr (tI g.Cols) (dz fhg30_4) rfl rfl rfl rfl (lb rfl) Zn rfl QU (gF (dz fhg30_4) rfl rfl (B.mul (n:=(r*g.Cols)) (tv (tI r) rfl) (tv (tI g.Cols) rfl) (by (rw [Qt (by omega)];done))) (gF (dz fhg30_4) rfl rfl (OF.move (tv (tI c) rfl)) (gF (dz fhg30_4) rfl rfl (B.add (n:=((r*g.Cols)+c)) (tv (tI (r*g.Cols)) rfl) (tv (tI c) rfl) (by (rw [Qt (by omega)];done))) ?_)))))
   have hb5:(Int.toNat ((r*g.Cols)+c))<g.Cells.size:=(by omega)
   refine gF (dz fhg30_4) rfl rfl (B.index (n:=(Qu g.Cells (Int.toNat ((r*g.Cols)+c)))) (i:=(Int.toNat ((r*g.Cols)+c))) (tv (tS g.Cells) rfl) (tv (tI ((r*g.Cols)+c)) rfl) (by omega) hb5 U9 (YN hb5)) (gF (dz fhg30_4) rfl rfl (xne (tv (T.int .u8 (Qu g.Cells (Int.toNat ((r*g.Cols)+c)))) rfl) (VEv.int .u8 46)) (fO (OF.pickF (VEv.tmpB rfl (dz fhg30_4)) (tv (tB (!(decide (Qu g.Cells (Int.toNat ((r*g.Cols)+c))=46)))) rfl)) (VRunO.nil ?_)))
   exact jq (congrArg T.bool (kOF fhg30_4 dN)) (js rfl (js rfl (js rfl (js rfl (js rfl (js rfl (js rfl (js rfl (js rfl (js rfl (jn)))))))))))
 refine nt ?_
 refine cd ((((¬(0≤r∧r<g.Rows))∨(¬(0≤c∧c<g.Cols)))∨((met[(Int.toNat ((r*g.Cols)+c))]?.getD false)=true))∨(¬(Qu g.Cells (Int.toNat ((r*g.Cols)+c))=46))) rfl (fun fhc0=> ?_) fun fhc0=> ?_
 ·refine rt ?_
  refine tr ?_
  have hnew:met=Y8 (d+1) g met r c:=by
   rw [Y8,if_neg];rintro ⟨h1,h2,h3⟩;rcases fhc0 with (h | h) | h;exact h.elim (fun h=>h h1.1) (fun h=>h h1.2);exact on_no.1 h3 h;exact h h2
  exact vloan.r 0 VRes.nil rfl rfl rfl (congrArg (List.map (Qm true)) hnew)
 have hz:=QcV hg (r:=r) (c:=c) (by omega) (by omega)
 have hin:inG g r c:=⟨by omega,by omega⟩
 have hgo:QlP g met r c:=⟨hin,by unfold ZT;omega,on_no.2 (fun h=>fhc0 (.inl (.inr h)))⟩
 have hct:=QdA (s:=met) (i:=ZT g r c) (by rw [hl,hn];exact Qbn hg hin) hgo.2.2
 unfold ZT at hct
 have d1:=Jl g d (met.set (Int.toNat (r*g.Cols+c)) true) (r - 1) c
 have d2:=Jl g d (Y8 d g (met.set (Int.toNat (r*g.Cols+c)) true) (r - 1) c) (r+1) c
 have d3:=Jl g d (Y8 d g (Y8 d g (met.set (Int.toNat (r*g.Cols+c)) true) (r - 1) c) (r+1) c) r (c - 1)
 refine sk (tn (sr (lO (OL.loadV1 (t:=(T.os 1 0 0 nn)) (tv (T.vp [(T.os 1 0 0 nn)]) rfl) rfl Qkg) (mO (tI r) rfl (lr (tI g.Cols) rfl (lb rfl) Zn rfl QU (fO (B.mul (n:=(r*g.Cols)) (tv (tI r) rfl) (tv (tI g.Cols) rfl) (by (rw [Qt (by omega)];done))) (mO (tI c) rfl (fO (B.add (n:=((r*g.Cols)+c)) (tv (tI (r*g.Cols)) rfl) (tv (tI c) rfl) (by (rw [Qt (by omega)];done))) ?_))))))))
 obtain ⟨x1,hx1⟩:∃x,met[(Int.toNat ((r*g.Cols)+c))]? =some x:=⟨_,List.getElem?_eq_getElem (by omega)⟩
 refine fO (B.indexAddrO (i:=(Int.toNat ((r*g.Cols)+c))) (tv (T.os 1 0 0 nn) rfl) (tv (tI ((r*g.Cols)+c)) rfl) (by omega) (by omega) Jd sz4 if4) (cO (B.storeP (us:= [(tB true)]) (rows':=((met.set (Int.toNat ((r*g.Cols)+c)) true).map (Qm true))) (row:=(Qm true x1)) (tv (T.orp 1 0 (Int.toNat ((r*g.Cols)+c)) 0) rfl) (VEv.bool true) nofun rfl (Qv _ hx1) rfl (lb rfl) if4 sz4 (bc rfl bn) (by intro r hr t ht;obtain ⟨x,_,rfl⟩:=List.mem_map.1 hr;rw [Qg1] at ht;exact ZQ (okBool.pl _ t ht)) (ZL rfl)) (nt (sr (lO (OL.loadV1 (t:=(T.fn 185 [(T.rp (Qc false g)),(T.vp [(T.os 1 0 0 nn)]),(vtT 185 (T.rp (Qc false g)) (T.vp [(T.os 1 0 0 nn)]) d)])) (tv (vtT 185 (T.rp (Qc false g)) (T.vp [(T.os 1 0 0 nn)]) (d+1)) rfl) rfl QhT) (mO (tI r) rfl (fO (B.sub (n:=(r - 1)) (tv (tI r) rfl) (VEv.int .i64 1) (by (rw [Qt (by omega)];done))) (mO (tI c) rfl (cO (OC.callvLoan (ts:= [(tI (r - 1)),(tI c),(T.rp (Qc false g)),(T.vp [(T.os 1 0 0 nn)]),(vtT 185 (T.rp (Qc false g)) (T.vp [(T.os 1 0 0 nn)]) d)]) (k:=0) (r:=(T.tup [])) (rows:=((met.set (Int.toNat ((r*g.Cols)+c)) true).map (Qm true))) (rows':=((Y8 d g (met.set (Int.toNat ((r*g.Cols)+c)) true) (r - 1) c).map (Qm true))) rfl rfl (vc (tv (tI (r - 1)) rfl) (vc (tv (tI c) rfl) vn)) rfl (by simp only [Qay,ren,QbQ,List.cons_append,List.nil_append]) (tl rfl (tl rfl (tl rfl (tl rfl (tl (QdB rfl rfl _) rfl))))) LRes.none rfl (Zw (fun _=>rfl) _) (Zw (fun _=>rfl) _) (ih (met.set (Int.toNat ((r*g.Cols)+c)) true) (r - 1) c (by assumption) (by assumption) (by (simp only [ZS,List.length_set];omega)) (by omega) (by assumption) (by omega))) (nt (sr (lO (OL.loadV1 (t:=(T.fn 185 [(T.rp (Qc false g)),(T.vp [(T.os 1 0 0 nn)]),(vtT 185 (T.rp (Qc false g)) (T.vp [(T.os 1 0 0 nn)]) d)])) (tv (vtT 185 (T.rp (Qc false g)) (T.vp [(T.os 1 0 0 nn)]) (d+1)) rfl) rfl QhT) ?_)))))))))))
 refine mO (tI r) rfl (fO (B.add (n:=(r+1)) (tv (tI r) rfl) (VEv.int .i64 1) (by (rw [Qt (by omega)];done))) (mO (tI c) rfl (cO (OC.callvLoan (ts:= [(tI (r+1)),(tI c),(T.rp (Qc false g)),(T.vp [(T.os 1 0 0 nn)]),(vtT 185 (T.rp (Qc false g)) (T.vp [(T.os 1 0 0 nn)]) d)]) (k:=0) (r:=(T.tup [])) (rows:=((Y8 d g (met.set (Int.toNat ((r*g.Cols)+c)) true) (r - 1) c).map (Qm true))) (rows':=((Y8 d g (Y8 d g (met.set (Int.toNat ((r*g.Cols)+c)) true) (r - 1) c) (r+1) c).map (Qm true))) rfl rfl (vc (tv (tI (r+1)) rfl) (vc (tv (tI c) rfl) vn)) rfl (by simp only [Qay,ren,QbQ,List.cons_append,List.nil_append]) (tl rfl (tl rfl (tl rfl (tl rfl (tl (QdB rfl rfl _) rfl))))) LRes.none rfl (Zw (fun _=>rfl) _) (Zw (fun _=>rfl) _) (ih (Y8 d g (met.set (Int.toNat ((r*g.Cols)+c)) true) (r - 1) c) (r+1) c (by assumption) (by assumption) (by (simp only [ZS,List.length_set];omega)) (by omega) (by assumption) (by omega))) (nt (sr (lO (OL.loadV1 (t:=(T.fn 185 [(T.rp (Qc false g)),(T.vp [(T.os 1 0 0 nn)]),(vtT 185 (T.rp (Qc false g)) (T.vp [(T.os 1 0 0 nn)]) d)])) (tv (vtT 185 (T.rp (Qc false g)) (T.vp [(T.os 1 0 0 nn)]) (d+1)) rfl) rfl QhT) (mO (tI r) rfl (mO (tI c) rfl (fO (B.sub (n:=(c - 1)) (tv (tI c) rfl) (VEv.int .i64 1) (by (rw [Qt (by omega)];done))) (cO (OC.callvLoan (ts:= [(tI r),(tI (c - 1)),(T.rp (Qc false g)),(T.vp [(T.os 1 0 0 nn)]),(vtT 185 (T.rp (Qc false g)) (T.vp [(T.os 1 0 0 nn)]) d)]) (k:=0) (r:=(T.tup [])) (rows:=((Y8 d g (Y8 d g (met.set (Int.toNat ((r*g.Cols)+c)) true) (r - 1) c) (r+1) c).map (Qm true))) (rows':=((Y8 d g (Y8 d g (Y8 d g (met.set (Int.toNat ((r*g.Cols)+c)) true) (r - 1) c) (r+1) c) r (c - 1)).map (Qm true))) rfl rfl (vc (tv (tI r) rfl) (vc (tv (tI (c - 1)) rfl) vn)) rfl (by simp only [Qay,ren,QbQ,List.cons_append,List.nil_append]) (tl rfl (tl rfl (tl rfl (tl rfl (tl (QdB rfl rfl _) rfl))))) LRes.none rfl (Zw (fun _=>rfl) _) (Zw (fun _=>rfl) _) (ih (Y8 d g (Y8 d g (met.set (Int.toNat ((r*g.Cols)+c)) true) (r - 1) c) (r+1) c) r (c - 1) (by assumption) (by assumption) (by (simp only [ZS,List.length_set];omega)) (by assumption) (by omega) (by omega))) (nt ?_)))))))))))
 refine VRun.region (lO (OL.loadV1 (t:=(T.fn 185 [(T.rp (Qc false g)),(T.vp [(T.os 1 0 0 nn)]),(vtT 185 (T.rp (Qc false g)) (T.vp [(T.os 1 0 0 nn)]) d)])) (tv (vtT 185 (T.rp (Qc false g)) (T.vp [(T.os 1 0 0 nn)]) (d+1)) rfl) rfl QhT) (mO (tI r) rfl (mO (tI c) rfl (fO (B.add (n:=(c+1)) (tv (tI c) rfl) (VEv.int .i64 1) (by (rw [Qt (by omega)];done))) (cO (OC.callvLoan (ts:= [(tI r),(tI (c+1)),(T.rp (Qc false g)),(T.vp [(T.os 1 0 0 nn)]),(vtT 185 (T.rp (Qc false g)) (T.vp [(T.os 1 0 0 nn)]) d)]) (k:=0) (r:=(T.tup [])) (rows:=((Y8 d g (Y8 d g (Y8 d g (met.set (Int.toNat ((r*g.Cols)+c)) true) (r - 1) c) (r+1) c) r (c - 1)).map (Qm true))) (rows':=((Y8 d g (Y8 d g (Y8 d g (Y8 d g (met.set (Int.toNat ((r*g.Cols)+c)) true) (r - 1) c) (r+1) c) r (c - 1)) r (c+1)).map (Qm true))) rfl rfl (vc (tv (tI r) rfl) (vc (tv (tI (c+1)) rfl) vn)) rfl (by simp only [Qay,ren,QbQ,List.cons_append,List.nil_append]) (tl rfl (tl rfl (tl rfl (tl rfl (tl (QdB rfl rfl _) rfl))))) LRes.none rfl (Zw (fun _=>rfl) _) (Zw (fun _=>rfl) _) (ih (Y8 d g (Y8 d g (Y8 d g (met.set (Int.toNat ((r*g.Cols)+c)) true) (r - 1) c) (r+1) c) r (c - 1)) r (c+1) (by assumption) (by assumption) (by (simp only [ZS,List.length_set];omega)) (by assumption) (by omega) (by omega))) (VRunO.nil ?_))))))
 have hnew:Y8 d g (Y8 d g (Y8 d g (Y8 d g (met.set (Int.toNat ((r*g.Cols)+c)) true) (r - 1) c) (r+1) c) r (c - 1)) r (c+1)=Y8 (d+1) g met r c:=by
  rw [Y8,if_pos hgo];rfl
 exact vloan.n 0 VRes.nil rfl rfl rfl (congrArg (List.map (Qm true)) hnew)
theorem QeJ (n:Nat) (g:D.Grid) (hc:g.Cells.size≤mx):Pure (Qq Tryz.prog (n+39)) 161 [(T.agg (Qc false g))] (tN (Z5 g)):=by
 refine Pure.intro (rs:= [ResultVar.tmp 2]) Tryz.func161 rfl rfl rfl (E0:= [(0,(T.agg (Qc false g)))]) rfl ?_
 obtain ⟨hlim,hmx,hmax⟩:=QC
 refine sr (kO (B.box (ts:=(Qc false g)) (tv (T.agg (Qc false g)) rfl) nofun rfl) (fO (OF.assign (VEv.int .i64 0)) (nt (sq (sr (lO (OL.loadOn (us:=(Qc false g)) (tv (T.op 0 0) rfl) rfl QX QT (lb rfl) rfl) (cO (cS (vc (tv (T.agg (Qc false g)) rfl) vn) (LendL.cons (lg Qs) ln) (Yi (n+36) g (by omega)) rfl rfl) (fO (QW (tv (tB (decide (gridOk g))) rfl)) (nt ?_)))))))))
 refine cn (gridOk g) rfl (fun fhc0=> ?_) fun fhc0=> ?_
 ·refine sr ?_
  refine fO (OF.assign (VEv.int .i64 0)) (nt (rt (tr (vi (n':=0) rfl ?_))))
  rw [Z5,if_neg (by simpa using fhc0)];rfl
 have hgo:gridOk g:=by simpa using fhc0
 have hsz:=hgo.size
 have hA:=hgo.1
 have hB:=hgo.2.1
 refine sk (tn (sr (lf (tS g.Cells) rfl QE rfl rfl Z7 (lO (B.lenS (tv (tS g.Cells) rfl) U9) (kO (B.makeZ (n:=g.Cells.size) (m:=((List.replicate g.Cells.size false).map (Qm true)).length) (rows:=((List.replicate g.Cells.size false).map (Qm true))) (zr:=(Qm true false)) (tv (tN g.Cells.size) rfl) (tv (tN g.Cells.size) rfl) rfl Jd zo4 zc4 rfl (by rw [sz4];decide) (by omega) (of_decide_eq_true (by kernel_rfl)) (Z0.bool Z0.nil) sz4 (List.map_replicate ..).symm (by rw [List.length_map,List.length_replicate])) (kO (B.alloc (t:=T.nils) (ts:= [T.nils]) QnN QnD nofun (fun _=> .nils) rfl) (cO (B.storeO (us:= [(T.os 1 1 0 (((List.replicate g.Cells.size false).map (Qm true)).length))]) (ws:= [(T.os 1 1 0 (((List.replicate g.Cells.size false).map (Qm true)).length))]) (tv (T.op 2 0) rfl) (tv (T.os 1 1 0 (((List.replicate g.Cells.size false).map (Qm true)).length)) rfl) nofun rfl rfl (lb rfl) QnX QnC (bc rfl bn) rfl) (nt (sr (kO (B.alloc (t:=T.fn0) (ts:= [T.fn0]) (show Zd Tryz.prog 178=some .nilFunc by kernel_rfl) (show closedV .nilFunc=true by kernel_rfl) nofun (fun _=> .fn0) rfl) (nt ?_)))))))))))
 refine sr (fO (OF.makeFunc (vc (tv (T.op 0 0) rfl) (vc (tv (T.op 2 0) rfl) (vc (tv (T.op 3 0) rfl) vn)))) (cO (B.storeO (us:= [(T.fn 185 [(T.op 0 0),(T.op 2 0),(T.op 3 0)])]) (ws:= [(T.fn 185 [(T.op 0 0),(T.op 2 0),(T.op 3 0)])]) (tv (T.op 3 0) rfl) (tv (T.fn 185 [(T.op 0 0),(T.op 2 0),(T.op 3 0)]) rfl) nofun rfl rfl (lb rfl) Qnz Qnt (bc rfl bn) rfl) (nt (VRun.wk (Wk.recv (sz:=1) (k:=1) (us:=(Qc false g)) (f:=185) 38 (d1:=1) (d2:=3) (d3:=4) rfl rfl rfl rfl rfl rfl (by decide) (by decide) (by decide) (bc rfl (bc rfl (bc rfl bn)))) (sr (fO (OF.assign (VEv.int .i64 0)) (nt (sq (sr (lr (tS g.Cells) rfl (lb rfl) QE rfl Z7 (lO (B.lenS (tv (tS g.Cells) rfl) U9) ?_)))))))))))
 refine fO (OF.move (VEv.int .i64 0)) (nt (VRun.block ?_))
 have he1:(List.replicate g.Cells.size false)=(Qn g 0).2:=by rfl
 refine VRun.loop (A:=Nat) (fun s_=> [(1,(T.rp (Qc false g))),(2,(tN 0)),(3,(T.vp [(T.os 1 0 0 (((List.replicate g.Cells.size false).map (Qm true)).length))])),(4,(vtT 185 (T.rp (Qc false g)) (T.vp [(T.os 1 0 0 (((List.replicate g.Cells.size false).map (Qm true)).length))]) 38)),(5,(tN ((Qn g s_).1))),(17,(tN g.Cells.size)),(18,(tN s_))]) (fun s_=>Q3 [(0,(Obj.rows 1 (((Qn g s_).2).map (Qm true))))]) 1 (fun s_=>s_≤g.Cells.size) (fun s_=>g.Cells.size - s_) (0:Nat) ?_ (Wk.mk (fun k=>if k=0 then 1 else k) ?_ ?_ ?_) ?_
 ·(simp;done)
 ·exact (b2 (b2 (b2 (b2 (bc ⟨(congrArg (T.int .i64) (show 0=(((Qn g 0).1:Nat):Int) from (by rfl))),rfl⟩ (b2 (b2 bn)))))))
 ·exact (bc ⟨(congrArg (fun l_=>some (Obj.rows 1 (List.map (Qm true) l_))) he1),(lb rfl),rfl⟩ bn)
 ·exact nd rfl
 rintro i (hI':i≤g.Cells.size)
 show VRun _ _ _ [(1,(T.rp (Qc false g))),(2,(tN 0)),(3,(T.vp [(T.os 1 0 0 (((List.replicate g.Cells.size false).map (Qm true)).length))])),(4,(vtT 185 (T.rp (Qc false g)) (T.vp [(T.os 1 0 0 (((List.replicate g.Cells.size false).map (Qm true)).length))]) 38)),(5,(tN ((Qn g i).1))),(17,(tN g.Cells.size)),(18,(tN i))] (Q3 [(0,(Obj.rows 1 (((Qn g i).2).map (Qm true))))]) 1 _
 have hI1:=hI'
 have hpl:=Ji g i
 have hpn:=Qdk g i
 refine sr (fO (Zf (tv (tN i) rfl) (tv (tN g.Cells.size) rfl)) (nt (sq ?_)))
 refine cd (i<g.Cells.size) rfl (fun fhc1=> ?_) fun fhc1=> ?_
 ·refine sk ?_
  refine tn (sq (VRun.block (sr (mO (tN i) rfl (aO (tN i) rfl (nt (sr (lr (tS g.Cells) rfl (lb rfl) QE rfl Z7 (mO (tN i) rfl ?_)))))))))
  have hb2:i<g.Cells.size:=(by omega)
  refine fO (JN (tv (tS g.Cells) rfl) (tv (tN i) rfl) hb2 U9) (fO (Y7 (tv (T.int .u8 (Qu g.Cells i)) rfl) (VEv.int .u8 46)) (mO (tB (decide (Qu g.Cells i=46))) rfl ?_))
  refine VRunO.joinB 6 [27,28,29,30,31] 32 (tB (decide ((Qu g.Cells i=46)∧((!(((Qn g i).2)[i]?.getD false))=true)))) ?_ ?_
  ·refine gw (Qu g.Cells i=46) (fun fhg26_3=> ?_) fun fhg26_3=> ?_
   ·refine gL (dy fhg26_3) rfl rfl (OL.loadV1 (t:=(T.os 1 0 0 (((List.replicate g.Cells.size false).map (Qm true)).length))) (tv (T.vp [(T.os 1 0 0 (((List.replicate g.Cells.size false).map (Qm true)).length))]) rfl) rfl Qkg) ?_
    refine gF (dy fhg26_3) rfl rfl (OF.move (tv (tN i) rfl)) ?_
    have hy4:((Qn g i).2)[i]? =some (((Qn g i).2)[i]?.getD false):=Qae false (by omega)
    refine gF (dy fhg26_3) rfl rfl (B.indexAddrO (i:=i) (tv (T.os 1 0 0 (((List.replicate g.Cells.size false).map (Qm true)).length)) rfl) (tv (tN i) rfl) rfl (by (simp only [List.length_map,List.length_replicate];omega)) Jd sz4 if4) (gL (dy fhg26_3) rfl rfl (OL.loadP1 (t:=(tB (((Qn g i).2)[i]?.getD false))) (row:=(Qm true (((Qn g i).2)[i]?.getD false))) (tv (T.orp 1 0 i 0) rfl) rfl (Qv _ hy4) rfl rfl st4) (gF (dy fhg26_3) rfl rfl (QW (tv (tB (((Qn g i).2)[i]?.getD false)) rfl)) (fO (OF.pickT (VEv.tmpB rfl (dy fhg26_3)) (tv (tB (!(((Qn g i).2)[i]?.getD false))) rfl)) (VRunO.nil ?_))))
    exact jq (congrArg T.bool (kAT fhg26_3 (dT _))) (js rfl (js rfl (js rfl (js rfl (js rfl (jn))))))
   ·refine Qy 5 5 true 26 (dz fhg26_3) rfl rfl rfl ?_
    refine fO (OF.pickF (VEv.tmpB rfl (dz fhg26_3)) (VEv.bool false)) (VRunO.nil ?_)
    exact jq (congrArg T.bool (kAF fhg26_3)) (js rfl (js rfl (js rfl (js rfl (js rfl (jn))))))
  refine nt ?_
  refine cd ((Qu g.Cells i=46)∧((!(((Qn g i).2)[i]?.getD false))=true)) rfl (fun fhc2=> ?_) fun fhc2=> ?_
  ·have q0:QcZ g (Qn g i).2 i:=⟨fhc2.1,by simpa [on] using fhc2.2⟩
   have q1:=Qdf q0
   have hci:=QbB hgo (show i<g.Cells.size by omega)
   have hq0:0≤((i:Nat):Int) / ((g.Cols.toNat:Nat):Int):=Int.ediv_nonneg (by omega) (by omega)
   have hm0:0≤((i:Nat):Int) % ((g.Cols.toNat:Nat):Int):=Int.emod_nonneg _ (by omega)
   refine sr (mO (tN ((Qn g i).1)) rfl (fO (QB (tv (tN ((Qn g i).1)) rfl) (VEv.int .i64 1) (by omega)) (aO (tN ((Qn g i).1+1)) rfl (nt (VRun.draw (B:= [[],[],[],[2],[2,3,1],[],[],[6],[6,7,5],[5,7,6,8,1,3,2,4,0]]) (by kernel_rfl) (by kernel_rfl) (lD (OL.loadV1 (t:=(T.fn 185 [(T.rp (Qc false g)),(T.vp [(T.os 1 0 0 (((List.replicate g.Cells.size false).map (Qm true)).length))]),(vtT 185 (T.rp (Qc false g)) (T.vp [(T.os 1 0 0 (((List.replicate g.Cells.size false).map (Qm true)).length))]) 37)])) (tv (vtT 185 (T.rp (Qc false g)) (T.vp [(T.os 1 0 0 (((List.replicate g.Cells.size false).map (Qm true)).length))]) 38) rfl) rfl QhT) rfl rfl (mD (tN i) rfl rfl (fD (B.fieldAddrR (us:=((Qc false g).drop 1)) (tv (T.rp (Qc false g)) rfl) (lb rfl) Zn rfl) rfl rfl (lD (OL.loadR1 (t:=(tI g.Cols)) (tv (T.rp ((Qc false g).drop 1)) rfl) rfl QU) rfl rfl (fD (B.quo (n:=((i / g.Cols.toNat:Nat):Int)) (tv (tN i) rfl) (tv (tI g.Cols) rfl) (by omega) (by (refine Qne ?_ ?_<;>omega))) rfl rfl (mD (tN i) rfl rfl ?_)))))))))))
   refine fD (B.fieldAddrR (us:=((Qc false g).drop 1)) (tv (T.rp (Qc false g)) rfl) (lb rfl) Zn rfl) rfl rfl (lD (OL.loadR1 (t:=(tI g.Cols)) (tv (T.rp ((Qc false g).drop 1)) rfl) rfl QU) rfl rfl (fD (B.rem (n:=((i % g.Cols.toNat:Nat):Int)) (tv (tN i) rfl) (tv (tI g.Cols) rfl) (by omega) (by (refine Ql6 ?_;omega))) rfl rfl (VRunD.chain (bi:= [5,7,6,8,1,3,2,4,0]) rfl VWant.always rfl rfl rfl (by kernel_rfl) (OC.callvLoan (ts:= [(tN (i / g.Cols.toNat)),(tN (i % g.Cols.toNat)),(T.rp (Qc false g)),(T.vp [(T.os 1 0 0 (((List.replicate g.Cells.size false).map (Qm true)).length))]),(vtT 185 (T.rp (Qc false g)) (T.vp [(T.os 1 0 0 (((List.replicate g.Cells.size false).map (Qm true)).length))]) 37)]) (k:=0) (r:=(T.tup [])) (rows:=(((Qn g i).2).map (Qm true))) (rows':=((Y8 37 g ((Qn g i).2) ((i / g.Cols.toNat:Nat):Int) ((i % g.Cols.toNat:Nat):Int)).map (Qm true))) rfl rfl (vc (tv (tN (i / g.Cols.toNat)) rfl) (vc (tv (tN (i % g.Cols.toNat)) rfl) vn)) rfl (by simp only [Qay,ren,QbQ,List.cons_append,List.nil_append]) (tl rfl (tl rfl (tl rfl (tl rfl (tl (QdB rfl rfl _) rfl))))) LRes.none rfl (Zw (fun _=>rfl) _) (Zw (fun _=>rfl) _) (Qdg (n+0) (((List.replicate g.Cells.size false).map (Qm true)).length) g 37 ((Qn g i).2) ((i / g.Cols.toNat:Nat):Int) ((i % g.Cols.toNat:Nat):Int) (by exact fhc0) (by (simp only [Ji,List.length_map,List.length_replicate];done)) (by (simp only [List.length_map,List.length_replicate];omega)) (by omega) (by omega) (by (refine Nat.lt_of_le_of_lt List.count_le_length ?_;rw [Ji];omega)))) (VRunD.nil (vinB.n (tn (VRun.region (fO (QB (tv (tN i) rfl) (VEv.int .i64 1) (by omega)) (mO (tN (i+1)) rfl (VRunO.nil (tn ?_)))))))))))
   have he5:Y8 37 g ((Qn g i).2) ((i / g.Cols.toNat:Nat):Int) ((i % g.Cols.toNat:Nat):Int)=(Qn g (i+1)).2:=by (rw [q1.2];exact Qmg hgo hpl fhc1 (Nat.lt_of_le_of_lt List.count_le_length (by omega)) (Qb9 i hI1) q0.1)
   refine ⟨(i+1:Nat),?_,?_,Wk.mk (fun k=>k) ?_ ?_ ?_⟩
   ·trivial
   ·omega
   ·exact (b2 (b2 (b2 (b2 (bc ⟨(congrArg (T.int .i64) (show ((((Qn g i).1+1):Nat):Int)=(((Qn g (i+1)).1:Nat):Int) from (by omega))),rfl⟩ (b2 (b2 bn)))))))
   ·exact (bc ⟨(congrArg (fun l_=>some (Obj.rows 1 (List.map (Qm true) l_))) he5),(lb rfl),rfl⟩ bn)
   ·exact nd rfl
  have q0:¬QcZ g (Qn g i).2 i:=fun h=>fhc2 ⟨h.1,by have:=h.2;unfold on at this;rw [this];rfl⟩
  refine sk (vinB.n (tn (VRun.region (fO (QB (tv (tN i) rfl) (VEv.int .i64 1) (by omega)) (mO (tN (i+1)) rfl (VRunO.nil (tn ?_)))))))
  have he6:(Qn g i).2=(Qn g (i+1)).2:=by (rw [Qbw q0];done)
  refine ⟨(i+1:Nat),?_,?_,Wk.mk (fun k=>k) ?_ ?_ ?_⟩
  ·trivial
  ·omega
  ·exact (b2 (b2 (b2 (b2 (bc ⟨(congrArg (T.int .i64) (show (((Qn g i).1:Nat):Int)=(((Qn g (i+1)).1:Nat):Int) from (by (rw [Qbw q0];done)))),rfl⟩ (b2 (b2 bn)))))))
  ·exact (bc ⟨(congrArg (fun l_=>some (Obj.rows 1 (List.map (Qm true) l_))) he6),(lb rfl),rfl⟩ bn)
  ·exact nd rfl
 refine VRun.exit (vthn.e (vthn.e (vinB.e (tn (sr (mO (tN ((Qn g i).1)) rfl (aO (tN ((Qn g i).1)) rfl (nt (rt (vi (n':=(((Qn g i).1:Nat):Int)) rfl ?_))))))))))
 exact congrArg (fun x:Nat=>(x:Int)) (Qgf hI1 (.inl hgo) (by omega))
end Go.Proofs.YtcccmceoplcciaaGreat.AE
namespace Go.Proofs.YtcccmceoplcciaaGreat.AE
open Go Go.RowKit
set_option linter.unusedVariables false
set_option linter.unusedSimpArgs false
set_option maxRecDepth 20000
set_option maxHeartbeats 2000000
noncomputable section
def Z3 (g:D.Grid):Int:=if ¬gridOk g then 1 else if ¬Qep g then 2 else if ¬Z5 g=1 then 3 else if Qcx g then 4 else if Qbk g then 5 else 0
theorem Qin {g:D.Grid} (h:∀j s,j<(Qb g).length→(Qb g)[j]? =some s→¬Qeh g j s) (hg:gridOk g):Qgn g g.Cells↔Qbk g:=by
 constructor
 ·rintro ⟨c,h1,h2,_⟩
  exact .inr ⟨c,h1,hg,h2⟩
 ·rintro (⟨j,s,h3,h4⟩ | ⟨c,h1,_,h2⟩)
  ·exact absurd h4 (h j s (List.getElem?_eq_some_iff.1 h3).1 h3)
  ·refine ⟨c,h1,h2,?_⟩
   unfold Qbm
   have:=h2.1
   omega
end
theorem Qce (n:Nat) (g:D.Grid) (hc:g.Cells.size≤mx):Pure (Qq Tryz.prog (n+4)) 133 [(T.agg (Qc false g))] (tB (decide (Z5 g=1))):=by
 refine Pure.intro (rs:= [ResultVar.tmp 2]) Tryz.func133 rfl rfl rfl (E0:= [(0,(T.agg (Qc false g)))]) rfl ?_
 obtain ⟨hlim,hmx,hmax⟩:=QC
 refine sr (kO (B.box (ts:=(Qc false g)) (tv (T.agg (Qc false g)) rfl) nofun rfl) (fO (OF.assign (VEv.bool false)) (nt (sr (lO (OL.loadOn (us:=(Qc false g)) (tv (T.op 0 0) rfl) rfl QX QT (lb rfl) rfl) (cO (cS (vc (tv (T.agg (Qc false g)) rfl) vn) (LendL.cons (lg Qs) ln) (QeE (n+0) g (by assumption)) rfl rfl) (fO (B.eql (c:=(decide (Z5 g=1))) (tv (tN (Z5 g)) rfl) (VEv.int .i64 1) (Zb (by omega))) (aO (tB (decide (Z5 g=1))) rfl (nt (rt ?_))))))))))
 exact vb rfl rfl
theorem Qcj (n:Nat) (g:D.Grid) (hc:g.Cells.size≤mx):Pure (Qq Tryz.prog (n+40)) 137 [(T.agg (Qc false g))] (tB (decide (Z5 g=1))):=by
 refine Pure.intro (rs:= [ResultVar.tmp 2]) Tryz.func137 rfl rfl rfl (E0:= [(0,(T.agg (Qc false g)))]) rfl ?_
 obtain ⟨hlim,hmx,hmax⟩:=QC
 refine sr (kO (B.box (ts:=(Qc false g)) (tv (T.agg (Qc false g)) rfl) nofun rfl) (fO (OF.assign (VEv.bool false)) (nt (sr (lO (OL.loadOn (us:=(Qc false g)) (tv (T.op 0 0) rfl) rfl QX QT (lb rfl) rfl) (cO (cS (vc (tv (T.agg (Qc false g)) rfl) vn) (LendL.cons (lg Qs) ln) (QeJ (n+0) g (by assumption)) rfl rfl) (fO (B.eql (c:=(decide (Z5 g=1))) (tv (tN (Z5 g)) rfl) (VEv.int .i64 1) (Zb (by omega))) (aO (tB (decide (Z5 g=1))) rfl (nt (rt ?_))))))))))
 exact vb rfl rfl
theorem QfN (n:Nat) (g:D.Grid) (hc:g.Cells.size≤mx):Pure (Qq Tryz.prog (n+9)) 104 [(T.agg (Qc false g))] (tI (Z3 g)):=by
 refine Pure.intro (rs:= [ResultVar.tmp 2]) Tryz.func104 rfl rfl rfl (E0:= [(0,(T.agg (Qc false g)))]) rfl ?_
 obtain ⟨hlim,hmx,hmax⟩:=QC
 refine sr (kO (B.box (ts:=(Qc false g)) (tv (T.agg (Qc false g)) rfl) nofun rfl) (fO (OF.assign (VEv.int .i64 0)) (nt (sq (VRun.block (sr (lO (OL.loadOn (us:=(Qc false g)) (tv (T.op 0 0) rfl) rfl QX QT (lb rfl) rfl) (cO (cS (vc (tv (T.agg (Qc false g)) rfl) vn) (LendL.cons (lg Qs) ln) (ZZ (n+6) g (by omega)) rfl rfl) (fO (QW (tv (tB (decide (gridOk g))) rfl)) (aO (tB (!(decide (gridOk g)))) rfl (nt ?_)))))))))))
 refine cn (gridOk g) rfl (fun fhc0=> ?_) fun fhc0=> ?_
 ·refine sr ?_
  refine fO (OF.assign (VEv.int .i64 1)) (nt (rt (vinB.r (tr (vi (n':=1) rfl ?_)))))
  exact (if_pos (by assumption)).symm
 refine sr (lO (OL.loadOn (us:=(Qc false g)) (tv (T.op 0 0) rfl) rfl QX QT (lb rfl) rfl) (cO (cS (vc (tv (T.agg (Qc false g)) rfl) vn) (LendL.cons (lg Qs) ln) (Qcf (n+4) g (by omega)) rfl rfl) (fO (QW (tv (tB (decide (Qep g))) rfl)) (aO (tB (!(decide (Qep g)))) rfl (nt ?_)))))
 refine cn (Qep g) rfl (fun fhc1=> ?_) fun fhc1=> ?_
 ·refine sr ?_
  refine fO (OF.assign (VEv.int .i64 2)) (nt (rt (vinB.r (tr (vi (n':=2) rfl ?_)))))
  (simp only [Z3];simp [*];done)
 refine sr (lO (OL.loadOn (us:=(Qc false g)) (tv (T.op 0 0) rfl) rfl QX QT (lb rfl) rfl) (cO (cS (vc (tv (T.agg (Qc false g)) rfl) vn) (LendL.cons (lg Qs) ln) (Qce (n+4) g (by assumption)) rfl rfl) (fO (QW (tv (tB (decide (Z5 g=1))) rfl)) (aO (tB (!(decide (Z5 g=1)))) rfl (nt ?_)))))
 refine cn (Z5 g=1) rfl (fun fhc2=> ?_) fun fhc2=> ?_
 ·refine sr ?_
  refine fO (OF.assign (VEv.int .i64 3)) (nt (rt (vinB.r (tr (vi (n':=3) rfl ?_)))))
  (simp only [Z3];simp [*];done)
 refine sr (lO (OL.loadOn (us:=(Qc false g)) (tv (T.op 0 0) rfl) rfl QX QT (lb rfl) rfl) (cO (cS (vc (tv (T.agg (Qc false g)) rfl) vn) (LendL.cons (lg Qs) ln) (Qej (n+4) g (by omega)) rfl rfl) (aO (tB (decide (Qcx g))) rfl (nt ?_))))
 refine cd (Qcx g) rfl (fun fhc3=> ?_) fun fhc3=> ?_
 ·refine sr ?_
  refine fO (OF.assign (VEv.int .i64 4)) (nt (rt (vinB.r (tr (vi (n':=4) rfl ?_)))))
  (simp only [Z3];simp [*];done)
 refine sr (lO (OL.loadOn (us:=(Qc false g)) (tv (T.op 0 0) rfl) rfl QX QT (lb rfl) rfl) (cO (cS (vc (tv (T.agg (Qc false g)) rfl) vn) (LendL.cons (lg Qs) ln) (Qee (n+0) g (by omega)) rfl rfl) (aO (tB (decide (Qbk g))) rfl (nt ?_))))
 refine cd (Qbk g) rfl (fun fhc4=> ?_) fun fhc4=> ?_
 ·refine sr ?_
  refine fO (OF.assign (VEv.int .i64 5)) (nt (rt (vinB.r (tr (vi (n':=5) rfl ?_)))))
  (simp only [Z3];simp [*];done)
 refine sk (vinB.n (tn (sr (fO (OF.assign (VEv.int .i64 0)) (nt (rt (vi (n':=0) rfl ?_)))))))
 (simp only [Z3];simp [*];done)
theorem QfH (n:Nat) (g:D.Grid) (hc:g.Cells.size≤mx):Pure (Qq Tryz.prog (n+41)) 106 [(T.agg (Qc false g))] (tI (Z3 g)):=by
 refine Pure.intro (rs:= [ResultVar.tmp 2]) Tryz.func106 rfl rfl rfl (E0:= [(0,(T.agg (Qc false g)))]) rfl ?_
 obtain ⟨hlim,hmx,hmax⟩:=QC
 have hsl:=Ze g
 refine sr (kO (B.box (ts:=(Qc false g)) (tv (T.agg (Qc false g)) rfl) nofun rfl) (fO (OF.assign (VEv.int .i64 0)) (nt (sq (VRun.block (sr (lO (OL.loadOn (us:=(Qc false g)) (tv (T.op 0 0) rfl) rfl QX QT (lb rfl) rfl) (cO (cS (vc (tv (T.agg (Qc false g)) rfl) vn) (LendL.cons (lg Qs) ln) (Yi (n+38) g (by omega)) rfl rfl) (fO (QW (tv (tB (decide (gridOk g))) rfl)) (aO (tB (!(decide (gridOk g)))) rfl (nt ?_)))))))))))
 refine cn (gridOk g) rfl (fun fhc0=> ?_) fun fhc0=> ?_
 ·refine sr ?_
  refine fO (OF.assign (VEv.int .i64 1)) (nt (rt (vinB.r (tr (vi (n':=1) rfl ?_)))))
  exact (if_pos fhc0).symm
 refine sr (lO (OL.loadOn (us:=(Qc false g)) (tv (T.op 0 0) rfl) rfl QX QT (lb rfl) rfl) (cO (cS (vc (tv (T.agg (Qc false g)) rfl) vn) (LendL.cons (lg Qs) ln) (Qck (n+36) g (by omega)) rfl rfl) (fO (QW (tv (tB (decide (Qep g))) rfl)) (aO (tB (!(decide (Qep g)))) rfl (nt ?_)))))
 refine cn (Qep g) rfl (fun fhc1=> ?_) fun fhc1=> ?_
 ·refine sr ?_
  refine fO (OF.assign (VEv.int .i64 2)) (nt (rt (vinB.r (tr (vi (n':=2) rfl ?_)))))
  unfold Z3;rw [if_neg (not_not_intro fhc0),if_pos fhc1]
 refine sr (lO (OL.loadOn (us:=(Qc false g)) (tv (T.op 0 0) rfl) rfl QX QT (lb rfl) rfl) (cO (cS (vc (tv (T.agg (Qc false g)) rfl) vn) (LendL.cons (lg Qs) ln) (Qcj (n+0) g (by assumption)) rfl rfl) (fO (QW (tv (tB (decide (Z5 g=1))) rfl)) (aO (tB (!(decide (Z5 g=1)))) rfl (nt ?_)))))
 refine cn (Z5 g=1) rfl (fun fhc2=> ?_) fun fhc2=> ?_
 ·refine sr ?_
  refine fO (OF.assign (VEv.int .i64 3)) (nt (rt (vinB.r (tr (vi (n':=3) rfl ?_)))))
  unfold Z3;rw [if_neg (not_not_intro fhc0),if_neg (not_not_intro fhc1),if_pos fhc2]
 refine sk (vinB.n (tn (sr (lO (OL.loadOn (us:=(Qc false g)) (tv (T.op 0 0) rfl) rfl QX QT (lb rfl) rfl) (cO (OC.callF (us:= [(T.agg (Qc false g))]) (r:=(T.sl true 4 ((Qb g).map (Qf true)))) (r':=(T.os 4 1 0 (((Qb g).map (Qf true)).length))) (objs:= [(Obj.rows 4 ((Qb g).map (Qf true)))]) rfl (vc (tv (T.agg (Qc false g)) rfl) vn) (LendL.cons (lg Qs) ln) (JZ (n+37) g (by omega)) rfl) (aO (T.os 4 1 0 (((Qb g).map (Qf true)).length)) rfl (nt (sq (sr (mO (T.os 4 1 0 (((Qb g).map (Qf true)).length)) rfl (lO (B.lenO (m:=(Qb g).length) (tv (T.os 4 1 0 (((Qb g).map (Qf true)).length)) rfl) Z9 (List.length_map ..)) ?_)))))))))))
 refine fO (OF.move (VEv.int .i64 0)) (nt (VRun.block ?_))
 refine VRun.loop (A:=Nat) (fun s_=> [(1,(T.op 0 0)),(3,(T.os 4 1 0 (((Qb g).map (Qf true)).length))),(22,(T.os 4 1 0 (((Qb g).map (Qf true)).length))),(23,(tN ((Qb g).length))),(24,(tN s_))]) (fun s_=>Q3 [(0,(Obj.cells (Qc false g))),(1,(Obj.rows 4 ((Qb g).map (Qf true))))]) 2 (fun s_=>NoneTo (fun s:D.Slot=>s.Length<3) (Qb g) s_) (fun s_=>(Qb g).length - s_) (0:Nat) ?_ (Wk.mk (fun k=>k) ?_ ?_ ?_) ?_
 ·exact NoneTo.start _ _
 ·exact (b2 (b2 (b2 (b2 (b2 bn)))))
 ·exact (b3 (b3 bn))
 ·exact nd rfl
 rintro i (hI':NoneTo (fun s:D.Slot=>s.Length<3) (Qb g) i)
 show VRun _ _ _ [(1,(T.op 0 0)),(3,(T.os 4 1 0 (((Qb g).map (Qf true)).length))),(22,(T.os 4 1 0 (((Qb g).map (Qf true)).length))),(23,(tN ((Qb g).length))),(24,(tN i))] (Q3 [(0,(Obj.cells (Qc false g))),(1,(Obj.rows 4 ((Qb g).map (Qf true))))]) 2 _
 have hI1:=hI'.1
 have hns:=hI'
 refine sr (fO (Zf (tv (tN i) rfl) (tv (tN ((Qb g).length)) rfl)) (nt (sq ?_)))
 refine cd (i<(Qb g).length) rfl (fun fhc3=> ?_) fun fhc3=> ?_
 ·have hx0:=fhc3
  refine sk (tn (sq (VRun.block (sr ?_))))
  obtain ⟨x1,hx1⟩:∃x,(Qb g)[i]? =some x:=⟨_,List.getElem?_eq_getElem (by omega)⟩
  refine fO (B.indexAddrO (i:=i) (tv (T.os 4 1 0 (((Qb g).map (Qf true)).length)) rfl) (tv (tN i) rfl) rfl (by (simp only [List.length_map];omega)) Z9 Zk Qa7) (lO (OL.loadPn (us:=(Qf false x1)) (row:=(Qf true x1)) (tv (T.orp 4 1 i 0) rfl) rfl (Qv _ hx1) QcD Zk (lb rfl) rfl (bc rfl (bc rfl (bc rfl (bc rfl bn))))) (kO (B.alloc (t:=(T.agg [(tN 0),(tB false),(tN 0),(tN 0)])) (ts:= [(tN 0),(tB false),(tN 0),(tN 0)]) YE QkY nofun (fun _=> .agg _ _ rfl (Yg (RL.cons (.int _ _) (RL.cons (.bool _) (RL.cons (.int _ _) (RL.cons (.int _ _) (RL.nil _))))))) rfl) (cO (B.storeO (us:=(Qf false x1)) (ws:=(Qf false x1)) (tv (T.op 2 0) rfl) (tv (T.agg (Qf false x1)) rfl) nofun rfl rfl (lb rfl) Qa7 Zk (bc rfl (bc rfl (bc rfl (bc rfl bn)))) rfl) (nt (sr (lf (tI x1.Length) rfl QaV rfl rfl QU (fO (xls (tv (tI x1.Length) rfl) (VEv.int .i64 3)) (nt ?_))))))))
  refine cd (x1.Length<3) rfl (fun fhc4=> ?_) fun fhc4=> ?_
  ·refine sr ?_
   refine fO (OF.assign (VEv.int .i64 4)) (nt (rt (vinB.r (tr (tr (vinB.r (tr (vi (n':=4) rfl ?_))))))))
   unfold Z3;rw [if_neg (not_not_intro fhc0),if_neg (not_not_intro fhc1),if_neg (not_not_intro fhc2),if_pos (show Qcx g from ⟨x1,List.mem_of_getElem? hx1,fhc4⟩)]
  refine sk (vinB.n (tn (VRun.region (fO (QB (tv (tN i) rfl) (VEv.int .i64 1) (by omega)) (mO (tN (i+1)) rfl (VRunO.nil (tn ?_)))))))
  refine ⟨(i+1:Nat),?_,?_,Wk.mk (fun k=>k) ?_ ?_ ?_⟩
  ·exact hI'.next hx1 fhc4
  ·omega
  ·exact (b2 (b2 (b2 (b2 (b2 bn)))))
  ·exact (b3 (b3 bn))
  ·exact nd rfl
 have hsh:¬Qcx g:=by rintro ⟨y,hy,hy2⟩;exact hns.mem fhc3 y hy hy2
 refine VRun.exit (vthn.e (vthn.e (vinB.e (tn (sq (sr (mO (T.os 4 1 0 (((Qb g).map (Qf true)).length)) rfl (lO (B.lenO (m:=(Qb g).length) (tv (T.os 4 1 0 (((Qb g).map (Qf true)).length)) rfl) Z9 (List.length_map ..)) (fO (OF.move (VEv.int .i64 0)) (nt (VRun.block ?_)))))))))))
 refine VRun.loop (A:=Nat) (fun s_=> [(1,(T.op 0 0)),(32,(T.os 4 1 0 (((Qb g).map (Qf true)).length))),(33,(tN ((Qb g).length))),(34,(tN s_))]) (fun s_=>Q3 [(0,(Obj.cells (Qc false g))),(1,(Obj.rows 4 ((Qb g).map (Qf true))))]) 2 (fun s_=>NoBad g s_) (fun s_=>(Qb g).length - s_) (0:Nat) ?_ (Wk.mk (fun k=>k) ?_ ?_ ?_) ?_
 ·exact NoBad.start _
 ·exact (b2 (b2 (b2 (b2 bn))))
 ·exact (b3 (b3 bn))
 ·exact nd rfl
 rintro k (hI':NoBad g k)
 show VRun _ _ _ [(1,(T.op 0 0)),(32,(T.os 4 1 0 (((Qb g).map (Qf true)).length))),(33,(tN ((Qb g).length))),(34,(tN k))] (Q3 [(0,(Obj.cells (Qc false g))),(1,(Obj.rows 4 ((Qb g).map (Qf true))))]) 2 _
 have hJ1:=hI'.1
 have hub:=QkR g ((k:Nat):Int)
 refine sr (fO (Zf (tv (tN k) rfl) (tv (tN ((Qb g).length)) rfl)) (nt (sq ?_)))
 refine cd (k<(Qb g).length) rfl (fun fhc5=> ?_) fun fhc5=> ?_
 ·refine sk ?_
  refine tn (sq (VRun.block (sr (mO (tN k) rfl ?_))))
  obtain ⟨x1,hx1⟩:∃x,(Qb g)[k]? =some x:=⟨_,List.getElem?_eq_getElem (by omega)⟩
  refine fO (B.indexAddrO (i:=k) (tv (T.os 4 1 0 (((Qb g).map (Qf true)).length)) rfl) (tv (tN k) rfl) rfl (by (simp only [List.length_map];omega)) Z9 Zk Qa7) (lO (OL.loadPn (us:=(Qf false x1)) (row:=(Qf true x1)) (tv (T.orp 4 1 k 0) rfl) rfl (Qv _ hx1) QcD Zk (lb rfl) rfl (bc rfl (bc rfl (bc rfl (bc rfl bn))))) (kO (B.alloc (t:=(T.agg [(tN 0),(tB false),(tN 0),(tN 0)])) (ts:= [(tN 0),(tB false),(tN 0),(tN 0)]) YE QkY nofun (fun _=> .agg _ _ rfl (Yg (RL.cons (.int _ _) (RL.cons (.bool _) (RL.cons (.int _ _) (RL.cons (.int _ _) (RL.nil _))))))) rfl) (aO (tN k) rfl (cO (B.storeO (us:=(Qf false x1)) (ws:=(Qf false x1)) (tv (T.op 2 0) rfl) (tv (T.agg (Qf false x1)) rfl) nofun rfl rfl (lb rfl) Qa7 Zk (bc rfl (bc rfl (bc rfl (bc rfl bn)))) rfl) (nt (sq (VRun.draw (B:= [[],[],[1,0],[0,1,2],[],[4],[4,5,2,1,0,3]]) (by kernel_rfl) (by kernel_rfl) (lD (OL.loadOn (us:=(Qc false g)) (tv (T.op 0 0) rfl) rfl QX QT (lb rfl) rfl) rfl rfl (mD (tN k) rfl rfl (VRunD.quiet (bi:= [1,0]) rfl VWant.always rfl rfl rfl bn (cS (vc (tv (T.agg (Qc false g)) rfl) (vc (tv (tN k) rfl) vn)) (LendL.cons (lg Qs) (lp rfl ln)) (Qcd (n+33) g ((k:Nat):Int) (by omega)) rfl rfl) (fD (B.mul (n:=(2*unG g ((k:Nat):Int))) (VEv.int .i64 2) (tv (tI (unG g ((k:Nat):Int))) rfl) (by (rw [Qt (by omega)];done))) rfl rfl ?_)))))))))))
  refine fD (OF.fieldAddrO (tv (T.op 2 0) rfl) QaV) rfl rfl (lD (OL.loadO1 (t:=(tI x1.Length)) (tv (T.op 2 3) rfl) rfl rfl QU) rfl rfl (fD (xgt (tv (tI (2*unG g ((k:Nat):Int))) rfl) (tv (tI x1.Length) rfl)) rfl rfl (VRunD.nil (tn ?_))))
  refine cd (x1.Length<(2*unG g ((k:Nat):Int))) rfl (fun fhc6=> ?_) fun fhc6=> ?_
  ·have q1:Qeh g k x1:=by unfold Qeh;omega
   refine sr (fO (OF.assign (VEv.int .i64 5)) (nt (rt (vinB.r (tr (tr (vinB.r (tr (vi (n':=5) rfl ?_)))))))))
   unfold Z3;rw [if_neg (not_not_intro fhc0),if_neg (not_not_intro fhc1),if_neg (not_not_intro fhc2),if_neg hsh,if_pos (show Qbk g from .inl ⟨k,x1,hx1,q1⟩)]
  have q1:¬Qeh g k x1:=by unfold Qeh;omega
  refine sk (vinB.n (tn (VRun.region (fO (QB (tv (tN k) rfl) (VEv.int .i64 1) (by omega)) (mO (tN (k+1)) rfl (VRunO.nil (tn ?_)))))))
  refine ⟨(k+1:Nat),?_,?_,Wk.mk (fun k=>k) ?_ ?_ ?_⟩
  ·exact hI'.next hx1 q1
  ·omega
  ·exact (b2 (b2 (b2 (b2 bn))))
  ·exact (b3 (b3 bn))
  ·exact nd rfl
 have hal:=Qin (g:=g) (fun j s hj=>hI'.2 j s (by omega)) (by simpa using fhc0)
 refine VRun.exit (vthn.e (vthn.e (vinB.e (tn (sq (sr (lO (OL.loadOn (us:=(Qc false g)) (tv (T.op 0 0) rfl) rfl QX QT (lb rfl) rfl) (lf (tS g.Cells) rfl QE rfl rfl Z7 (cO (cS (vc (tv (T.agg (Qc false g)) rfl) (vc (tv (tS g.Cells) rfl) vn)) (LendL.cons (lg Qs) (lp rfl ln)) (QgF (n+35) g g.Cells (by omega) (by omega)) rfl rfl) (nt ?_))))))))))
 refine cd (Qgn g g.Cells) rfl (fun fhc7=> ?_) fun fhc7=> ?_
 ·refine sr ?_
  refine fO (OF.assign (VEv.int .i64 5)) (nt (rt (tr (vi (n':=5) rfl ?_))))
  unfold Z3;rw [if_neg (not_not_intro fhc0),if_neg (not_not_intro fhc1),if_neg (not_not_intro fhc2),if_neg hsh,if_pos (hal.1 fhc7)]
 refine sk (tn (sr (fO (OF.assign (VEv.int .i64 0)) (nt (rt (vi (n':=0) rfl ?_))))))
 unfold Z3;rw [if_neg (not_not_intro fhc0),if_neg (not_not_intro fhc1),if_neg (not_not_intro fhc2),if_neg hsh,if_neg (fun h=>fhc7 (hal.2 h))]
end Go.Proofs.YtcccmceoplcciaaGreat.AE
namespace Go.Proofs.YtcccmceoplcciaaGreat.AE
open Go Go.RowKit
set_option linter.unusedVariables false
set_option linter.unusedSimpArgs false
set_option maxRecDepth 20000
set_option maxHeartbeats 2000000
noncomputable section
def okC (c:D.Clue):Prop:=(1≤c.Sense∧c.Sense≤99)∧Ys c.Play
end
end Go.Proofs.YtcccmceoplcciaaGreat.AE
namespace Go.Proofs.YtcccmceoplcciaaGreat.AE
open Go Go.RowKit
set_option linter.unusedVariables false
set_option linter.unusedSimpArgs false
set_option maxRecDepth 20000
set_option maxHeartbeats 2000000
noncomputable section
def Qfk : Nat→Int→ByteArray→ByteArray
 | 0,_,acc=>acc
 | f+1,k,acc=>if 0<k then Qfk f (k.tdiv 10) (Yc [IntKind.u8.wrap (48+k.tmod 10)]++acc) else acc
def Qba (k:Int):ByteArray:=if k≤0 then ⟨#[109,48]⟩ else ⟨#[109]⟩++Qfk k.toNat k ⟨#[]⟩
theorem Qjw {f:Nat} {k:Int} {acc:ByteArray} (hk:0<k) (hf:k.toNat≤f):0≤k.tdiv 10∧(k.tdiv 10).toNat≤f - 1∧Qfk f k acc=Qfk (f - 1) (k.tdiv 10) (Yc [IntKind.u8.wrap (48+k.tmod 10)]++acc):=by
 have h1:k.tdiv 10=k / 10:=Int.tdiv_eq_ediv_of_nonneg (by omega)
 cases f with
 | zero=>omega
 | succ f =>
  refine ⟨by omega,by omega,?_⟩
  simp only [Qfk,if_pos hk]
  rfl
theorem Qlc {f:Nat} {k:Int} {acc:ByteArray} (hk:¬ 0<k):Qfk f k acc=acc:=by
 cases f with
 | zero=>rfl
 | succ f=>simp only [Qfk,if_neg hk]
theorem Qkm (n:Int):(Yc [n]).size=1:=rfl
theorem QmP {k:Int} (h:0<k):0≤k.tmod 10∧k.tmod 10<10∧0≤k.tdiv 10∧k.tdiv 10≤k:=by
 rw [Int.tmod_eq_emod_of_nonneg (by omega),Int.tdiv_eq_ediv_of_nonneg (by omega)]
 omega
end
theorem Qd7 (n:Nat) (q:Int) (hq:q≤YW):Pure (Qq Tryz.prog (n+1)) 102 [(tI q)] (tS (Qba q)):=by
 refine Pure.intro (rs:= [ResultVar.tmp 2]) Tryz.func102 rfl rfl rfl (E0:= [(0,(tI q))]) rfl ?_
 obtain ⟨hlim,hmx,hmax⟩:=QC
 refine sr (fO (OF.assign (VEv.str (⟨#[]⟩:ByteArray))) (nt (sq (sr (mO (tI q) rfl (fO (xle (tv (tI q) rfl) (VEv.int .i64 0)) (nt ?_)))))))
 refine cd (q≤0) rfl (fun fhc0=> ?_) fun fhc0=> ?_
 ·refine sr ?_
  refine fO (OF.assign (VEv.str (⟨#[109,48]⟩:ByteArray))) (nt (rt (tr ?_)))
  refine vfin.eq (r':=(tS (⟨#[109,48]⟩:ByteArray))) ?_ (vfin.r (VRes.tmp (t:=(tS (⟨#[109,48]⟩:ByteArray))) rfl VRes.nil) (Give.str _))
  show (tS (⟨#[109,48]⟩:ByteArray))=(tS (Qba q))
  refine congrArg T.str ?_
  exact (if_pos fhc0).symm
 refine sk (tn (sr (fO (OF.assign (VEv.str (⟨#[]⟩:ByteArray))) (nt (sq (VRun.block ?_))))))
 refine VRun.loop (A:=Int×Nat×ByteArray) (fun s_=> [(0,(tI s_.1)),(2,(tS (⟨#[]⟩:ByteArray))),(3,(tS s_.2.2))]) (fun s_=>Q3 []) 0 (fun s_=>0≤s_.1∧s_.1.toNat≤s_.2.1∧s_.2.2.size+s_.2.1≤q.toNat∧Qfk q.toNat q ⟨#[]⟩=Qfk s_.2.1 s_.1 s_.2.2) (fun s_=>s_.2.1) ((q,q.toNat,⟨#[]⟩):Int×Nat×ByteArray) ?_ (Wk.mk (fun k=>k) ?_ ?_ ?_) ?_
 ·exact ⟨by omega,Nat.le_refl _,by show 0+q.toNat≤q.toNat;omega,rfl⟩
 ·exact (b2 (b2 (bc ⟨(congrArg T.str (show (⟨#[]⟩:ByteArray)=⟨#[]⟩ from (by rfl))),rfl⟩ bn)))
 ·exact bn
 ·exact nd rfl
 rintro ⟨k,f,acc⟩ (hI':0≤k∧k.toNat≤f∧acc.size+f≤q.toNat∧Qfk q.toNat q ⟨#[]⟩=Qfk f k acc)
 show VRun _ _ _ [(0,(tI k)),(2,(tS (⟨#[]⟩:ByteArray))),(3,(tS acc))] (Q3 []) 0 _
 have hI1:=hI'.1
 have hI2:=hI'.2.1
 have hI3:=hI'.2.2.1
 have hI4:=hI'.2.2.2
 refine sq (sr (mO (tI k) rfl (fO (xgt (tv (tI k) rfl) (VEv.int .i64 0)) (nt ?_))))
 refine cd (0<k) rfl (fun fhc1=> ?_) fun fhc1=> ?_
 ·obtain ⟨m1,m2,m3,m4⟩:=QmP fhc1
  refine sk (tn (VRun.block (sr (mO (tI k) rfl (fO (B.rem (n:=(k.tmod 10)) (tv (tI k) rfl) (VEv.int .i64 10) (by omega) (by rfl)) (fO (B.add (n:=(48+(k.tmod 10))) (VEv.int .i64 48) (tv (tI (k.tmod 10)) rfl) (by (rw [Qt (by omega)];done))) (fO (OF.convI (tv (tI (48+(k.tmod 10))) rfl) (k0:= .i64) U3 U5) (kO (OM.buildSlice (l:= [(T.int .u8 (IntKind.u8.wrap (48+(k.tmod 10))))]) (VEvp.cons (tv (T.int .u8 (IntKind.u8.wrap (48+(k.tmod 10)))) rfl) VEvp.nil) rfl (by decide) (bc (nofun) bn) (bc ((bc (rfl) bn)) bn) (bc (rfl) bn) QdI zo5 (by kernel_rfl) rfl (by rw [sz5];decide) sz5 (Nat.le_of_ble_eq_true rfl)) (lO (B.convBS (l:= [IntKind.u8.wrap (48+(k.tmod 10))]) (tv (T.os 1 0 0 1) rfl) rfl rfl QdI U5 U9) (mO (tS acc) rfl (fO (B.sadd (tv (tS (Yc [IntKind.u8.wrap (48+(k.tmod 10))])) rfl) (tv (tS acc) rfl) (by (simp only [Qkm];omega))) ?_)))))))))))
  refine aO (tS ((Yc [IntKind.u8.wrap (48+(k.tmod 10))])++acc)) rfl (nt (VRun.region (mO (tI k) rfl (fO (B.quo (n:=(k.tdiv 10)) (tv (tI k) rfl) (VEv.int .i64 10) (by omega) (by (rw [Qt (by omega)];done))) (aO (tI (k.tdiv 10)) rfl (VRunO.nil (vinB.n (tn ?_))))))))
  obtain ⟨n1,n2,n3⟩:=Qjw (acc:=acc) fhc1 hI2
  refine ⟨((k.tdiv 10,f - 1,Yc [IntKind.u8.wrap (48+k.tmod 10)]++acc):Int×Nat×ByteArray),?_,?_,Wk.mk (fun k=>k) ?_ ?_ ?_⟩
  ·exact ⟨n1,n2,by show (Yc _++acc).size+(f - 1)≤q.toNat;rw [ByteArray.size_append,Qkm];omega,hI4.trans n3⟩
  ·(simp only [];omega)
  ·exact (b2 (b2 (bc ⟨(congrArg T.str (show ((Yc [IntKind.u8.wrap (48+(k.tmod 10))])++acc)=(Yc [IntKind.u8.wrap (48+k.tmod 10)]++acc) from (by rfl))),rfl⟩ bn)))
  ·exact bn
  ·exact nd rfl
 refine VRun.exit (vthn.e (vthn.e (vinB.e (tn (sr (mO (tS acc) rfl (fO (B.sadd (VEv.str (⟨#[109]⟩:ByteArray)) (tv (tS acc) rfl) (by (rw [show (⟨#[109]⟩:ByteArray).size=1 from rfl];omega))) (aO (tS ((⟨#[109]⟩:ByteArray)++acc)) rfl (nt (rt ?_))))))))))
 refine vfin.eq (r':=(tS ((⟨#[109]⟩:ByteArray)++acc))) ?_ (vfin.r (VRes.tmp (t:=(tS ((⟨#[109]⟩:ByteArray)++acc))) rfl VRes.nil) (Give.str _))
 show (tS ((⟨#[109]⟩:ByteArray)++acc))=(tS (Qba q))
 refine congrArg T.str ?_
 unfold Qba
 rw [if_neg fhc0,hI4,Qlc fhc1]
end Go.Proofs.YtcccmceoplcciaaGreat.AE
namespace Go.Proofs.YtcccmceoplcciaaGreat.AE
open Go Go.RowKit
set_option linter.unusedVariables false
set_option linter.unusedSimpArgs false
set_option maxRecDepth 20000
set_option maxHeartbeats 2000000
noncomputable section
def Zv (k:Nat):D.Step:=(D.Step.mk ((k:Nat):Int) (Qba ((k+1:Nat):Int)) ((k+2:Nat):Int) ((k+3:Nat):Int))
end
theorem Qdz (n:Nat) (a:List D.Step) (k:Nat) (hk:k+4*a.length≤YW):Mut (Qq Tryz.prog (n+2)) 52 4 (a.map (Qj true)) [(tN k)] (some ((k+4*a.length:Nat):Int)) ((JJ Zv 4 k a.length).map (Qj true)):=by
 refine Mut.intro (rt:=4) Tryz.func52 rfl rfl rfl (by kernel_rfl) (Zw (fun _=>rfl) _) (Zw (fun _=>rfl) _) (E0:= [(1,(tN k))]) rfl ?_
 obtain ⟨hlim,hmx,hmax⟩:=QC
 refine sr (fO (OF.assign (VEv.int .i64 0)) (nt (sq (sr (fO (OF.assign (VEv.int .i64 0)) (nt (VRun.block ?_)))))))
 have he1:a=Jb Zv 4 k a 0:=by rfl
 refine VRun.loop (A:=Nat) (fun s_=> [(0,(T.os 4 0 0 (((Jb Zv 4 k a s_).map (Qj true)).length))),(1,(tN (k+4*s_))),(4,(tN 0)),(5,(tN s_))]) (fun s_=>Q3 [(0,(Obj.rows 4 ((Jb Zv 4 k a s_).map (Qj true))))]) 1 (fun s_=>s_≤a.length) (fun s_=>a.length - s_) (0:Nat) ?_ (Wk.mk (fun k=>k) ?_ ?_ ?_) ?_
 ·(simp;done)
 ·exact (bc ⟨(congrArg (fun l_=>T.os 4 0 0 (List.map (Qj true) l_).length) he1),rfl⟩ (bc ⟨(congrArg (T.int .i64) (show ((k:Nat):Int)=((k+4*0:Nat):Int) from (by rfl))),rfl⟩ (b2 (b2 bn))))
 ·exact (bc ⟨(congrArg (fun l_=>some (Obj.rows 4 (List.map (Qj true) l_))) he1),(lb rfl),rfl⟩ bn)
 ·exact nd rfl
 rintro i (hI':i≤a.length)
 show VRun _ _ _ [(0,(T.os 4 0 0 (((Jb Zv 4 k a i).map (Qj true)).length))),(1,(tN (k+4*i))),(4,(tN 0)),(5,(tN i))] (Q3 [(0,(Obj.rows 4 ((Jb Zv 4 k a i).map (Qj true))))]) 1 _
 have hml:=QbG (f:=Zv) (w:=4) (k:=k) hI'
 refine sq (sr (mO (tN i) rfl (mO (T.os 4 0 0 (((Jb Zv 4 k a i).map (Qj true)).length)) rfl (lO (B.lenO (m:=(Jb Zv 4 k a i).length) (tv (T.os 4 0 0 (((Jb Zv 4 k a i).map (Qj true)).length)) rfl) U81 (List.length_map ..)) (fO (Zf (tv (tN i) rfl) (tv (tN ((Jb Zv 4 k a i).length)) rfl)) (nt ?_))))))
 refine cd (i<(Jb Zv 4 k a i).length) rfl (fun fhc0=> ?_) fun fhc0=> ?_
 ·refine sk ?_
  refine tn (sq (VRun.block (sr (mO (T.os 4 0 0 (((Jb Zv 4 k a i).map (Qj true)).length)) rfl (mO (tN i) rfl (mO (tN (k+4*i)) rfl ?_))))))
  obtain ⟨x1,hx1⟩:∃x,(Jb Zv 4 k a i)[i]? =some x:=⟨_,List.getElem?_eq_getElem (by omega)⟩
  refine fO (B.indexAddrO (i:=i) (tv (T.os 4 0 0 (((Jb Zv 4 k a i).map (Qj true)).length)) rfl) (tv (tN i) rfl) rfl (by (simp only [List.length_map];omega)) U81 Yt J6) (fO (OF.fieldAddrP (tv (T.orp 4 0 i 0) rfl) Za) (cO (B.storeP (us:= [(tN (k+4*i))]) (rows':=(((Jb Zv 4 k a i).set i (D.Step.mk ((k+4*i:Nat):Int) x1.Word x1.A x1.B)).map (Qj true))) (row:=(Qj true x1)) (tv (T.orp 4 0 i 0) rfl) (tv (tN (k+4*i)) rfl) nofun rfl (Qv _ hx1) rfl (lb rfl) Yk Q8 (bc rfl bn) (by intro r hr t ht;obtain ⟨x,_,rfl⟩:=List.mem_map.1 hr;rw [Qfi] at ht;exact ZQ (okeStep.pl _ t ht)) (ZL rfl)) (nt (sr (mO (tN (k+4*i)) rfl (fO (QB (tv (tN (k+4*i)) rfl) (VEv.int .i64 1) (by omega)) (aO (tN (k+4*i+1)) rfl (nt (sr (mO (T.os 4 0 0 (((Jb Zv 4 k a i).map (Qj true)).length)) rfl (mO (tN i) rfl ?_)))))))))))
  refine mO (tN (k+4*i+1)) rfl (cO (cS (vc (tv (tN (k+4*i+1)) rfl) vn) (ZJ rfl) (Qd7 (n+0) (((k+4*i+1):Nat):Int) (by omega)) rfl rfl) (fO (B.indexAddrO (i:=i) (tv (T.os 4 0 0 (((Jb Zv 4 k a i).map (Qj true)).length)) rfl) (tv (tN i) rfl) rfl (by (simp only [List.length_map];omega)) U81 Yt J6) (fO (OF.fieldAddrP (tv (T.orp 4 0 i 0) rfl) Qah) (cO (B.storeP (us:= [(tS (Qba (((k+4*i+1):Nat):Int)))]) (rows':=((((Jb Zv 4 k a i).set i (D.Step.mk ((k+4*i:Nat):Int) x1.Word x1.A x1.B)).set i (D.Step.mk ((k+4*i:Nat):Int) (Qba (((k+4*i+1):Nat):Int)) x1.A x1.B)).map (Qj true))) (row:=(Qj true (D.Step.mk ((k+4*i:Nat):Int) x1.Word x1.A x1.B))) (tv (T.orp 4 0 i 1) rfl) (tv (tS (Qba (((k+4*i+1):Nat):Int))) rfl) nofun rfl (Qv _ (QgW (by omega))) rfl (lb rfl) if9 sz9 (bc rfl bn) (by intro r hr t ht;obtain ⟨x,_,rfl⟩:=List.mem_map.1 hr;rw [Qfi] at ht;exact ZQ (okeStep.pl _ t ht)) (ZL rfl)) (nt (sr (mO (tN (k+4*i+1)) rfl (fO (QB (tv (tN (k+4*i+1)) rfl) (VEv.int .i64 1) (by omega)) (aO (tN ((k+4*i+1)+1)) rfl (nt (sr ?_)))))))))))
  refine mO (T.os 4 0 0 (((Jb Zv 4 k a i).map (Qj true)).length)) rfl (mO (tN i) rfl (mO (tN ((k+4*i+1)+1)) rfl (fO (B.indexAddrO (i:=i) (tv (T.os 4 0 0 (((Jb Zv 4 k a i).map (Qj true)).length)) rfl) (tv (tN i) rfl) rfl (by (simp only [List.length_map];omega)) U81 Yt J6) (fO (OF.fieldAddrP (tv (T.orp 4 0 i 0) rfl) YK) (cO (B.storeP (us:= [(tN ((k+4*i+1)+1))]) (rows':=(((((Jb Zv 4 k a i).set i (D.Step.mk ((k+4*i:Nat):Int) x1.Word x1.A x1.B)).set i (D.Step.mk ((k+4*i:Nat):Int) (Qba (((k+4*i+1):Nat):Int)) x1.A x1.B)).set i (D.Step.mk ((k+4*i:Nat):Int) (Qba (((k+4*i+1):Nat):Int)) ((((k+4*i+1)+1):Nat):Int) x1.B)).map (Qj true))) (row:=(Qj true (D.Step.mk ((k+4*i:Nat):Int) (Qba (((k+4*i+1):Nat):Int)) x1.A x1.B))) (tv (T.orp 4 0 i 2) rfl) (tv (tN ((k+4*i+1)+1)) rfl) nofun rfl (Qv _ (QgW (by (simp only [List.length_set];omega)))) rfl (lb rfl) Yk Q8 (bc rfl bn) (by intro r hr t ht;obtain ⟨x,_,rfl⟩:=List.mem_map.1 hr;rw [Qfi] at ht;exact ZQ (okeStep.pl _ t ht)) (ZL rfl)) (nt (sr (mO (tN ((k+4*i+1)+1)) rfl (fO (QB (tv (tN ((k+4*i+1)+1)) rfl) (VEv.int .i64 1) (by omega)) (aO (tN (((k+4*i+1)+1)+1)) rfl (nt ?_)))))))))))
  refine sr (mO (T.os 4 0 0 (((Jb Zv 4 k a i).map (Qj true)).length)) rfl (mO (tN i) rfl (mO (tN (((k+4*i+1)+1)+1)) rfl (fO (B.indexAddrO (i:=i) (tv (T.os 4 0 0 (((Jb Zv 4 k a i).map (Qj true)).length)) rfl) (tv (tN i) rfl) rfl (by (simp only [List.length_map];omega)) U81 Yt J6) (fO (OF.fieldAddrP (tv (T.orp 4 0 i 0) rfl) Yn) (cO (B.storeP (us:= [(tN (((k+4*i+1)+1)+1))]) (rows':=((((((Jb Zv 4 k a i).set i (D.Step.mk ((k+4*i:Nat):Int) x1.Word x1.A x1.B)).set i (D.Step.mk ((k+4*i:Nat):Int) (Qba (((k+4*i+1):Nat):Int)) x1.A x1.B)).set i (D.Step.mk ((k+4*i:Nat):Int) (Qba (((k+4*i+1):Nat):Int)) ((((k+4*i+1)+1):Nat):Int) x1.B)).set i (D.Step.mk ((k+4*i:Nat):Int) (Qba (((k+4*i+1):Nat):Int)) ((((k+4*i+1)+1):Nat):Int) (((((k+4*i+1)+1)+1):Nat):Int))).map (Qj true))) (row:=(Qj true (D.Step.mk ((k+4*i:Nat):Int) (Qba (((k+4*i+1):Nat):Int)) ((((k+4*i+1)+1):Nat):Int) x1.B))) (tv (T.orp 4 0 i 3) rfl) (tv (tN (((k+4*i+1)+1)+1)) rfl) nofun rfl (Qv _ (QgW (by (simp only [List.length_set];omega)))) rfl (lb rfl) Yk Q8 (bc rfl bn) (by intro r hr t ht;obtain ⟨x,_,rfl⟩:=List.mem_map.1 hr;rw [Qfi] at ht;exact ZQ (okeStep.pl _ t ht)) (ZL rfl)) (nt (VRun.region (mO (tN (((k+4*i+1)+1)+1)) rfl (fO (QB (tv (tN (((k+4*i+1)+1)+1)) rfl) (VEv.int .i64 1) (by omega)) (aO (tN ((((k+4*i+1)+1)+1)+1)) rfl ?_)))))))))))
  refine VRunO.nil (vinB.n (tn (VRun.region (mO (tN i) rfl (fO (QB (tv (tN i) rfl) (VEv.int .i64 1) (by omega)) (aO (tN (i+1)) rfl (VRunO.nil (tn ?_))))))))
  have hi1:i+1≤a.length:=by omega
  have he2:(((((Jb Zv 4 k a i).set i (D.Step.mk ((k+4*i:Nat):Int) x1.Word x1.A x1.B)).set i (D.Step.mk ((k+4*i:Nat):Int) (Qba (((k+4*i+1):Nat):Int)) x1.A x1.B)).set i (D.Step.mk ((k+4*i:Nat):Int) (Qba (((k+4*i+1):Nat):Int)) ((((k+4*i+1)+1):Nat):Int) x1.B)).set i (D.Step.mk ((k+4*i:Nat):Int) (Qba (((k+4*i+1):Nat):Int)) ((((k+4*i+1)+1):Nat):Int) (((((k+4*i+1)+1)+1):Nat):Int)))=Jb Zv 4 k a (i+1):=by (simp only [List.set_set];refine QiX ?_;omega)
  refine ⟨(i+1:Nat),?_,?_,Wk.mk (fun k=>k) ?_ ?_ ?_⟩
  ·trivial
  ·omega
  ·exact (bc ⟨(congrArg (fun n_=>T.os 4 0 0 n_) (show ((Jb Zv 4 k a i).map (Qj true)).length=((Jb Zv 4 k a (i+1)).map (Qj true)).length from (by rw [List.length_map,List.length_map,QbG hI',QbG hi1]))),rfl⟩ (bc ⟨(congrArg (T.int .i64) (show ((((((k+4*i+1)+1)+1)+1):Nat):Int)=((k+4*(i+1):Nat):Int) from (by rfl))),rfl⟩ (b2 (b2 bn))))
  ·exact (bc ⟨(congrArg (fun l_=>some (Obj.rows 4 (List.map (Qj true) l_))) he2),(lb rfl),rfl⟩ bn)
  ·exact nd rfl
 refine VRun.exit (vthn.e (vthn.e (vinB.e (tn (sr (mO (tN (k+4*i)) rfl (aO (tN (k+4*i)) rfl (nt (rt ?_)))))))))
 refine vmut.r (r0:=((k+4*i:Nat):Int)) (rows:=((Jb Zv 4 k a i).map (Qj true))) rfl rfl rfl ?_ ?_ rfl
 ·(push_cast;omega)
 ·show List.map _ (Jb Zv 4 k a i)=List.map _ (JJ Zv 4 k a.length)
  refine congrArg (List.map _) ?_
  exact QiU hI' (by omega)
noncomputable section
def Zs (k:Nat):Int:=((k:Nat):Int)
end
theorem Qa6 (n:Nat) (a:List Int) (k:Nat) (hk:k+1*a.length≤YW):Mut (Qq Tryz.prog (n+1)) 21 1 (a.map (Qa true)) [(tN k)] (some ((k+1*a.length:Nat):Int)) ((JJ Zs 1 k a.length).map (Qa true)):=by
 refine Mut.intro (rt:=4) Tryz.func21 rfl rfl rfl (by kernel_rfl) (Zw (fun _=>rfl) _) (Zw (fun _=>rfl) _) (E0:= [(1,(tN k))]) rfl ?_
 obtain ⟨hlim,hmx,hmax⟩:=QC
 refine sr (fO (OF.assign (VEv.int .i64 0)) (nt (sq (sr (fO (OF.assign (VEv.int .i64 0)) (nt (VRun.block ?_)))))))
 have he1:a=Jb Zs 1 k a 0:=by rfl
 refine VRun.loop (A:=Nat) (fun s_=> [(0,(T.os 1 0 0 (((Jb Zs 1 k a s_).map (Qa true)).length))),(1,(tN (k+1*s_))),(4,(tN 0)),(5,(tN s_))]) (fun s_=>Q3 [(0,(Obj.rows 1 ((Jb Zs 1 k a s_).map (Qa true))))]) 1 (fun s_=>s_≤a.length) (fun s_=>a.length - s_) (0:Nat) ?_ (Wk.mk (fun k=>k) ?_ ?_ ?_) ?_
 ·(simp;done)
 ·exact (bc ⟨(congrArg (fun l_=>T.os 1 0 0 (List.map (Qa true) l_).length) he1),rfl⟩ (bc ⟨(congrArg (T.int .i64) (show ((k:Nat):Int)=((k+1*0:Nat):Int) from (by rfl))),rfl⟩ (b2 (b2 bn))))
 ·exact (bc ⟨(congrArg (fun l_=>some (Obj.rows 1 (List.map (Qa true) l_))) he1),(lb rfl),rfl⟩ bn)
 ·exact nd rfl
 rintro i (hI':i≤a.length)
 show VRun _ _ _ [(0,(T.os 1 0 0 (((Jb Zs 1 k a i).map (Qa true)).length))),(1,(tN (k+1*i))),(4,(tN 0)),(5,(tN i))] (Q3 [(0,(Obj.rows 1 ((Jb Zs 1 k a i).map (Qa true))))]) 1 _
 have hml:=QbG (f:=Zs) (w:=1) (k:=k) hI'
 refine sq (sr (mO (tN i) rfl (mO (T.os 1 0 0 (((Jb Zs 1 k a i).map (Qa true)).length)) rfl (lO (B.lenO (m:=(Jb Zs 1 k a i).length) (tv (T.os 1 0 0 (((Jb Zs 1 k a i).map (Qa true)).length)) rfl) Zg (List.length_map ..)) (fO (Zf (tv (tN i) rfl) (tv (tN ((Jb Zs 1 k a i).length)) rfl)) (nt ?_))))))
 refine cd (i<(Jb Zs 1 k a i).length) rfl (fun fhc0=> ?_) fun fhc0=> ?_
 ·refine sk ?_
  refine tn (sq (VRun.block (sr (mO (T.os 1 0 0 (((Jb Zs 1 k a i).map (Qa true)).length)) rfl (mO (tN i) rfl (mO (tN (k+1*i)) rfl ?_))))))
  obtain ⟨x1,hx1⟩:∃x,(Jb Zs 1 k a i)[i]? =some x:=⟨_,List.getElem?_eq_getElem (by omega)⟩
  refine fO (B.indexAddrO (i:=i) (tv (T.os 1 0 0 (((Jb Zs 1 k a i).map (Qa true)).length)) rfl) (tv (tN i) rfl) rfl (by (simp only [List.length_map];omega)) Zg Q8 Yk) (cO (B.storeP (us:= [(tN (k+1*i))]) (rows':=(((Jb Zs 1 k a i).set i ((k+1*i:Nat):Int)).map (Qa true))) (row:=(Qa true x1)) (tv (T.orp 1 0 i 0) rfl) (tv (tN (k+1*i)) rfl) nofun rfl (Qv _ hx1) rfl (lb rfl) Yk Q8 (bc rfl bn) (by intro r hr t ht;obtain ⟨x,_,rfl⟩:=List.mem_map.1 hr;rw [Qmk] at ht;exact ZQ (okInt.pl _ t ht)) (ZL rfl)) (nt (VRun.region (mO (tN (k+1*i)) rfl (fO (QB (tv (tN (k+1*i)) rfl) (VEv.int .i64 1) (by omega)) (aO (tN (k+1*i+1)) rfl (VRunO.nil (vinB.n (tn (VRun.region (mO (tN i) rfl ?_)))))))))))
  refine fO (QB (tv (tN i) rfl) (VEv.int .i64 1) (by omega)) (aO (tN (i+1)) rfl (VRunO.nil (tn ?_)))
  have hi1:i+1≤a.length:=by omega
  have he2:((Jb Zs 1 k a i).set i ((k+1*i:Nat):Int))=Jb Zs 1 k a (i+1):=by (refine QiX ?_;omega)
  refine ⟨(i+1:Nat),?_,?_,Wk.mk (fun k=>k) ?_ ?_ ?_⟩
  ·trivial
  ·omega
  ·exact (bc ⟨(congrArg (fun n_=>T.os 1 0 0 n_) (show ((Jb Zs 1 k a i).map (Qa true)).length=((Jb Zs 1 k a (i+1)).map (Qa true)).length from (by rw [List.length_map,List.length_map,QbG hI',QbG hi1]))),rfl⟩ (bc ⟨(congrArg (T.int .i64) (show (((k+1*i+1):Nat):Int)=((k+1*(i+1):Nat):Int) from (by rfl))),rfl⟩ (b2 (b2 bn))))
  ·exact (bc ⟨(congrArg (fun l_=>some (Obj.rows 1 (List.map (Qa true) l_))) he2),(lb rfl),rfl⟩ bn)
  ·exact nd rfl
 refine VRun.exit (vthn.e (vthn.e (vinB.e (tn (sr (mO (tN (k+1*i)) rfl (aO (tN (k+1*i)) rfl (nt (rt ?_)))))))))
 refine vmut.r (r0:=((k+1*i:Nat):Int)) (rows:=((Jb Zs 1 k a i).map (Qa true))) rfl rfl rfl ?_ ?_ rfl
 ·(push_cast;omega)
 ·show List.map _ (Jb Zs 1 k a i)=List.map _ (JJ Zs 1 k a.length)
  refine congrArg (List.map _) ?_
  exact QiU hI' (by omega)
theorem Qef (n:Nat) (a:List Int) (k:Nat) (hh:a=JJ Zs 1 k a.length) (hk:k+1*a.length≤YW):Pure (Qq Tryz.prog (n+1)) 22 [(rd 1 Qa a),(tN k)] (tN (k+1*a.length)):=by
 refine Pure.intro (rs:= [ResultVar.tmp 4]) Tryz.func22 rfl rfl rfl (E0:= [(0,(rd 1 Qa a)),(1,(tN k))]) rfl ?_
 obtain ⟨hlim,hmx,hmax⟩:=QC
 refine sr (fO (OF.assign (VEv.int .i64 0)) (nt (sq (sr (fO (OF.assign (VEv.int .i64 0)) (nt (VRun.block ?_)))))))
 refine VRun.loop (A:=Nat) (fun s_=> [(0,(rd 1 Qa a)),(1,(tN (k+1*s_))),(5,(tN s_))]) (fun s_=>Q3 []) 0 (fun s_=>s_≤a.length) (fun s_=>a.length - s_) (0:Nat) ?_ (Wk.mk (fun k=>k) ?_ ?_ ?_) ?_
 ·(simp;done)
 ·exact (b2 (bc ⟨(congrArg (T.int .i64) (show ((k:Nat):Int)=((k+1*0:Nat):Int) from (by rfl))),rfl⟩ (b2 bn)))
 ·exact bn
 ·exact nd rfl
 rintro i (hI':i≤a.length)
 show VRun _ _ _ [(0,(rd 1 Qa a)),(1,(tN (k+1*i))),(5,(tN i))] (Q3 []) 0 _
 refine sq (sr (mO (tN i) rfl (mO (rd 1 Qa a) rfl (lO (B.lenR (m:=a.length) (tv (rd 1 Qa a) rfl) Zg (List.length_map ..)) (fO (Zf (tv (tN i) rfl) (tv (tN a.length) rfl)) (nt ?_))))))
 refine cd (i<a.length) rfl (fun fhc0=> ?_) fun fhc0=> ?_
 ·refine sk ?_
  refine tn (sq (VRun.block (sq (sr (mO (rd 1 Qa a) rfl (mO (tN i) rfl ?_))))))
  obtain ⟨x1,hx1⟩:∃x,a[i]? =some x:=⟨_,List.getElem?_eq_getElem (by omega)⟩
  refine fO (OF.indexAddrR (row:=(Qa false x1)) (i:=i) (tv (rd 1 Qa a) rfl) (tv (tN i) rfl) rfl (Qv _ hx1) Zg Q8 Yk) (lO (OL.loadR1 (t:=(tI x1)) (tv (T.rp [(tI x1)]) rfl) rfl QU) (mO (tN (k+1*i)) rfl (fO (xne (tv (tI x1) rfl) (tv (tN (k+1*i)) rfl)) (nt ?_))))
  refine cn (x1=((k+1*i:Nat):Int)) rfl (fun fhc1=> ?_) fun fhc1=> ?_
  ·exact absurd (QmM hh hx1) fhc1
  refine sk (tn (VRun.region (mO (tN (k+1*i)) rfl (fO (QB (tv (tN (k+1*i)) rfl) (VEv.int .i64 1) (by omega)) (aO (tN (k+1*i+1)) rfl (VRunO.nil (vinB.n (tn (VRun.region (mO (tN i) rfl (fO (QB (tv (tN i) rfl) (VEv.int .i64 1) (by omega)) ?_)))))))))))
  refine aO (tN (i+1)) rfl (VRunO.nil (tn ?_))
  refine ⟨(i+1:Nat),?_,?_,Wk.mk (fun k=>k) ?_ ?_ ?_⟩
  ·trivial
  ·omega
  ·exact (b2 (bc ⟨(congrArg (T.int .i64) (show (((k+1*i+1):Nat):Int)=((k+1*(i+1):Nat):Int) from (by rfl))),rfl⟩ (b2 bn)))
  ·exact bn
  ·exact nd rfl
 refine VRun.exit (vthn.e (vthn.e (vinB.e (tn (sr (mO (tN (k+1*i)) rfl (aO (tN (k+1*i)) rfl (nt (rt (vi (n':=((k+1*i:Nat):Int)) rfl ?_))))))))))
 omega
end Go.Proofs.YtcccmceoplcciaaGreat.AE
namespace Go.Proofs.YtcccmceoplcciaaGreat.AE
open Go Go.RowKit
set_option linter.unusedVariables false
set_option linter.unusedSimpArgs false
set_option maxRecDepth 20000
set_option maxHeartbeats 2000000
noncomputable section
def QO (c:D.Clue):Nat:=1+4*c.Play.length
def Z2 (k:Nat) (c:D.Clue):D.Clue:=D.Clue.mk ((k:Nat):Int) (JJ Zv 4 (k+1) c.Play.length)
theorem Ql5 (k:Nat) (c:D.Clue):QO (Z2 k c)=QO c:=by unfold QO Z2;simp only [YZ]
theorem Qmh (c:D.Clue):QO c≤5*(1+QQ c):=by
 have:=QV (z:=ZG) c.Play
 unfold QO QQ
 omega
def Jk : Nat→List D.Clue→List D.Clue:=mkL Z2 QO
def QM : Nat→List D.Clue→Nat:=Jr QO
theorem Zx (k k2:Nat) (l:List D.Clue):QM k (Jk k2 l)=QM k l:=Qid Ql5 k k2 l
theorem Qiv (k:Nat) (l:List D.Clue):QM k l≤k+5*zL QQ l:=Qlo Qmh k l
theorem Qd0 (k:Nat) (l:List D.Clue):(Jk k l).length=l.length:=Qa3 k l
end
theorem Qdy (n:Nat) (a:List D.Clue) (k:Nat) (hk:QM k a≤YW):LoanM (Qq Tryz.prog (n+3)) 76 [(2,(a.map (Qg true)))] [(T.os 2 0 0 ((a.map (Qg true)).length)),(tN k)] (tN (QM k a)) [(2,((Jk k a).map (Qg true)))]:=by
 refine LoanM.intro (rs:= [ResultVar.tmp 4]) [(0,(T.os 2 0 0 ((a.map (Qg true)).length)))] Tryz.func76 rfl rfl rfl rfl (bc ⟨by kernel_rfl,rfl⟩ bn) (PinsTo.at (And.intro trivial ⟨_,(.head _),(.os _ _)⟩)) (.int _ _) (bc (okeClue.cleanMap _) bn) (E0:= [(0,(T.os 2 0 0 ((a.map (Qg true)).length))),(1,(tN k))]) rfl (fun asg=> ?_)
 obtain ⟨hlim,hmx,hmax⟩:=QC
 show VRun _ _ _ [(0,(T.os 2 0 0 ((a.map (Qg true)).length))),(1,(tN k))] (Q3 [(0,(Obj.rowsN 2 (a.map (Qg true)) (asg 0)))]) 1 _
 have hk2:=hk
 unfold QM at hk2
 have hla:=Qi3 (w:=QO) (fun x=>Nat.le_add_right _ _) k a
 refine sr (fO (OF.assign (VEv.int .i64 0)) (nt (sq (sr (fO (OF.assign (VEv.int .i64 0)) (nt (VRun.block ?_)))))))
 have he1:a=mkT Z2 QO k a 0:=by rfl
 refine VRun.loop (A:=Nat) (fun s_=> [(0,(T.os 2 0 0 (((mkT Z2 QO k a s_).map (Qg true)).length))),(1,(tN (Jr QO k (a.take s_)))),(4,(tN 0)),(5,(tN s_))]) (fun s_=>Q3 [(0,(Obj.rowsN 2 ((mkT Z2 QO k a s_).map (Qg true)) (asg 0)))]) 1 (fun s_=>s_≤a.length) (fun s_=>a.length - s_) (0:Nat) ?_ (Wk.mk (fun k=>k) ?_ ?_ ?_) ?_
 ·(simp;done)
 ·exact (bc ⟨(congrArg (fun l_=>T.os 2 0 0 (List.map (Qg true) l_).length) he1),rfl⟩ (bc ⟨(congrArg (T.int .i64) (show ((k:Nat):Int)=((Jr QO k (a.take 0):Nat):Int) from (by rfl))),rfl⟩ (b2 (b2 bn))))
 ·exact (bc ⟨(congrArg (fun l_=>some (Obj.rowsN 2 (List.map (Qg true) l_) (asg 0))) he1),(lb rfl),rfl⟩ bn)
 ·exact nd rfl
 rintro i (hI':i≤a.length)
 show VRun _ _ _ [(0,(T.os 2 0 0 (((mkT Z2 QO k a i).map (Qg true)).length))),(1,(tN (Jr QO k (a.take i)))),(4,(tN 0)),(5,(tN i))] (Q3 [(0,(Obj.rowsN 2 ((mkT Z2 QO k a i).map (Qg true)) (asg 0)))]) 1 _
 have hml:=Qet (f:=Z2) (w:=QO) k a i
 have hme:=Qh3 (w:=QO) k a i
 refine sq (sr (mO (tN i) rfl (mO (T.os 2 0 0 (((mkT Z2 QO k a i).map (Qg true)).length)) rfl (lO (B.lenO (m:=(mkT Z2 QO k a i).length) (tv (T.os 2 0 0 (((mkT Z2 QO k a i).map (Qg true)).length)) rfl) U35 (List.length_map ..)) (fO (Zf (tv (tN i) rfl) (tv (tN ((mkT Z2 QO k a i).length)) rfl)) (nt ?_))))))
 refine cd (i<(mkT Z2 QO k a i).length) rfl (fun fhc0=> ?_) fun fhc0=> ?_
 ·refine sk ?_
  refine tn (sq (VRun.block (sr (mO (T.os 2 0 0 (((mkT Z2 QO k a i).map (Qg true)).length)) rfl (mO (tN i) rfl (mO (tN (Jr QO k (a.take i))) rfl ?_))))))
  obtain ⟨x1,hx1⟩:∃x,(mkT Z2 QO k a i)[i]? =some x:=⟨_,List.getElem?_eq_getElem (by omega)⟩
  (have hy1:=QmB (show i<a.length by omega) hx1;have hnx:=Qlg (w:=QO) (k:=k) hy1;have hnt:=Qh3 (w:=QO) k a (i+1);have hw2:QO x1=1+4*x1.Play.length:=rfl)
  refine fO (B.indexAddrO (i:=i) (tv (T.os 2 0 0 (((mkT Z2 QO k a i).map (Qg true)).length)) rfl) (tv (tN i) rfl) rfl (by (simp only [List.length_map];omega)) U35 Qbb QgJ) (fO (OF.fieldAddrP (tv (T.orp 2 0 i 0) rfl) QdG) (cO (B.storeN (t0:=(tI x1.Sense)) (rows':=(((mkT Z2 QO k a i).set i (D.Clue.mk ((Jr QO k (a.take i):Nat):Int) x1.Play)).map (Qg true))) (row:=(Qg true x1)) (tv (T.orp 2 0 i 0) rfl) (tv (tN (Jr QO k (a.take i))) rfl) rfl rfl (Qv _ hx1) rfl rfl Yk Q8 (ZL rfl)) (nt (sr (mO (tN (Jr QO k (a.take i))) rfl (fO (QB (tv (tN (Jr QO k (a.take i))) rfl) (VEv.int .i64 1) (by omega)) (aO (tN (Jr QO k (a.take i)+1)) rfl (nt (VRun.region (mO (T.os 2 0 0 (((mkT Z2 QO k a i).map (Qg true)).length)) rfl (mO (tN i) rfl ?_)))))))))))
  refine fO (B.indexAddrO (i:=i) (tv (T.os 2 0 0 (((mkT Z2 QO k a i).map (Qg true)).length)) rfl) (tv (tN i) rfl) rfl (by (simp only [List.length_map];omega)) U35 Qbb QgJ) (fO (OF.fieldAddrP (tv (T.orp 2 0 i 0) rfl) QdF) (VRunO.nest (row:=(Qg true (D.Clue.mk ((Jr QO k (a.take i):Nat):Int) x1.Play))) (rs:=(x1.Play.map (Qj true))) (rs':=((JJ Zv 4 (Jr QO k (a.take i)+1) x1.Play.length).map (Qj true))) (rows':=((((mkT Z2 QO k a i).set i (D.Clue.mk ((Jr QO k (a.take i):Nat):Int) x1.Play)).set i (D.Clue.mk ((Jr QO k (a.take i):Nat):Int) (JJ Zv 4 (Jr QO k (a.take i)+1) x1.Play.length))).map (Qg true))) (n:=(((Jr QO k (a.take i)+1):Nat):Int)) (r:=(((Jr QO k (a.take i)+1)+4*x1.Play.length:Nat):Int)) rfl (tv (T.orp 2 0 i 1) rfl) rfl (Qv _ (QgW (by omega))) rfl QkD (tv (tN (Jr QO k (a.take i)+1)) rfl) rfl (Qdz (n+0) x1.Play (Jr QO k (a.take i)+1) (by omega)) (okeStep.cleanMap _) (ZL rfl) (aO (tN ((Jr QO k (a.take i)+1)+4*x1.Play.length)) rfl (VRunO.nil (vinB.n (tn (VRun.region (mO (tN i) rfl (fO (QB (tv (tN i) rfl) (VEv.int .i64 1) (by omega)) (aO (tN (i+1)) rfl (VRunO.nil ?_)))))))))))
  refine tn ?_
  have he2:(((mkT Z2 QO k a i).set i (D.Clue.mk ((Jr QO k (a.take i):Nat):Int) x1.Play)).set i (D.Clue.mk ((Jr QO k (a.take i):Nat):Int) (JJ Zv 4 (Jr QO k (a.take i)+1) x1.Play.length)))=mkT Z2 QO k a (i+1):=by (rw [List.set_set];exact QlO hy1 rfl)
  refine ⟨(i+1:Nat),?_,?_,Wk.mk (fun k=>k) ?_ ?_ ?_⟩
  ·omega
  ·omega
  ·exact (bc ⟨(congrArg (fun n_=>T.os 2 0 0 n_) (show ((mkT Z2 QO k a i).map (Qg true)).length=((mkT Z2 QO k a (i+1)).map (Qg true)).length from (by rw [List.length_map,List.length_map,Qet,Qet]))),rfl⟩ (bc ⟨(congrArg (T.int .i64) (show (((Jr QO k (a.take i)+1)+4*x1.Play.length:Nat):Int)=((Jr QO k (a.take (i+1)):Nat):Int) from (by omega))),rfl⟩ (b2 (b2 bn))))
  ·exact (bc ⟨(congrArg (fun l_=>some (Obj.rowsN 2 (List.map (Qg true) l_) (asg 0))) he2),(lb rfl),rfl⟩ bn)
  ·exact nd rfl
 refine VRun.exit (vthn.e (vthn.e (vinB.e (tn (sr (mO (tN (Jr QO k (a.take i))) rfl (aO (tN (Jr QO k (a.take i))) rfl (nt (rt ?_)))))))))
 have hnew0:mkT Z2 QO k a i=Jk k a:=by
  exact Qk3 (by omega)
 exact vloanM.r (L1:= [(2,((mkT Z2 QO k a i).map (Qg true)))]) (fun k=>k) (VRes.tmp (t:=(tN (Jr QO k (a.take i)))) rfl VRes.nil) (congrArg (T.int .i64) (show ((Jr QO k (a.take i):Nat):Int)=((QM k a:Nat):Int) by rw [List.take_of_length_le (by omega)];rfl)) (bc (congrArg (fun n_=>T.os 2 0 0 n_) (show ((mkT Z2 QO k a i).map (Qg true)).length=(a.map (Qg true)).length from (by rw [List.length_map,List.length_map,Qet]))) bn) (And.intro rfl (trivial)) (by rw [hnew0])
end Go.Proofs.YtcccmceoplcciaaGreat.AE
namespace Go.Proofs.YtcccmceoplcciaaGreat.AE
open Go Go.RowKit
set_option linter.unusedVariables false
set_option linter.unusedSimpArgs false
set_option maxRecDepth 20000
set_option maxHeartbeats 2000000
noncomputable section
theorem QgM {ok:Nat→Prop} [DecidablePred ok]:∀(f n k:Nat),n≤k→k<QaC ok f n→ok k
 | 0,n,k,h1,h2=>by simp only [QaC] at h2;omega
 | f+1,n,k,h1,h2=>by
  simp only [QaC] at h2
  split at h2
  ·by_cases e:k=n
   ·subst e;assumption
   ·exact QgM f (n+1) k (by omega) h2
  ·omega
theorem Qk2 {g:D.Grid} {cell k:Nat} {down:Bool} (hg:gridOk g) (hc:cell<g.Cells.size) (hk:k<Qo g cell down):0≤((cell:Nat):Int)+((k:Nat):Int)*(if down=true then g.Cols else 1)∧((cell:Nat):Int)+((k:Nat):Int)*(if down=true then g.Cols else 1)<((g.Cells.size:Nat):Int):=by
 have hB:=hg.2.1
 obtain ⟨_,_,_,h4,h5⟩:=QbB hg hc
 unfold Qo at hk
 cases down with
 | true =>
  rw [if_pos rfl] at hk
  unfold QfQ at hk
  split at hk
  ·have h1:=QgM _ _ k (Nat.zero_le _) hk
   have h2:=h5 k h1.1
   have h3:0≤((k:Nat):Int)*g.Cols:=Int.mul_nonneg (by omega) (by omega)
   rw [if_pos rfl]
   omega
  ·omega
 | false =>
  rw [if_neg (by simp)] at hk
  unfold Qgc at hk
  split at hk
  ·have h1:=QgM _ _ k (Nat.zero_le _) hk
   have h2:=h4 k h1.1
   rw [if_neg (by simp),Int.mul_one]
   omega
  ·omega
theorem QdU (g:D.Grid):∀i,∀s∈(Qd g i).1,∃c:Nat,c<i∧s.Cell=((c:Nat):Int)∧s.Length=((Qo g c s.Down:Nat):Int)
 | 0,s,hs=>by simp [Qd] at hs
 | i+1,s,hs=>by
  rw [Yy,List.mem_append,List.mem_append] at hs
  rcases hs with (hs | hs) | hs
  ·obtain ⟨c,h1,h2⟩:=QdU g i s hs
   exact ⟨c,by omega,h2⟩
  ·split at hs
   ·obtain rfl:=List.mem_singleton.1 hs
    exact ⟨i,by omega,rfl,rfl⟩
   ·cases hs
  ·split at hs
   ·obtain rfl:=List.mem_singleton.1 hs
    exact ⟨i,by omega,rfl,rfl⟩
   ·cases hs
theorem Qf1 {g:D.Grid} {s:D.Slot} {c:Int} (hs:s∈Qb g) (hc:c∈Qi g s s.Length.toNat):0≤c∧c<((g.Cells.size:Nat):Int):=by
 have hg:=(QaQ hs).1
 unfold Qb at hs
 rw [if_pos hg] at hs
 obtain ⟨c0,h1,h2,h3⟩:=QdU g _ s hs
 unfold Qi at hc
 obtain ⟨k,hk,rfl⟩:=List.mem_map.1 hc
 rw [List.mem_range] at hk
 have:=Qk2 (down:=s.Down) hg h1 (k:=k) (by omega)
 rw [h2]
 unfold Qfa
 exact this
def Y3 (f:ByteArray) (l:List Int):List Int:=l.map fun c=>Qu f (Int.toNat c)
theorem QjC {f:ByteArray} {l:List Int} {i:Nat} {c:Int} (h:l[i]? =some c):Y3 f (l.take i)++ [Qu f (Int.toNat c)]=Y3 f (l.take (i+1)):=by
 unfold Y3
 rw [List.take_add_one,h,Option.toList_some,List.map_append];rfl
theorem Qlh (f:ByteArray) (l:List Int):(Y3 f l).length=l.length:=by simp [Y3]
def JA (f:ByteArray) (l:List Int):ByteArray:=Yc (Y3 f l)
theorem Qkz {f:ByteArray} {l:List Int} {i:Nat} {c:Int} (h:l[i]? =some c) (h1:0≤c∧c<((f.size:Nat):Int)):JA f (l.take (i+1))=JA f (l.take i)++f.extract (Int.toNat c) (Int.toNat (c+1)):=by
 have hc:Int.toNat c<f.data.toList.length:=by rw [Array.length_toList];show Int.toNat c<f.size;omega
 refine QbE ?_
 unfold JA Y3
 rw [List.take_add_one,h,Option.toList_some,List.map_append,ZV,ByteArray.data_append,Array.toList_append,ZV,List.map_append]
 congr 1
 rw [ByteArray.data_extract,Array.toList_extract,List.extract_eq_take_drop,show Int.toNat (c+1) - Int.toNat c=1 by omega,List.drop_eq_getElem_cons hc]
 have hb:Qu f (Int.toNat c)=((f.data.toList[Int.toNat c]).toNat:Int):=by
  rw [← YN (show Int.toNat c<f.size by omega)];rfl
 simp [hb]
theorem Qh1 (f:ByteArray) (l:List Int):(JA f l).size=l.length:=by
 show (JA f l).data.size=_
 rw [← Array.length_toList]
 unfold JA Y3
 rw [ZV]
 simp
def QG (g:D.Grid) (f:ByteArray) (slot:Int):ByteArray:=if 0≤slot then (match (Qb g)[slot.toNat]? with | some s=>if QI g f then JA f (Qi g s s.Length.toNat) else ⟨#[]⟩ | none=>⟨#[]⟩) else ⟨#[]⟩
theorem Qct {g:D.Grid} {f:ByteArray} {slot:Int} (h:¬QI g f∨¬(0≤slot∧slot≤(((Qb g).length:Nat):Int) - 1)):QG g f slot=⟨#[]⟩:=by
 unfold QG
 by_cases h0:0≤slot
 ·rw [if_pos h0]
  cases hs:(Qb g)[slot.toNat]? with
  | none=>rfl
  | some s =>
   have:=(List.getElem?_eq_some_iff.1 hs).1
   simp only
   rw [if_neg]
   rcases h with h | h
   ·exact h
   ·exact absurd ⟨h0,by omega⟩ h
 ·rw [if_neg h0]
theorem QeU {g:D.Grid} {f:ByteArray} {slot:Int} {s:D.Slot} (h0:0≤slot) (hs:(Qb g)[slot.toNat]? =some s) (hf:QI g f):QG g f slot=JA f (Qi g s s.Length.toNat):=by
 unfold QG
 rw [if_pos h0,hs]
 exact if_pos hf
def Zc (g:D.Grid) (f:ByteArray):List ByteArray:=if QI g f then (QD g).map (JA f) else []
theorem Qhc {g:D.Grid} {f:ByteArray} {i:Nat} {x:ByteArray} (h:(Zc g f)[i]? =some x):x=QG g f ((i:Nat):Int):=by
 unfold Zc at h
 split at h
 ·rename_i hf
  rw [List.getElem?_map] at h
  obtain ⟨y,h1,rfl⟩:=Option.map_eq_some_iff.1 h
  obtain ⟨s,h2,rfl⟩:=Qez h1
  exact (QeU (by omega) h2 hf).symm
 ·simp at h
theorem Qdx {g:D.Grid} {f:ByteArray} (h:QI g f):(Zc g f).length=(Qb g).length:=by
 unfold Zc
 rw [if_pos h,List.length_map,QaO]
theorem QmO {g:D.Grid} {s:D.Slot} {f:ByteArray} {i:Nat} {c:Int} (hf:QI g f) (h:(if s∈Qb g then Qi g s s.Length.toNat else [])[i]? =some c):0≤c∧c<((f.size:Nat):Int):=by
 have hm:=List.mem_of_getElem? h
 split at hm
 ·rename_i hs
  have:=Qf1 hs hm
  have:=hf.2.1
  omega
 ·cases hm
end
theorem JS (n:Nat) (g:D.Grid) (f:ByteArray) (slot:Int) (hc:g.Cells.size≤maxLen) (hf:f.size≤maxLen):Pure (Qq Tryz.prog (n+5)) 92 [(T.agg (Qc false g)),(tS f),(tI slot)] (tS (QG g f slot)):=by
 refine Pure.intro (rs:= [ResultVar.tmp 6]) Tryz.func92 rfl rfl rfl (E0:= [(0,(T.agg (Qc false g))),(1,(tS f)),(2,(tI slot))]) rfl ?_
 obtain ⟨hlim,hmx,hmax⟩:=QC
 have hsl:=Ze g
 refine sr (kO (B.box (ts:=(Qc false g)) (tv (T.agg (Qc false g)) rfl) nofun rfl) (fO (OF.assign (VEv.str (⟨#[]⟩:ByteArray))) (nt (sr (lO (OL.loadOn (us:=(Qc false g)) (tv (T.op 0 0) rfl) rfl QX QT (lb rfl) rfl) (cO (OC.callF (us:= [(T.agg (Qc false g))]) (r:=(T.sl true 4 ((Qb g).map (Qf true)))) (r':=(T.os 4 1 0 (((Qb g).map (Qf true)).length))) (objs:= [(Obj.rows 4 ((Qb g).map (Qf true)))]) rfl (vc (tv (T.agg (Qc false g)) rfl) vn) (LendL.cons (lg Qs) ln) (ZA (n+1) g (by assumption)) rfl) (aO (T.os 4 1 0 (((Qb g).map (Qf true)).length)) rfl (nt (sq (sr (lO (OL.loadOn (us:=(Qc false g)) (tv (T.op 0 0) rfl) rfl QX QT (lb rfl) rfl) ?_)))))))))))
 refine mO (tS f) rfl (cO (cS (vc (tv (T.agg (Qc false g)) rfl) (vc (tv (tS f) rfl) vn)) (LendL.cons (lg Qs) (lp rfl ln)) (Qaw (n+1) g f (by assumption) (by assumption)) rfl rfl) (fO (QW (tv (tB (decide (QI g f))) rfl)) (mO (tB (!(decide (QI g f)))) rfl ?_)))
 refine VRunO.joinB 7 [18,19,20,21,22,23] 24 (tB (decide ((¬(QI g f))∨(¬(0≤slot∧slot≤((((Qb g).length:Nat):Int) - 1)))))) ?_ ?_
 ·refine gn (QI g f) (fun fhg17_1=> ?_) fun fhg17_1=> ?_
  ·refine Qy 6 4 false 17 (ny fhg17_1) rfl rfl rfl ?_
   refine fO (OF.pickT (VEv.tmpB rfl (ny fhg17_1)) (VEv.bool true)) (VRunO.nil ?_)
   exact jq (congrArg T.bool (kOT fhg17_1)) (js rfl (js rfl (js rfl (js rfl (js rfl (js rfl (jn)))))))
  ·refine gF (nz fhg17_1) rfl rfl (OF.move (tv (tI slot) rfl)) ?_
   refine gF (nz fhg17_1) rfl rfl (OF.move (tv (T.os 4 1 0 (((Qb g).map (Qf true)).length)) rfl)) (gL (nz fhg17_1) rfl rfl (B.lenO (m:=(Qb g).length) (tv (T.os 4 1 0 (((Qb g).map (Qf true)).length)) rfl) Z9 (List.length_map ..)) (gF (nz fhg17_1) rfl rfl (B.sub (n:=((((Qb g).length:Nat):Int) - 1)) (tv (tN ((Qb g).length)) rfl) (VEv.int .i64 1) (by (rw [Qt (by omega)];done))) (VRunO.chain (VWant.on rfl rfl (nz fhg17_1)) (cS (vc (tv (tI slot) rfl) (vc (VEv.int .i64 0) (vc (tv (tI ((((Qb g).length:Nat):Int) - 1)) rfl) vn))) (ZJ rfl) (QH (n+3) slot 0 ((((Qb g).length:Nat):Int) - 1)) rfl rfl) (gF (nz fhg17_1) rfl rfl (QW (tv (tB (decide (0≤slot∧slot≤((((Qb g).length:Nat):Int) - 1)))) rfl)) (fO (OF.pickF (VEv.tmpB rfl (nz fhg17_1)) (tv (tB (!(decide (0≤slot∧slot≤((((Qb g).length:Nat):Int) - 1))))) rfl)) (VRunO.nil ?_))))))
   exact jq (congrArg T.bool (kOF (not_not_intro fhg17_1) dN)) (js rfl (js rfl (js rfl (js rfl (js rfl (js rfl (jn)))))))
 refine nt ?_
 refine cd ((¬(QI g f))∨(¬(0≤slot∧slot≤((((Qb g).length:Nat):Int) - 1)))) rfl (fun fhc0=> ?_) fun fhc0=> ?_
 ·refine sr ?_
  refine fO (OF.assign (VEv.str (⟨#[]⟩:ByteArray))) (nt (rt (tr ?_)))
  refine vfin.eq (r':=(tS (⟨#[]⟩:ByteArray))) ?_ (vfin.r (VRes.tmp (t:=(tS (⟨#[]⟩:ByteArray))) rfl VRes.nil) (Give.str _))
  show (tS (⟨#[]⟩:ByteArray))=(tS (QG g f slot))
  refine congrArg T.str ?_
  exact (Qct fhc0).symm
 have hs0:0≤slot∧slot≤(((Qb g).length:Nat):Int) - 1:=Classical.byContradiction fun h=>fhc0 (.inr h)
 have hfi:QI g f:=Classical.byContradiction fun h=>fhc0 (.inl h)
 have hsz:=hfi.1.size
 refine sk (tn (sr (fO (OF.assign (VEv.str (⟨#[]⟩:ByteArray))) (nt (sq (VRun.draw (B:= [[],[],[],[2,1],[1,2,3],[3,2,1,4,0],[0,4,1,2,3,5]]) (by kernel_rfl) (by kernel_rfl) (lD (OL.loadOn (us:=(Qc false g)) (tv (T.op 0 0) rfl) rfl QX QT (lb rfl) rfl) rfl rfl (mD (T.os 4 1 0 (((Qb g).map (Qf true)).length)) rfl rfl (mD (tI slot) rfl rfl ?_)))))))))
 obtain ⟨x1,hx1⟩:∃x,(Qb g)[(Int.toNat slot)]? =some x:=⟨_,List.getElem?_eq_getElem (by omega)⟩
 skip
 refine fD (B.indexAddrO (i:=(Int.toNat slot)) (tv (T.os 4 1 0 (((Qb g).map (Qf true)).length)) rfl) (tv (tI slot) rfl) (by omega) (by (simp only [List.length_map];omega)) Z9 Zk Qa7) rfl rfl (lD (OL.loadPn (us:=(Qf false x1)) (row:=(Qf true x1)) (tv (T.orp 4 1 (Int.toNat slot) 0) rfl) rfl (Qv _ hx1) QcD Zk (lb rfl) rfl (bc rfl (bc rfl (bc rfl (bc rfl bn))))) rfl rfl (VRunD.quiet (bi:= [3,2,1,4,0]) rfl VWant.always rfl rfl rfl bn (OC.callF (us:= [(T.agg (Qc false g)),(T.agg (Qf false x1))]) (r:=(T.sl true 1 ((if x1∈Qb g then Qi g x1 x1.Length.toNat else []).map (Qa true)))) (r':=(T.os 1 2 0 (((if x1∈Qb g then Qi g x1 x1.Length.toNat else []).map (Qa true)).length))) (objs:= [(Obj.rows 1 ((if x1∈Qb g then Qi g x1 x1.Length.toNat else []).map (Qa true)))]) rfl (vc (tv (T.agg (Qc false g)) rfl) (vc (tv (T.agg (Qf false x1)) rfl) vn)) (LendL.cons (lg Qs) (LendL.cons (lg okeSlot) ln)) (JY (n+0) g x1 (by assumption)) rfl) (fD (OF.assign (tv (T.os 1 2 0 (((if x1∈Qb g then Qi g x1 x1.Length.toNat else []).map (Qa true)).length)) rfl)) rfl rfl (VRunD.nil (tn (sq (sr (fO (OF.assign (VEv.int .i64 0)) (nt (VRun.block ?_))))))))))
 refine VRun.loop (A:=Nat) (fun s_=> [(1,(tS f)),(6,(tS (⟨#[]⟩:ByteArray))),(8,(tS (JA f ((if x1∈Qb g then Qi g x1 x1.Length.toNat else []).take s_)))),(9,(T.os 1 0 0 (((if x1∈Qb g then Qi g x1 x1.Length.toNat else []).map (Qa true)).length))),(10,(tN s_))]) (fun s_=>Q3 [(0,(Obj.rows 1 ((if x1∈Qb g then Qi g x1 x1.Length.toNat else []).map (Qa true))))]) 1 (fun s_=>s_≤(if x1∈Qb g then Qi g x1 x1.Length.toNat else []).length) (fun s_=>(if x1∈Qb g then Qi g x1 x1.Length.toNat else []).length - s_) (0:Nat) ?_ (Wk.mk (fun k=>if k=0 then 2 else k) ?_ ?_ ?_) ?_
 ·(simp;done)
 ·exact (b2 (b2 (bc ⟨(congrArg T.str (show (⟨#[]⟩:ByteArray)=JA f ((if x1∈Qb g then Qi g x1 x1.Length.toNat else []).take 0) from (by rfl))),rfl⟩ (b2 (b2 bn)))))
 ·exact (b3 bn)
 ·exact nd rfl
 rintro i (hI':i≤(if x1∈Qb g then Qi g x1 x1.Length.toNat else []).length)
 show VRun _ _ _ [(1,(tS f)),(6,(tS (⟨#[]⟩:ByteArray))),(8,(tS (JA f ((if x1∈Qb g then Qi g x1 x1.Length.toNat else []).take i)))),(9,(T.os 1 0 0 (((if x1∈Qb g then Qi g x1 x1.Length.toNat else []).map (Qa true)).length))),(10,(tN i))] (Q3 [(0,(Obj.rows 1 ((if x1∈Qb g then Qi g x1 x1.Length.toNat else []).map (Qa true))))]) 1 _
 have hI1:=hI'
 have hl6:=QgQ g x1
 have hps:=Qh1 f ((if x1∈Qb g then Qi g x1 x1.Length.toNat else []).take i)
 have htl:=Yp (if x1∈Qb g then Qi g x1 x1.Length.toNat else []) i
 refine sq (sr (mO (tN i) rfl (mO (T.os 1 0 0 (((if x1∈Qb g then Qi g x1 x1.Length.toNat else []).map (Qa true)).length)) rfl (lO (B.lenO (m:=(if x1∈Qb g then Qi g x1 x1.Length.toNat else []).length) (tv (T.os 1 0 0 (((if x1∈Qb g then Qi g x1 x1.Length.toNat else []).map (Qa true)).length)) rfl) Zg (List.length_map ..)) (fO (Zf (tv (tN i) rfl) (tv (tN ((if x1∈Qb g then Qi g x1 x1.Length.toNat else []).length)) rfl)) (nt ?_))))))
 refine cd (i<(if x1∈Qb g then Qi g x1 x1.Length.toNat else []).length) rfl (fun fhc1=> ?_) fun fhc1=> ?_
 ·refine sk ?_
  refine tn (sq (VRun.block (VRun.draw (B:= [[],[],[],[],[3,2],[2,3,4],[],[],[7,6],[6,7,8],[8,7,6,9],[9,6,7,8,10,4,3,2,5,1],[1,5,2,3,4,10,8,7,6,9,11,0],[0,11,9,6,7,8,10,4,3,2,5,1,12]]) (by kernel_rfl) (by kernel_rfl) (mD (tS (JA f ((if x1∈Qb g then Qi g x1 x1.Length.toNat else []).take i))) rfl rfl (mD (tS f) rfl rfl (mD (T.os 1 0 0 (((if x1∈Qb g then Qi g x1 x1.Length.toNat else []).map (Qa true)).length)) rfl rfl (mD (tN i) rfl rfl ?_)))))))
  obtain ⟨x2,hx2⟩:∃x,(if x1∈Qb g then Qi g x1 x1.Length.toNat else [])[i]? =some x:=⟨_,List.getElem?_eq_getElem (by omega)⟩
  have hcb:=QmO hfi hx2
  refine fD (B.indexAddrO (i:=i) (tv (T.os 1 0 0 (((if x1∈Qb g then Qi g x1 x1.Length.toNat else []).map (Qa true)).length)) rfl) (tv (tN i) rfl) rfl (by (simp only [List.length_map];omega)) Zg Q8 Yk) rfl rfl (lD (OL.loadP1 (t:=(tI x2)) (row:=(Qa true x2)) (tv (T.orp 1 0 i 0) rfl) rfl (Qv _ hx2) rfl rfl QU) rfl rfl (mD (T.os 1 0 0 (((if x1∈Qb g then Qi g x1 x1.Length.toNat else []).map (Qa true)).length)) rfl rfl (mD (tN i) rfl rfl (fD (B.indexAddrO (i:=i) (tv (T.os 1 0 0 (((if x1∈Qb g then Qi g x1 x1.Length.toNat else []).map (Qa true)).length)) rfl) (tv (tN i) rfl) rfl (by (simp only [List.length_map];omega)) Zg Q8 Yk) rfl rfl (lD (OL.loadP1 (t:=(tI x2)) (row:=(Qa true x2)) (tv (T.orp 1 0 i 0) rfl) rfl (Qv _ hx2) rfl rfl QU) rfl rfl (fD (B.add (n:=(x2+1)) (tv (tI x2) rfl) (VEv.int .i64 1) (by (rw [Qt (by omega)];done))) rfl rfl (lD (OL.sliceS (i:=(Int.toNat x2)) (j:=(Int.toNat (x2+1))) (tv (tS f) rfl) (tv (tI x2) rfl) (tv (tI (x2+1)) rfl) (by omega) (by omega) (by omega) (by omega) U9) rfl rfl (fD (B.sadd (tv (tS (JA f ((if x1∈Qb g then Qi g x1 x1.Length.toNat else []).take i))) rfl) (tv (tS (f.extract (Int.toNat x2) (Int.toNat (x2+1)))) rfl) (by (simp only [ByteArray.size_extract];omega))) rfl rfl (fD (OF.assign (tv (tS (JA f ((if x1∈Qb g then Qi g x1 x1.Length.toNat else []).take i)++(f.extract (Int.toNat x2) (Int.toNat (x2+1))))) rfl)) rfl rfl (VRunD.nil (vinB.n ?_)))))))))))
  refine tn (VRun.region (mO (tN i) rfl (fO (QB (tv (tN i) rfl) (VEv.int .i64 1) (by omega)) (aO (tN (i+1)) rfl (VRunO.nil (tn ?_))))))
  refine ⟨(i+1:Nat),?_,?_,Wk.mk (fun k=>k) ?_ ?_ ?_⟩
  ·trivial
  ·omega
  ·exact (b2 (b2 (bc ⟨(congrArg T.str (show (JA f ((if x1∈Qb g then Qi g x1 x1.Length.toNat else []).take i)++(f.extract (Int.toNat x2) (Int.toNat (x2+1))))=JA f ((if x1∈Qb g then Qi g x1 x1.Length.toNat else []).take (i+1)) from (by exact (Qkz hx2 hcb).symm))),rfl⟩ (b2 (b2 bn)))))
  ·exact (b3 bn)
  ·exact nd rfl
 refine VRun.exit (vthn.e (vthn.e (vinB.e (tn (sr (mO (tS (JA f ((if x1∈Qb g then Qi g x1 x1.Length.toNat else []).take i))) rfl (aO (tS (JA f ((if x1∈Qb g then Qi g x1 x1.Length.toNat else []).take i))) rfl (nt (rt ?_)))))))))
 refine vfin.eq (r':=(tS (JA f ((if x1∈Qb g then Qi g x1 x1.Length.toNat else []).take i)))) ?_ (vfin.r (VRes.tmp (t:=(tS (JA f ((if x1∈Qb g then Qi g x1 x1.Length.toNat else []).take i)))) rfl VRes.nil) (Give.str _))
 show (tS (JA f ((if x1∈Qb g then Qi g x1 x1.Length.toNat else []).take i)))=(tS (QG g f slot))
 refine congrArg T.str ?_
 rw [QeU hs0.1 hx1 hfi,YX hI1 fhc1,QgB hx1]
theorem Qdn (n:Nat) (f:ByteArray) (l:List Int) (hl:l.length≤64) (hb:∀c∈l,0≤c∧c<((f.size:Nat):Int)):Pure (Qq Tryz.prog (n+1)) 149 [(tS f),(rd 1 Qa l)] (tS (JA f l)):=by
 refine Pure.intro (rs:= [ResultVar.tmp 4]) Tryz.func149 rfl rfl rfl (E0:= [(0,(tS f)),(1,(rd 1 Qa l))]) rfl ?_
 obtain ⟨hlim,hmx,hmax⟩:=QC
 refine sr (fO (OF.assign (VEv.str (⟨#[]⟩:ByteArray))) (nt (sr (fO (OF.assign VEv.nils) (nt (sq (sr (mO (rd 1 Qa l) rfl (lO (B.lenR (m:=l.length) (tv (rd 1 Qa l) rfl) Zg (List.length_map ..)) (fO (OF.move (VEv.int .i64 0)) (nt ?_)))))))))))
 refine VRun.block (VRun.wk (Wk.phantom 5 1 rfl) ?_)
 have he1: []=((Y3 f (l.take 0)).map (QR true)):=by rfl
 refine VRun.loop (A:=Nat) (fun s_=> [(0,(tS f)),(4,(tS (⟨#[]⟩:ByteArray))),(5,(T.os 1 0 0 (((Y3 f (l.take s_)).map (QR true)).length))),(8,(rd 1 Qa l)),(9,(tN l.length)),(10,(tN s_))]) (fun s_=>Q3 [(0,(Obj.rows 1 ((Y3 f (l.take s_)).map (QR true))))]) 1 (fun s_=>s_≤l.length) (fun s_=>l.length - s_) (0:Nat) ?_ (Wk.mk (fun k=>k) ?_ ?_ ?_) ?_
 ·(simp;done)
 ·exact (b2 (b2 (bc ⟨(congrArg (fun n_=>T.os 1 0 0 n_) (show 0=((Y3 f (l.take 0)).map (QR true)).length from (by rfl))),rfl⟩ (b2 (b2 (b2 bn))))))
 ·exact (bc ⟨(congrArg (fun l_=>some (Obj.rows 1 l_)) he1),(lb rfl),rfl⟩ bn)
 ·exact nd rfl
 rintro i (hI':i≤l.length)
 show VRun _ _ _ [(0,(tS f)),(4,(tS (⟨#[]⟩:ByteArray))),(5,(T.os 1 0 0 (((Y3 f (l.take i)).map (QR true)).length))),(8,(rd 1 Qa l)),(9,(tN l.length)),(10,(tN i))] (Q3 [(0,(Obj.rows 1 ((Y3 f (l.take i)).map (QR true))))]) 1 _
 have hI1:=hI'
 have htl:=Yp l i
 have hcl:=Qlh f (l.take i)
 refine sr (fO (Zf (tv (tN i) rfl) (tv (tN l.length) rfl)) (nt (sq ?_)))
 refine cd (i<l.length) rfl (fun fhc0=> ?_) fun fhc0=> ?_
 ·refine sk ?_
  refine tn (sq (VRun.block (sr ?_)))
  obtain ⟨x1,hx1⟩:∃x,l[i]? =some x:=⟨_,List.getElem?_eq_getElem (by omega)⟩
  have hbx:=hb _ (List.mem_of_getElem? hx1)
  refine fO (OF.indexAddrR (row:=(Qa false x1)) (i:=i) (tv (rd 1 Qa l) rfl) (tv (tN i) rfl) rfl (Qv _ hx1) Zg Q8 Yk) (lO (OL.loadR1 (t:=(tI x1)) (tv (T.rp [(tI x1)]) rfl) rfl QU) (aO (tI x1) rfl (nt (VRun.region (mO (T.os 1 0 0 (((Y3 f (l.take i)).map (QR true)).length)) rfl (mO (tS f) rfl (mO (tI x1) rfl ?_)))))))
  have hb2:(Int.toNat x1)<f.size:=(by omega)
  refine fO (B.index (n:=(Qu f (Int.toNat x1))) (i:=(Int.toNat x1)) (tv (tS f) rfl) (tv (tI x1) rfl) (by omega) hb2 U9 (YN hb2)) (kO (OM.buildSlice (l:= [(T.int .u8 (Qu f (Int.toNat x1)))]) (VEvp.cons (tv (T.int .u8 (Qu f (Int.toNat x1))) rfl) VEvp.nil) rfl (by decide) (bc (nofun) bn) (bc ((bc (rfl) bn)) bn) (bc (rfl) bn) QdI zo5 (by kernel_rfl) rfl (by rw [sz5];decide) sz5 (Nat.le_of_ble_eq_true rfl)) (cO (B.append (rows:=((Y3 f (l.take i)).map (QR true))) (rows2:= [[(T.int .u8 (Qu f (Int.toNat x1)))]]) (rows3:=((Y3 f (l.take i)++ [Qu f (Int.toNat x1)]).map (QR true))) (VDst.own (tv (T.os 1 0 0 (((Y3 f (l.take i)).map (QR true)).length)) rfl) rfl rfl) (VSrc.own (tv (T.os 1 1 0 1) rfl) rfl rfl QdI (bc (bc rfl bn) bn)) (by decide) QdI sz5 (by decide) zo5 rfl (of_decide_eq_true (by kernel_rfl)) (by (simp only [List.length_map,List.length_append,List.length_cons,List.length_nil,List.length_replicate,List.length_set,List.length_drop,List.length_take,YW] at *;omega)) ((List.map_append (f:=QR true) (l₁:=Y3 f (l.take i)) (l₂:= [Qu f (Int.toNat x1)])).symm)) (aO (T.os 1 2 0 (((Y3 f (l.take i)++ [Qu f (Int.toNat x1)]).map (QR true)).length)) rfl (VRunO.nil (vinB.n (tn (VRun.region (fO (QB (tv (tN i) rfl) (VEv.int .i64 1) (by omega)) (mO (tN (i+1)) rfl (VRunO.nil (tn ?_)))))))))))
  have he3:(Y3 f (l.take i)++ [Qu f (Int.toNat x1)])=Y3 f (l.take (i+1)):=by exact QjC hx1
  refine ⟨(i+1:Nat),?_,?_,Wk.mk (fun k=>if k=0 then 2 else k) ?_ ?_ ?_⟩
  ·trivial
  ·omega
  ·exact (b2 (b2 (bc ⟨(congrArg (fun l_=>T.os 1 2 0 (List.map (QR true) l_).length) he3),rfl⟩ (b2 (b2 (b2 bn))))))
  ·exact (bc ⟨(congrArg (fun l_=>some (Obj.rows 1 (List.map (QR true) l_))) he3),(lb rfl),rfl⟩ bn)
  ·exact nd rfl
 refine VRun.exit (vthn.e (vthn.e (vinB.e (tn (sr (mO (T.os 1 0 0 (((Y3 f (l.take i)).map (QR true)).length)) rfl (lO (B.convBS (l:=Y3 f (l.take i)) (tv (T.os 1 0 0 (((Y3 f (l.take i)).map (QR true)).length)) rfl) rfl (List.length_map ..) QdI U5 U9) (aO (tS (Yc (Y3 f (l.take i)))) rfl (nt (rt ?_))))))))))
 refine vfin.eq (r':=(tS (Yc (Y3 f (l.take i))))) ?_ (vfin.r (VRes.tmp (t:=(tS (Yc (Y3 f (l.take i))))) rfl VRes.nil) (Give.str _))
 show (tS (Yc (Y3 f (l.take i))))=(tS (JA f l))
 refine congrArg T.str ?_
 rw [YX hI' fhc0];rfl
theorem Qa9 (n:Nat) (g:D.Grid) (f:ByteArray) (hc:g.Cells.size≤maxLen) (hf:f.size≤maxLen):Pure (Qq Tryz.prog (n+5)) 122 [(T.agg (Qc false g)),(tS f)] (T.sl true 1 ((Zc g f).map (ZR true))):=by
 refine Pure.intro (rs:= [ResultVar.tmp 4]) Tryz.func122 rfl rfl rfl (E0:= [(0,(T.agg (Qc false g))),(1,(tS f))]) rfl ?_
 obtain ⟨hlim,hmx,hmax⟩:=QC
 have hsl:=Ze g
 have hll:=QaO g
 refine sr (kO (B.box (ts:=(Qc false g)) (tv (T.agg (Qc false g)) rfl) nofun rfl) (fO (OF.assign VEv.nils) (nt (sq (sr (lO (OL.loadOn (us:=(Qc false g)) (tv (T.op 0 0) rfl) rfl QX QT (lb rfl) rfl) (mO (tS f) rfl (cO (cS (vc (tv (T.agg (Qc false g)) rfl) (vc (tv (tS f) rfl) vn)) (LendL.cons (lg Qs) (lp rfl ln)) (Qcb (n+1) g f (by assumption) (by assumption)) rfl rfl) (fO (QW (tv (tB (decide (QI g f))) rfl)) (nt ?_))))))))))
 refine cn (QI g f) rfl (fun fhc0=> ?_) fun fhc0=> ?_
 ·refine sr ?_
  refine fO (OF.assign VEv.nils) (nt (rt (tr ?_)))
  refine vfin.eq (r':=(T.sl true 1 [])) ?_ (vfin.r (VRes.tmp (t:=T.nils) rfl VRes.nil) (Give.nils 1))
  show (T.sl true 1 [])=(T.sl true 1 ((Zc g f).map (ZR true)))
  refine congrArg (fun l_=>T.sl true 1 (List.map (ZR true) l_)) (a₁:= []) ?_
  exact (if_neg fhc0).symm
 refine sk (tn (sr (fO (OF.assign VEv.nils) (nt (sq (sr (lO (OL.loadOn (us:=(Qc false g)) (tv (T.op 0 0) rfl) rfl QX QT (lb rfl) rfl) (cO (OC.callF (us:= [(T.agg (Qc false g))]) (r:=(T.sl true 1 ((QD g).map ((YM 1 Qa) true)))) (r':=(T.os 1 1 0 (((QD g).map ((YM 1 Qa) true)).length))) (objs:= [(Obj.rows 1 ((QD g).map ((YM 1 Qa) true)))]) rfl (vc (tv (T.agg (Qc false g)) rfl) vn) (LendL.cons (lg Qs) ln) (Jm (n+0) g (by assumption)) rfl) (lO (B.lenO (m:=(QD g).length) (tv (T.os 1 1 0 (((QD g).map ((YM 1 Qa) true)).length)) rfl) Qfg (List.length_map ..)) (fO (OF.move (VEv.int .i64 0)) (nt ?_)))))))))))
 refine VRun.block (VRun.wk (Wk.freeze (sz:=1) (k:=1) (rows':=((QD g).map ((YM 1 Qa) false))) [13] (bc rfl bn) rfl rfl ((Qkr okInt).fzMap _ _)) (VRun.wk (Wk.phantom 5 1 rfl) ?_))
 have he1: []=((((QD g).take 0).map (JA f)).map (ZR true)):=by rfl
 refine VRun.loop (A:=Nat) (fun s_=> [(1,(tS f)),(4,T.nils),(5,(T.os 1 0 0 (((((QD g).take s_).map (JA f)).map (ZR true)).length))),(13,(rd 1 (YM 1 Qa) (QD g))),(14,(tN ((QD g).length))),(15,(tN s_))]) (fun s_=>Q3 [(0,(Obj.rows 1 ((((QD g).take s_).map (JA f)).map (ZR true))))]) 1 (fun s_=>s_≤(QD g).length) (fun s_=>(QD g).length - s_) (0:Nat) ?_ (Wk.mk (fun k=>if k=0 then 2 else k) ?_ ?_ ?_) ?_
 ·(simp;done)
 ·exact (b2 (b2 (bc ⟨(congrArg (fun n_=>T.os 1 2 0 n_) (show 0=((((QD g).take 0).map (JA f)).map (ZR true)).length from (by rfl))),rfl⟩ (b2 (b2 (b2 bn))))))
 ·exact (bc ⟨(congrArg (fun l_=>some (Obj.rows 1 l_)) he1),(lb rfl),rfl⟩ bn)
 ·exact nd rfl
 rintro i (hI':i≤(QD g).length)
 show VRun _ _ _ [(1,(tS f)),(4,T.nils),(5,(T.os 1 0 0 (((((QD g).take i).map (JA f)).map (ZR true)).length))),(13,(rd 1 (YM 1 Qa) (QD g))),(14,(tN ((QD g).length))),(15,(tN i))] (Q3 [(0,(Obj.rows 1 ((((QD g).take i).map (JA f)).map (ZR true))))]) 1 _
 have hI1:=hI'
 have htl:=Yp (QD g) i
 refine sr (fO (Zf (tv (tN i) rfl) (tv (tN ((QD g).length)) rfl)) (nt (sq ?_)))
 refine cd (i<(QD g).length) rfl (fun fhc1=> ?_) fun fhc1=> ?_
 ·refine sk ?_
  refine tn (sq (VRun.block (sr ?_)))
  obtain ⟨x1,hx1⟩:∃x,(QD g)[i]? =some x:=⟨_,List.getElem?_eq_getElem (by omega)⟩
  obtain ⟨y1,hy1,hq1⟩:=Qez hx1
  refine fO (OF.indexAddrR (row:=((YM 1 Qa) false x1)) (i:=i) (tv (rd 1 (YM 1 Qa) (QD g)) rfl) (tv (tN i) rfl) rfl (Qv _ hx1) Qfg QbX Qdp) (lO (OL.loadR1 (t:=(rd 1 Qa x1)) (tv (T.rp [(rd 1 Qa x1)]) rfl) rfl YY) (aO (rd 1 Qa x1) rfl (nt (VRun.region (mO (T.os 1 0 0 (((((QD g).take i).map (JA f)).map (ZR true)).length)) rfl (mO (tS f) rfl (mO (rd 1 Qa x1) rfl (cO (cS (vc (tv (tS f) rfl) (vc (tv (rd 1 Qa x1) rfl) vn)) (ZJ rfl) (Qdn (n+3) f x1 (by (rw [hq1];exact Nat.le_trans (QbC hy1) (by decide))) (by (rw [hq1];intro c hc;have:=Qf1 (List.mem_of_getElem? hy1) hc;have:=fhc0.2.1;omega))) rfl rfl) (kO (OM.buildSlice (l:= [(tS (JA f x1))]) (VEvp.cons (tv (tS (JA f x1)) rfl) VEvp.nil) rfl (by decide) (bc (nofun) bn) (bc ((bc (rfl) bn)) bn) (bc (rfl) bn) QiG zo9 (by kernel_rfl) rfl (by rw [sz9];decide) sz9 (Nat.le_of_ble_eq_true rfl)) (cO (B.append (rows:=((((QD g).take i).map (JA f)).map (ZR true))) (rows2:= [[(tS (JA f x1))]]) (rows3:=((((QD g).take i).map (JA f)++ [JA f x1]).map (ZR true))) (VDst.own (tv (T.os 1 0 0 (((((QD g).take i).map (JA f)).map (ZR true)).length)) rfl) rfl rfl) (VSrc.own (tv (T.os 1 1 0 1) rfl) rfl rfl QiG (bc (bc rfl bn) bn)) (by decide) QiG sz9 (by decide) zo9 rfl (of_decide_eq_true (by kernel_rfl)) (by (simp only [List.length_map,List.length_append,List.length_cons,List.length_nil,List.length_replicate,List.length_set,List.length_drop,List.length_take,YW] at *;omega)) ((List.map_append (f:=ZR true) (l₁:=((QD g).take i).map (JA f)) (l₂:= [JA f x1])).symm)) (aO (T.os 1 2 0 (((((QD g).take i).map (JA f)++ [JA f x1]).map (ZR true)).length)) rfl ?_)))))))))))
  refine VRunO.nil (vinB.n (tn (VRun.region (fO (QB (tv (tN i) rfl) (VEv.int .i64 1) (by omega)) (mO (tN (i+1)) rfl (VRunO.nil (tn ?_)))))))
  have he2:(((QD g).take i).map (JA f)++ [JA f x1])=((QD g).take (i+1)).map (JA f):=by (rw [List.take_add_one,hx1,Option.toList_some,List.map_append];rfl)
  refine ⟨(i+1:Nat),?_,?_,Wk.mk (fun k=>if k=0 then 2 else k) ?_ ?_ ?_⟩
  ·trivial
  ·omega
  ·exact (b2 (b2 (bc ⟨(congrArg (fun l_=>T.os 1 2 0 (List.map (ZR true) l_).length) he2),rfl⟩ (b2 (b2 (b2 bn))))))
  ·exact (bc ⟨(congrArg (fun l_=>some (Obj.rows 1 (List.map (ZR true) l_))) he2),(lb rfl),rfl⟩ bn)
  ·exact nd rfl
 refine VRun.exit (vthn.e (vthn.e (vinB.e (tn (sr (mO (T.os 1 0 0 (((((QD g).take i).map (JA f)).map (ZR true)).length)) rfl (aO (T.os 1 0 0 (((((QD g).take i).map (JA f)).map (ZR true)).length)) rfl (nt (rt ?_)))))))))
 refine vfin.eq (r':=(T.sl true 1 ((((QD g).take i).map (JA f)).map (ZR true)))) ?_ (vfin.r (VRes.tmp (t:=(T.os 1 0 0 (((((QD g).take i).map (JA f)).map (ZR true)).length))) rfl VRes.nil) (Give.os rfl rfl (okStr.cleanMap _)))
 show (T.sl true 1 ((((QD g).take i).map (JA f)).map (ZR true)))=(T.sl true 1 ((Zc g f).map (ZR true)))
 refine congrArg (fun l_=>T.sl true 1 (List.map (ZR true) l_)) ?_
 rw [YX hI' fhc1,Zc,if_pos (by simpa using fhc0)]
end Go.Proofs.YtcccmceoplcciaaGreat.AE
